import Derived.Test.YtnobkcplpbkigaaGreatDoorZFnPlantPrint0
namespace Go.Proofs.YtnobkcplpbkigaaGreatDoor.Pure
open Go Go.RowKit Go.Aw Go.Proofs.YtnobkcplpbkigaaGreatDoor.VP
set_option linter.unusedVariables false
set_option linter.unusedSimpArgs false
/-! ### general words -/
theorem aU {α : Type} {c : Prop} {d : Decidable c} {g f : Nat → Option α} {r : α} (h : c) (k : Ev g r) : Ev (fun n => @ite _ c d (g n) (f n)) r := Ev.congr (fun _ => if_pos h) k
theorem cB {α : Type} {c : Prop} {d : Decidable c} {g f : Nat → Option α} {r : α} (h : ¬ c) (k : Ev f r) : Ev (fun n => @ite _ c d (g n) (f n)) r := Ev.congr (fun _ => if_neg h) k
theorem aZ {α : Type} {a r : α} (h : a = r) : Ev (fun _ => some a) r := h ▸ Ev.now a
theorem pK {α β : Type} {g : Option α} {a : α} {r : β} {f : Nat → α → Option β} (h : g = some a) (k : Ev (fun n => f n a) r) : Ev (fun n => g.bind (f n)) r := by
  subst h; exact k
theorem gJ {α : Type} {g : Nat → Option α} {a r : α} (k : Ev g a) (h : a = r) : Ev g r := h ▸ k
theorem bL {α : Type} {c : Prop} {d : Decidable c} {g f : Nat → Option α} {r : α} (h : c → Ev g r) (k : ¬ c → Ev f r) : Ev (fun n => @ite _ c d (g n) (f n)) r := by
  by_cases q : c
  · exact aU q (h q)
  · exact cB q (k q)
theorem w64 {x : Int} (h0 : -9223372036854775808 ≤ x) (h1 : x ≤ 9223372036854775807) : wrap64 x = x := by unfold wrap64; omega
theorem dP {i n : Nat} (h : i < n) (hn : n ≤ 9223372036854775807) : wrap64 ((i : Int) + 1) = ((i + 1 : Nat) : Int) := by unfold wrap64; omega
theorem tI {i : Nat} (h : ¬ i = 0) (hi : i ≤ 9223372036854775807) : wrap64 ((i : Int) - 1) = ((i - 1 : Nat) : Int) := by unfold wrap64; omega
theorem kT {α : Type} (d : α) (xs : List α) (i : Nat) (h : i < xs.length) : xs.getD i d = xs[i] := by
  rw [List.getD_eq_getElem?_getD, List.getElem?_eq_getElem h]; rfl
theorem jN {α : Type} (d : α) (xs : List α) (i : Nat) (h : i < xs.length) : xs.getD i d ∈ xs := by
  rw [kT d xs i h]; exact List.getElem_mem h
theorem yH {α : Type} (d : α) (xs : List α) (i j : Nat) (v : α) (h : i < xs.length) : (xs.set i v).getD j d = if j = i then v else xs.getD j d := by
  rw [List.getD_eq_getElem?_getD, List.getD_eq_getElem?_getD, List.getElem?_set]
  by_cases e : i = j
  · subst e; simp [h]
  · rw [if_neg e, if_neg (fun q => e q.symm)]
theorem fH {α : Type} (d : α) (xs : List α) (i : Nat) : aV d xs (i : Int) = xs.getD i d := by simp [aV]
theorem aKV (xs : List Int) (i : Nat) : rd xs (i : Int) = xs.getD i 0 := by simp [rd]
theorem aGS {α β : Type} (e : β) (d : α) (f : α → β) (l : List α) (i : Nat) (h : i < l.length) : (l.map f).getD i e = f (l.getD i d) := by
  rw [kT e _ i (by simpa using h), kT d l i h, List.getElem_map]
/-- a list told from its end: what is left from place i on -/
theorem eQ {α : Type} (d : α) (l : List α) {P : Nat → List α → Prop} (h0 : P l.length []) (hs : ∀ i x r, i < l.length → l.getD i d = x → x ∈ l → l.drop (i + 1) = r → P (i + 1) r → P i (x :: r)) : P 0 l := by
  have key : ∀ (n i : Nat), i + n = l.length → P i (l.drop i) := fun n => by
    induction n with
    | zero =>
      intro i hi
      have e : i = l.length := by omega
      subst e; rw [List.drop_length]; exact h0
    | succ n ih =>
      intro i hi
      have hlt : i < l.length := by omega
      have e : l.drop i = l.getD i d :: l.drop (i + 1) := by rw [List.drop_eq_getElem_cons hlt, kT d l i hlt]
      rw [e]
      exact hs i _ _ hlt rfl (jN d l i hlt) rfl (ih (i + 1) (by omega))
  simpa using key l.length 0 (by omega)
/-- the element ahead of place i -/
def ahead {α : Type} (d : α) (l : List α) (i : Nat) : Option α := if i = 0 then none else some (l.getD (i - 1) d)
theorem jD {α : Type} (d : α) (l : List α) : ahead d l 0 = none := rfl
theorem jG {α : Type} (d : α) (l : List α) (i : Nat) : ahead d l (i + 1) = some (l.getD i d) := by simp [ahead]
theorem jZ {α : Type} (d : α) (l : List α) (i : Nat) (h : ¬ i = 0) : ahead d l i = some (l.getD (i - 1) d) := if_neg h
/-! ### the order of bytes -/
theorem lJ : ∀ x : List UInt8, Op.bytesLess x x = false
  | [] => rfl
  | a :: x => by simp [Op.bytesLess, lJ x]
theorem lM : ∀ x y : List UInt8, Op.bytesLess x y = true → Op.bytesLess y x = false
  | [], [], _ => rfl
  | [], _ :: _, _ => rfl
  | _ :: _, [], h => by simp [Op.bytesLess] at h
  | a :: x, b :: y, h => by
    simp only [Op.bytesLess, Bool.or_eq_true, Bool.and_eq_true, decide_eq_true_eq, beq_iff_eq] at h
    simp only [Op.bytesLess, Bool.or_eq_false_iff, Bool.and_eq_false_iff, decide_eq_false_iff_not, beq_eq_false_iff_ne]
    rcases h with h | ⟨rfl, h⟩
    · exact ⟨UInt8.lt_asymm h, .inl (fun e => by subst e; exact UInt8.lt_irrefl _ h)⟩
    · exact ⟨UInt8.lt_irrefl _, .inr (lM x y h)⟩
theorem qW : ∀ x y : List UInt8, Op.bytesLess x y = true ∨ x = y ∨ Op.bytesLess y x = true
  | [], [] => .inr (.inl rfl)
  | [], _ :: _ => .inl rfl
  | _ :: _, [] => .inr (.inr rfl)
  | a :: x, b :: y => by
    simp only [Op.bytesLess, Bool.or_eq_true, Bool.and_eq_true, decide_eq_true_eq, beq_iff_eq, List.cons.injEq]
    rcases UInt8.lt_or_lt_of_ne (a := a) (b := b) |> fun f => (Classical.em (a = b)).imp id f with rfl | h | h
    · rcases qW x y with q | rfl | q
      · exact .inl (.inr ⟨rfl, q⟩)
      · exact .inr (.inl ⟨rfl, rfl⟩)
      · exact .inr (.inr (.inr ⟨rfl, q⟩))
    · exact .inl (.inl h)
    · exact .inr (.inr (.inl h))
theorem lD : ∀ x y z : List UInt8, Op.bytesLess x y = true → Op.bytesLess y z = true → Op.bytesLess x z = true
  | [], _, _ :: _, _, _ => rfl
  | [], [], [], h, _ => h
  | [], _ :: _, [], _, h => by simp [Op.bytesLess] at h
  | _ :: _, [], _, h, _ => by simp [Op.bytesLess] at h
  | _ :: _, _ :: _, [], _, h => by simp [Op.bytesLess] at h
  | a :: x, b :: y, c :: z, h, k => by
    simp only [Op.bytesLess, Bool.or_eq_true, Bool.and_eq_true, decide_eq_true_eq, beq_iff_eq] at h k ⊢
    rcases h with h | ⟨rfl, h⟩
    · rcases k with k | ⟨rfl, k⟩
      · exact .inl (UInt8.lt_trans h k)
      · exact .inl h
    · rcases k with k | ⟨rfl, k⟩
      · exact .inl k
      · exact .inr ⟨rfl, lD x y z h k⟩
theorem zJ {a b : ByteArray} (h : a.toList = b.toList) : a = b := by
  apply ByteArray.ext
  apply Array.ext'
  simpa [ByteArray.toList_eq] using h
theorem dF {a b : ByteArray} : a.toList = b.toList ↔ a = b := ⟨zJ, fun h => h ▸ rfl⟩
/-- a text ahead of another -/
def lt (a b : ByteArray) : Bool := Op.bytesLess a.toList b.toList
theorem pF (a : ByteArray) : lt a a = false := lJ _
theorem mM {a b : ByteArray} (h : lt a b = true) : lt b a = false := lM _ _ h
theorem lt_trans {a b c : ByteArray} (h : lt a b = true) (k : lt b c = true) : lt a c = true := lD _ _ _ h k
theorem nC (a b : ByteArray) : lt a b = true ∨ a = b ∨ lt b a = true := (qW a.toList b.toList).imp id (·.imp zJ id)
theorem mV {a b : ByteArray} (h : lt a b = true) : a ≠ b := fun e => by rw [e, pF] at h; cases h
/-- pair by pair: the first, then the second -/
def qZ (a0 a1 b0 b1 : ByteArray) : Bool := lt a0 b0 || (decide (a0 = b0) && lt a1 b1)
/-! ### names -/
theorem gT {α : Type} {b : Bool} {g f : Nat → Option α} {r : α} (h : b = true → Ev g r) (k : b = false → Ev f r) : Ev (fun n => if b = true then g n else f n) r := by
  cases b
  · exact cB (by simp) (k rfl)
  · exact aU rfl (h rfl)
def okc (c : Int) : Bool := (decide (97 ≤ c) && decide (c ≤ 122)) || ((decide (48 ≤ c) && decide (c ≤ 57)) || decide (c = 45))
theorem aIO {c : Int} (h : 97 ≤ c ∧ c ≤ 122 ∨ 48 ≤ c ∧ c ≤ 57 ∨ c = 45) : okc c = true := by simp [okc]; omega
theorem aJI {c : Int} (h : ¬ (97 ≤ c ∧ c ≤ 122 ∨ 48 ≤ c ∧ c ≤ 57 ∨ c = 45)) : okc c = false := by
  rw [← Bool.not_eq_true]; intro q; apply h; simp [okc] at q; omega
def lP (s : ByteArray) (i : Nat) : Bool := decide (∀ j, j < s.size → i ≤ j → okc (bt s (j : Int)) = true)
theorem qL (s : ByteArray) (i : Nat) (h : i < s.size) : lP s i = (okc (bt s (i : Int)) && lP s (i + 1)) := by
  unfold lP
  rw [Bool.eq_iff_iff, Bool.and_eq_true, decide_eq_true_iff, decide_eq_true_iff]
  refine ⟨fun q => ⟨q i h (Nat.le_refl _), fun j hj hi => q j hj (by omega)⟩, fun q j hj hi => ?_⟩
  by_cases e : j = i
  · rw [e]; exact q.1
  · exact q.2 j hj (by omega)
theorem rC (s : ByteArray) : lP s s.size = true := by
  unfold lP
  rw [decide_eq_true_iff]
  intro j hj hi; omega
def dT (s : ByteArray) : Bool := decide (1 ≤ s.size ∧ s.size ≤ 8) && lP s 0
/-- a walk over the places of a text -/
theorem aBY (n : Nat) {P : Nat → Prop} (h0 : P n) (hs : ∀ i, i < n → P (i + 1) → P i) : P 0 := by
  have key : ∀ (m i : Nat), i + m = n → P i := fun m => by
    induction m with
    | zero => intro i hi; have e : i = n := by omega
              subst e; exact h0
    | succ m ih => intro i hi; exact hs i (by omega) (ih (i + 1) (by omega))
  exact key n 0 (by omega)
/-- each before the next -/
def cT {α : Type} (p : α → α → Bool) : Option α → List α → Bool
  | _, [] => true
  | none, x :: r => cT p (some x) r
  | some y, x :: r => p y x && cT p (some x) r
def jS (l : List ByteArray) : Bool := l.all dT && cT lt none l
def iM (l : List ByteArray) (s : ByteArray) : Bool := l.any fun x => decide (x = s)
theorem iJ {l : List ByteArray} {s : ByteArray} : iM l s = true ↔ s ∈ l := by
  unfold iM
  rw [List.any_eq_true]
  exact ⟨fun ⟨x, h, e⟩ => by simp at e; exact e ▸ h, fun h => ⟨s, h, by simp⟩⟩
def inB (a b c : Int) : Bool := decide (b ≤ a ∧ a ≤ c)
theorem aFM {a b c : Int} (h : b ≤ a ∧ a ≤ c) : inB a b c = true := decide_eq_true h
theorem aLT {a b c : Int} (h : ¬ (b ≤ a ∧ a ≤ c)) : inB a b c = false := decide_eq_false h
theorem pP (a b c : Int) : Ev (fun _ => fJ.f a b c) (inB a b c) := by
  unfold fJ.f inB
  refine bL (fun h => aZ (decide_eq_decide.2 (by omega))) (fun h => aZ ?_)
  symm; apply decide_eq_false; omega
theorem fR (s : ByteArray) : Ev (fun k => aY.f k s) (dT s) := by
  unfold aY.f dT
  refine Ev.bind (pP _ _ _) (gT (fun h => ?_) (fun h => aZ ?_))
  · have hs : 1 ≤ s.size ∧ s.size ≤ 8 := by have : inB _ _ _ = true := h; unfold inB at this; have := of_decide_eq_true this; omega
    rw [decide_eq_true hs, Bool.true_and]
    refine aBY s.size (P := fun i => Ev (fun k => aY.l0 k s (i : Int)) (lP s i))
      (by refine Ev.step (fun k => by rw [aY.l0]) ?_; exact cB (by omega) (aZ (rC s).symm)) (fun i hi ih => ?_)
    refine Ev.step (fun k => by rw [aY.l0]) (aU (by omega) (aU (by omega) ?_))
    rw [dP hi (by omega), qL s i hi]
    generalize bt s (i : Int) = c
    repeat' (first | (refine bL (fun _ => ?_) (fun _ => ?_)) | (rw [aIO (by omega), Bool.true_and]; exact ih) | (rw [aJI (by omega)]; exact aZ rfl))
  · have hs : ¬ (1 ≤ s.size ∧ s.size ≤ 8) := fun q => by have : inB _ _ _ = false := h; unfold inB at this; have := of_decide_eq_false this; omega
    rw [decide_eq_false hs]; rfl
theorem pV (l : List ByteArray) (s : ByteArray) (hn : l.length ≤ 140737488351232) : Ev (fun k => dH.f k l s) (iM l s) := by
  unfold dH.f iM
  refine eQ ByteArray.empty l (P := fun i r => Ev (fun k => dH.l0 k l s (i : Int)) (r.any fun x => decide (x = s)))
    (by refine Ev.step (fun k => by rw [dH.l0]) ?_; exact cB (by omega) (aZ rfl)) (fun i x r hi hx _ _ ih => ?_)
  refine Ev.step (fun k => by rw [dH.l0]) (aU (by omega) (aU (by omega) ?_))
  rw [dP hi (by omega), fH, hx]
  refine bL (fun c => aZ ?_) (fun c => gJ ih ?_)
  · simp [dF.1 c]
  · simp [show ¬ x = s from fun e => c (dF.2 e)]
theorem eV (s : ByteArray) (hn : s.size ≤ 140737488351232) : Ev (fun k => bU.f k s) (dT s) := by
  unfold bU.f dT
  refine aBY s.size (P := fun i => Ev (fun k => bU.l0 k s (i : Int)) (decide (1 ≤ s.size ∧ s.size ≤ 8) && lP s i))
    (by
      refine Ev.step (fun k => by rw [bU.l0]) (cB (by omega) ?_)
      rw [rC, Bool.and_true]
      refine bL (fun h => aZ (decide_eq_decide.2 (by omega))) (fun h => aZ ?_)
      symm; apply decide_eq_false; omega) (fun i hi ih => ?_)
  refine Ev.step (fun k => by rw [bU.l0]) (aU (by omega) (aU (by omega) ?_))
  rw [dP hi (by omega), qL s i hi]
  generalize bt s (i : Int) = c
  repeat' (first | (refine bL (fun _ => ?_) (fun _ => ?_)) | (rw [aIO (by omega), Bool.true_and]; exact ih) | (rw [aJI (by omega), Bool.false_and, Bool.and_false]; exact aZ rfl))
theorem aAD {α : Type} (p : α → α → Bool) (x : α) (r : List α) : cT p none (x :: r) = cT p (some x) r := rfl
theorem aCO (l : List ByteArray) (hn : l.length ≤ 140737488351232) : Ev (fun k => dS.f k l) (cT lt none l) := by
  unfold dS.f
  have key : ∀ r i, l.drop (i + 1) = r → i < l.length → Ev (fun k => dS.l0 k l ((i + 1 : Nat) : Int)) (cT lt (some (l.getD i ByteArray.empty)) r) := fun r => by
    induction r with
    | nil =>
      intro i hd hi
      have : l.length ≤ i + 1 := List.drop_eq_nil_iff.1 hd
      refine Ev.step (fun k => by rw [dS.l0]) ?_
      exact cB (by omega) (aZ rfl)
    | cons x r ih =>
      intro i hd hi
      have hlt : i + 1 < l.length := by
        refine Nat.lt_of_not_le fun hle => ?_
        rw [List.drop_eq_nil_iff.2 hle] at hd; cases hd
      have e := List.drop_eq_getElem_cons hlt
      rw [hd] at e; injection e with e1 e2
      have hx : l.getD (i + 1) ByteArray.empty = x := by rw [kT _ l _ hlt]; exact e1.symm
      refine Ev.step (fun k => by rw [dS.l0]) (aU (by omega) ?_)
      have hw : wrap64 (((i + 1 : Nat) : Int) - 1) = ((i : Nat) : Int) := by unfold wrap64; omega
      rw [hw, fH, fH, hx, dP hlt (by omega)]
      refine aU (by omega) (aU (by omega) (aU (by omega) (gT (fun c => ?_) (fun c => aZ ?_))))
      · have c : lt (l.getD i ByteArray.empty) x = true := c
        have := ih (i + 1) e2.symm hlt
        rw [hx] at this
        simp only [cT, c, Bool.true_and]; exact this
      · have c : lt (l.getD i ByteArray.empty) x = false := c
        simp only [cT, c, Bool.false_and]
  cases l with
  | nil =>
    refine Ev.step (fun k => by rw [dS.l0]) ?_
    exact cB (show ¬ (1 : Int) < ((0 : Nat) : Int) by omega) (aZ rfl)
  | cons x r =>
    rw [aAD]
    exact key r 0 rfl (by simp)
theorem aGN (l : List ByteArray) (hn : l.length ≤ 140737488351232) (h : ∀ x ∈ l, x.size ≤ 140737488351232) : Ev (fun k => eE.f k l) (jS l) := by
  unfold eE.f jS
  refine eQ ByteArray.empty l (P := fun i r => Ev (fun k => eE.l0 k l (i : Int)) (r.all dT && cT lt none l))
    (by refine Ev.step (fun k => by rw [eE.l0]) ?_; exact cB (by omega) (Ev.bind (aCO l hn) (aZ rfl))) (fun i x r hi hx hm _ ih => ?_)
  refine Ev.step (fun k => by rw [eE.l0]) (aU (by omega) (aU (by omega) ?_))
  rw [dP hi (by omega), fH, hx]
  refine Ev.bind (eV x (h x hm)) (gT (fun c => ?_) (fun c => aZ ?_))
  · simpa [c] using ih
  · simp [c]
theorem tC (l : List ByteArray) (s : ByteArray) (hn : l.length ≤ 140737488351232) : Ev (fun k => fT.f k l s) (iM l s) := by
  have key : ∃ v : Int, (decide (v ≥ 0) = iM l s) ∧ Ev (fun k => bB.f k l s) v := by
    unfold bB.f iM
    refine eQ ByteArray.empty l (P := fun i r => ∃ v : Int, (decide (v ≥ 0) = r.any fun x => decide (x = s)) ∧ Ev (fun k => bB.l0 k l s (i : Int)) v)
      ⟨-1, rfl, Ev.step (fun k => by rw [bB.l0]) (cB (by omega) (aZ rfl))⟩ (fun i x r hi hx _ _ ih => ?_)
    obtain ⟨v, hv, he⟩ := ih
    by_cases c : x = s
    · refine ⟨(i : Int), by simp [c], Ev.step (fun k => by rw [bB.l0]) ?_⟩
      rw [fH, hx]
      exact aU (by omega) (aU (by omega) (aU (by rw [c]) (aZ rfl)))
    · refine ⟨v, by simpa [c] using hv, Ev.step (fun k => by rw [bB.l0]) ?_⟩
      rw [fH, hx, dP hi (by omega)]
      exact aU (by omega) (aU (by omega) (cB (fun q => c (zJ q).symm) he))
  obtain ⟨v, hv, he⟩ := key
  unfold fT.f dW.f
  exact Ev.bind (Ev.bind he (aZ hv)) (aZ rfl)
/-! ### plants: what a valid one is -/
theorem rdF (l : List aC) (i : Nat) : aO l (i : Int) = l.getD i dG := by unfold aO; rw [Int.toNat_natCast]
theorem rdP (l : List aB) (i : Nat) : aK l (i : Int) = l.getD i cV := by unfold aK; rw [Int.toNat_natCast]
theorem rdV (l : List aA) (i : Nat) : aI l (i : Int) = l.getD i cW := by unfold aI; rw [Int.toNat_natCast]
def gW (x y : aC) : Bool := qZ x.f0 x.f1 y.f0 y.f1
def oS (s : List ByteArray) (x : aC) : Bool := lt x.f0 x.f1 && (iM s x.f0 && iM s x.f1)
def nP (s : List ByteArray) (f : List aC) : Bool := f.all (oS s) && cT gW none f
def eU (x y : aB) : Bool := lt x.f0 y.f0
def gP (x : aB) : Bool := dT x.f0 && (inB x.f1 0 1000 && dT x.f2)
def kC (p : List aB) : Bool := p.all gP && cT eU none p
def dU (p : List aB) (x : ByteArray) : Bool := p.any fun y => decide (y.f0 = x)
def fC (x y : aA) : Bool := lt x.f0 y.f0
def iH (p : List aB) (x : aA) : Bool := dT x.f0 && (lt x.f1 x.f2 && (dU p x.f1 && (dU p x.f2 && dT x.f3)))
def jB (p : List aB) (v : List aA) : Bool := v.all (iH p) && cT fC none v
def iR (s : List ByteArray) (f : List aC) (p : List aB) (v : List aA) : Bool :=
  (decide (s.length ≤ 8) && decide (f.length ≤ 12)) && ((jS s && nP s f) && ((decide (p.length ≤ 14) && kC p) && (decide (v.length ≤ 18) && jB p v)))
theorem kH (a0 a1 b0 b1 : ByteArray) : Ev (fun _ => eR.f a0 a1 b0 b1) (qZ a0 a1 b0 b1) := by
  unfold eR.f
  repeat' (first
    | with_reducible refine aU (by omega) ?_
    | with_reducible refine cB (by omega) ?_
    | with_reducible refine gT (fun c => ?_) (fun c => ?_)
    | with_reducible refine bL (fun c => ?_) (fun c => ?_))
  all_goals (first
    | (with_reducible refine aZ ?_; simp_all [cT, lt, dF, qZ]; done)
    | (with_reducible refine gJ (ih) ?_; simp_all [cT, lt, dF, qZ]; done))
theorem yU (s : List ByteArray) (f : List aC) (hs : s.length ≤ 140737488351232) (hf : f.length ≤ 140737488351232) : Ev (fun k => bG.l1 k s f 0) (nP s f) := by
  refine eQ dG f (P := fun i r => Ev (fun k => bG.l1 k s f (i : Int)) (r.all (oS s) && cT gW (ahead dG f i) r))
    (by refine Ev.step (fun k => by rw [bG.l1]) ?_; exact cB (by omega) (aZ rfl)) (fun i x r hi hx _ _ ih => ?_)
  refine Ev.step (fun k => by rw [bG.l1]) (aU (by omega) (aU (by omega) ?_))
  rw [dP hi (by omega), rdF, hx]
  rw [jG, hx] at ih
  clear hx
  by_cases z : i = 0
  · subst z
    rw [jD]
    repeat' (first
      | with_reducible refine Ev.bind (pV _ _ hs) ?_
      | with_reducible refine aU (by omega) ?_
      | with_reducible refine cB (by omega) ?_
      | with_reducible refine gT (fun c => ?_) (fun c => ?_)
      | with_reducible refine bL (fun c => ?_) (fun c => ?_))
    all_goals (first
      | (with_reducible refine aZ ?_; simp_all [cT, lt, dF, oS, gW]; done)
      | (with_reducible refine gJ (ih) ?_; simp_all [cT, lt, dF, oS, gW]; done))
  · rw [tI z (by omega), rdF, jZ _ _ _ z]
    generalize f.getD (i - 1) dG = y
    repeat' (first
      | with_reducible refine Ev.bind (pV _ _ hs) ?_
      | with_reducible refine Ev.bind (kH _ _ _ _) ?_
      | with_reducible refine aU (by omega) ?_
      | with_reducible refine cB (by omega) ?_
      | with_reducible refine gT (fun c => ?_) (fun c => ?_)
      | with_reducible refine bL (fun c => ?_) (fun c => ?_))
    all_goals (first
      | (with_reducible refine aZ ?_; simp_all [cT, lt, dF, oS, gW]; done)
      | (with_reducible refine gJ (ih) ?_; simp_all [cT, lt, dF, oS, gW]; done))
theorem yS (s : List ByteArray) (f : List aC) (p : List aB) (v : List aA) (hs : s.length ≤ 140737488351232) (hf : f.length ≤ 140737488351232) :
    Ev (fun k => bG.f k s f p v) ((decide (s.length ≤ 8) && decide (f.length ≤ 12)) && (jS s && nP s f)) := by
  have L1 := yU s f hs hf
  generalize nP s f = T at L1 ⊢
  have L0 : Ev (fun k => bG.l0 k s f 0) (jS s && T) := by
    refine eQ ByteArray.empty s (P := fun i r => Ev (fun k => bG.l0 k s f (i : Int)) ((r.all dT && cT lt (ahead ByteArray.empty s i) r) && T))
      (by refine Ev.step (fun k => by rw [bG.l0]) ?_; exact cB (by omega) L1) (fun i x r hi hx _ _ ih => ?_)
    refine Ev.step (fun k => by rw [bG.l0]) (aU (by omega) (aU (by omega) ?_))
    rw [dP hi (by omega), fH, hx]
    rw [jG, hx] at ih
    clear hx L1
    by_cases z : i = 0
    · subst z
      rw [jD]
      repeat' (first
        | with_reducible refine Ev.bind (fR _) ?_
        | with_reducible refine aU (by omega) ?_
        | with_reducible refine cB (by omega) ?_
        | with_reducible refine gT (fun c => ?_) (fun c => ?_)
        | with_reducible refine bL (fun c => ?_) (fun c => ?_))
      all_goals (first
        | (with_reducible refine aZ ?_; simp_all [cT, lt, dF]; done)
        | (with_reducible refine gJ (ih) ?_; simp_all [cT, lt, dF]; done))
    · rw [tI z (by omega), fH, jZ _ _ _ z]
      generalize s.getD (i - 1) ByteArray.empty = y
      repeat' (first
        | with_reducible refine Ev.bind (fR _) ?_
        | with_reducible refine aU (by omega) ?_
        | with_reducible refine cB (by omega) ?_
        | with_reducible refine gT (fun c => ?_) (fun c => ?_)
        | with_reducible refine bL (fun c => ?_) (fun c => ?_))
      all_goals (first
        | (with_reducible refine aZ ?_; simp_all [cT, lt, dF]; done)
        | (with_reducible refine gJ (ih) ?_; simp_all [cT, lt, dF]; done))
  unfold bG.f
  refine bL (fun c => aZ ?_) (fun c => bL (fun d => aZ ?_) (fun d => gJ L0 ?_))
  · rw [decide_eq_false (by omega : ¬ s.length ≤ 8)]; rfl
  · rw [decide_eq_false (by omega : ¬ f.length ≤ 12), Bool.and_false]; rfl
  · rw [decide_eq_true (by omega : s.length ≤ 8), decide_eq_true (by omega : f.length ≤ 12)]; rfl
theorem xG (s : List ByteArray) (f : List aC) (p : List aB) (v : List aA) (hp : p.length ≤ 140737488351232) :
    Ev (fun k => cS.f k s f p v) (decide (p.length ≤ 14) && kC p) := by
  unfold cS.f
  refine bL (fun c => aZ (by rw [decide_eq_false (by omega : ¬ p.length ≤ 14)]; rfl)) (fun c => ?_)
  rw [decide_eq_true (by omega : p.length ≤ 14), Bool.true_and]
  refine eQ cV p (P := fun i r => Ev (fun k => cS.l0 k p (i : Int)) (r.all gP && cT eU (ahead cV p i) r))
    (by refine Ev.step (fun k => by rw [cS.l0]) ?_; exact cB (by omega) (aZ rfl)) (fun i x r hi hx _ _ ih => ?_)
  refine Ev.step (fun k => by rw [cS.l0]) (aU (by omega) (aU (by omega) ?_))
  rw [dP hi (by omega), rdP, hx]
  rw [jG, hx] at ih
  clear hx
  by_cases z : i = 0
  · subst z
    rw [jD]
    repeat' (first
      | with_reducible refine Ev.bind (fR _) ?_
      | with_reducible refine Ev.bind (pP _ _ _) ?_
      | with_reducible refine aU (by omega) ?_
      | with_reducible refine cB (by omega) ?_
      | with_reducible refine gT (fun c => ?_) (fun c => ?_)
      | with_reducible refine bL (fun c => ?_) (fun c => ?_))
    all_goals (first
      | (with_reducible refine aZ ?_; simp_all [cT, lt, dF, gP, eU]; done)
      | (with_reducible refine gJ (ih) ?_; simp_all [cT, lt, dF, gP, eU]; done))
  · rw [tI z (by omega), rdP, jZ _ _ _ z]
    generalize p.getD (i - 1) cV = y
    repeat' (first
      | with_reducible refine Ev.bind (fR _) ?_
      | with_reducible refine Ev.bind (pP _ _ _) ?_
      | with_reducible refine aU (by omega) ?_
      | with_reducible refine cB (by omega) ?_
      | with_reducible refine gT (fun c => ?_) (fun c => ?_)
      | with_reducible refine bL (fun c => ?_) (fun c => ?_))
    all_goals (first
      | (with_reducible refine aZ ?_; simp_all [cT, lt, dF, gP, eU]; done)
      | (with_reducible refine gJ (ih) ?_; simp_all [cT, lt, dF, gP, eU]; done))
/-- where a place lies, -1 if there is none -/
def kV (x : ByteArray) : List aB → Int → Int
  | [], _ => -1
  | y :: r, i => if y.f0 = x then i else kV x r (i + 1)
theorem rG (x : ByteArray) : ∀ (r : List aB) (i : Int), 0 ≤ i → (decide (kV x r i < 0) = !dU r x) ∧ (dU r x = true → i ≤ kV x r i)
  | [], i, h => ⟨rfl, fun h => by simp [dU] at h⟩
  | y :: r, i, h => by
    obtain ⟨h1, h2⟩ := rG x r (i + 1) (by omega)
    rw [show kV x (y :: r) i = if y.f0 = x then i else kV x r (i + 1) from rfl, show dU (y :: r) x = (decide (y.f0 = x) || dU r x) from rfl]
    by_cases c : y.f0 = x
    · rw [if_pos c, decide_eq_true c, Bool.true_or]
      exact ⟨decide_eq_false (by omega), fun _ => Int.le_refl _⟩
    · rw [if_neg c, decide_eq_false c, Bool.false_or]
      exact ⟨h1, fun q => by have := h2 q; omega⟩
theorem mN (s : List ByteArray) (f : List aC) (p : List aB) (v : List aA) (x : ByteArray) (hp : p.length ≤ 140737488351232) :
    Ev (fun k => cG.f k s f p v x) (kV x p 0) := by
  unfold cG.f
  refine eQ cV p (P := fun i r => Ev (fun k => cG.l0 k p x (i : Int)) (kV x r (i : Int)))
    (by refine Ev.step (fun k => by rw [cG.l0]) ?_; exact cB (by omega) (aZ rfl)) (fun i y r hi hx _ _ ih => ?_)
  refine Ev.step (fun k => by rw [cG.l0]) (aU (by omega) (aU (by omega) ?_))
  rw [dP hi (by omega), rdP, hx]
  unfold kV
  refine bL (fun c => aZ (by rw [if_pos (dF.1 c)])) (fun c => gJ ih (by rw [if_neg (fun e => c (dF.2 e))]; push_cast; rfl))
theorem lN (x : ByteArray) (p : List aB) : (kV x p 0 < 0) ↔ dU p x = false := by
  have := (rG x p 0 (Int.le_refl _)).1
  cases h : dU p x <;> rw [h] at this <;> simpa using this
theorem wV (s : List ByteArray) (f : List aC) (p : List aB) (v : List aA) (hp : p.length ≤ 140737488351232) (hv : v.length ≤ 140737488351232) :
    Ev (fun k => cR.f k s f p v) (decide (v.length ≤ 18) && jB p v) := by
  unfold cR.f
  refine bL (fun c => aZ (by rw [decide_eq_false (by omega : ¬ v.length ≤ 18)]; rfl)) (fun c => ?_)
  rw [decide_eq_true (by omega : v.length ≤ 18), Bool.true_and]
  refine eQ cW v (P := fun i r => Ev (fun k => cR.l0 k s f p v (i : Int)) (r.all (iH p) && cT fC (ahead cW v i) r))
    (by refine Ev.step (fun k => by rw [cR.l0]) ?_; exact cB (by omega) (aZ rfl)) (fun i x r hi hx _ _ ih => ?_)
  refine Ev.step (fun k => by rw [cR.l0]) (aU (by omega) (aU (by omega) ?_))
  rw [dP hi (by omega), rdV, hx]
  rw [jG, hx] at ih
  clear hx
  by_cases z : i = 0
  · subst z
    rw [jD]
    repeat' (first
      | with_reducible refine Ev.bind (fR _) ?_
      | with_reducible refine Ev.bind (mN _ _ _ _ _ hp) ?_
      | with_reducible refine aU (by omega) ?_
      | with_reducible refine cB (by omega) ?_
      | with_reducible refine gT (fun c => ?_) (fun c => ?_)
      | with_reducible refine bL (fun c => ?_) (fun c => ?_))
    all_goals (first
      | (with_reducible refine aZ ?_; simp_all [cT, lt, dF, iH, fC, lN]; done)
      | (with_reducible refine gJ (ih) ?_; simp_all [cT, lt, dF, iH, fC, lN]; done))
  · rw [tI z (by omega), rdV, jZ _ _ _ z]
    generalize v.getD (i - 1) cW = y
    repeat' (first
      | with_reducible refine Ev.bind (fR _) ?_
      | with_reducible refine Ev.bind (mN _ _ _ _ _ hp) ?_
      | with_reducible refine aU (by omega) ?_
      | with_reducible refine cB (by omega) ?_
      | with_reducible refine gT (fun c => ?_) (fun c => ?_)
      | with_reducible refine bL (fun c => ?_) (fun c => ?_))
    all_goals (first
      | (with_reducible refine aZ ?_; simp_all [cT, lt, dF, iH, fC, lN]; done)
      | (with_reducible refine gJ (ih) ?_; simp_all [cT, lt, dF, iH, fC, lN]; done))
theorem mO (s : List ByteArray) (f : List aC) (p : List aB) (v : List aA) (hs : s.length ≤ 140737488351232) (hf : f.length ≤ 140737488351232) (hp : p.length ≤ 140737488351232) (hv : v.length ≤ 140737488351232) :
    Ev (fun k => dY.f k s f p v) (iR s f p v) := by
  unfold dY.f iR
  have e1 := yS s f p v hs hf
  have e2 := xG s f p v hp
  have e3 := wV s f p v hp hv
  rw [← Bool.and_assoc]
  generalize ((decide (s.length ≤ 8) && decide (f.length ≤ 12)) && (jS s && nP s f)) = b1 at e1 ⊢
  generalize (decide (p.length ≤ 14) && kC p) = b2 at e2 ⊢
  generalize (decide (v.length ≤ 18) && jB p v) = b3 at e3 ⊢
  repeat' (first
    | with_reducible refine Ev.bind (e1) ?_
    | with_reducible refine Ev.bind (e2) ?_
    | with_reducible refine Ev.bind (e3) ?_
    | with_reducible refine aU (by omega) ?_
    | with_reducible refine cB (by omega) ?_
    | with_reducible refine gT (fun c => ?_) (fun c => ?_)
    | with_reducible refine bL (fun c => ?_) (fun c => ?_))
  all_goals (first
    | (with_reducible refine aZ ?_; simp_all [cT, lt, dF]; done)
    | (with_reducible refine gJ (ih) ?_; simp_all [cT, lt, dF]; done))
/-! ### plants: what the program says of them -/
def jU (x : aC) : bR := ⟨x.f0, x.f1⟩
theorem aJY (l : List bR) (i : Nat) : cH l (i : Int) = l.getD i jL := by unfold cH; rw [Int.toNat_natCast]
theorem tA (s : List ByteArray) (f : List aC) (p : List aB) (v : List aA) (hf : f.length ≤ 4398046511104) :
    Ev (fun k => bI.f k s f p v) (f.map jU) := by
  unfold bI.f
  have key := eQ dG f (P := fun i r => ∀ acc : List bR, acc.length = i → Ev (fun k => bI.l0 k f acc (i : Int)) (acc ++ r.map jU))
    (fun acc h => by refine Ev.step (fun k => by rw [bI.l0]) ?_; exact cB (by omega) (aZ (by simp))) (fun i x r hi hx _ _ ih acc h => ?_)
  · simpa using key [] rfl
  refine Ev.step (fun k => by rw [bI.l0]) (aU (by omega) (aU (by omega) (aU (by omega) ?_)))
  rw [dP hi (by omega), rdF, hx]
  refine gJ (ih _ (by simp [h])) (by simp [jU])
def pC (x y : bR) : Bool := qZ x.f0 x.f1 y.f0 y.f1
def rJ (x : bR) : Bool := dT x.f0 && (dT x.f1 && lt x.f0 x.f1)
def vH (l : List bR) : Bool := l.all rJ && cT pC none l
theorem aHW {a0 a1 b0 b1 : ByteArray} (h : Op.bytesLess b0.toList a0.toList = false) : qZ a0 a1 b0 b1 = (decide (a0 = b0 → Op.bytesLess a1.toList b1.toList = true)) := by
  unfold qZ
  rcases nC a0 b0 with c | c | c
  · rw [c, decide_eq_true (fun e => absurd e (mV c))]; rfl
  · subst c; rw [pF, decide_eq_true rfl]
    cases q : Op.bytesLess a1.toList b1.toList <;> simp [lt, q]
  · have : Op.bytesLess b0.toList a0.toList = true := c
    rw [h] at this; cases this
theorem aHP {a0 a1 b0 b1 : ByteArray} (h : Op.bytesLess b0.toList a0.toList = true) : qZ a0 a1 b0 b1 = false := by
  unfold qZ
  rw [mM h, decide_eq_false (fun e => mV h e.symm)]; rfl
theorem aCB (l : List bR) (a : Int) (hn : l.length ≤ 140737488351232) (h : ∀ x ∈ l, x.f0.size ≤ 140737488351232 ∧ x.f1.size ≤ 140737488351232) :
    Ev (fun k => dQ.f k l a) (vH l && decide ((l.length : Int) ≤ a)) := by
  unfold dQ.f
  refine eQ jL l (P := fun i r => Ev (fun k => dQ.l0 k l a (i : Int)) ((r.all rJ && cT pC (ahead jL l i) r) && decide ((l.length : Int) ≤ a)))
    (by refine Ev.step (fun k => by rw [dQ.l0]) ?_; exact cB (by omega) (aZ rfl)) (fun i x r hi hx hm _ ih => ?_)
  refine Ev.step (fun k => by rw [dQ.l0]) (aU (by omega) (aU (by omega) ?_))
  obtain ⟨q0, q1⟩ := h x hm
  rw [dP hi (by omega), aJY, hx]
  rw [jG, hx] at ih
  generalize decide ((l.length : Int) ≤ a) = D at ih ⊢
  clear hx h hm
  by_cases z : i = 0
  · subst z
    rw [jD]
    repeat' (first
      | with_reducible refine Ev.bind (eV _ q0) ?_
      | with_reducible refine Ev.bind (eV _ q1) ?_
      | with_reducible refine aU (by omega) ?_
      | with_reducible refine cB (by omega) ?_
      | with_reducible refine gT (fun c => ?_) (fun c => ?_)
      | with_reducible refine bL (fun c => ?_) (fun c => ?_))
    all_goals (first
      | (with_reducible refine aZ ?_; simp_all [cT, lt, dF, rJ, pC]; done)
      | (with_reducible refine gJ (ih) ?_; simp_all [cT, lt, dF, rJ, pC]; done))
  · rw [tI z (by omega), aJY, jZ _ _ _ z]
    generalize l.getD (i - 1) jL = y
    have hb := @aHW y.f0 y.f1 x.f0 x.f1
    have hc := @aHP y.f0 y.f1 x.f0 x.f1
    repeat' (first
      | with_reducible refine Ev.bind (eV _ q0) ?_
      | with_reducible refine Ev.bind (eV _ q1) ?_
      | with_reducible refine aU (by omega) ?_
      | with_reducible refine cB (by omega) ?_
      | with_reducible refine gT (fun c => ?_) (fun c => ?_)
      | with_reducible refine bL (fun c => ?_) (fun c => ?_))
    all_goals (first
      | (with_reducible refine aZ ?_; simp_all [cT, lt, dF, rJ, pC]; done)
      | (with_reducible refine gJ (ih) ?_; simp_all [cT, lt, dF, rJ, pC]; done))
/-- the first place of a name -/
def mU (x : ByteArray) : List aB → ByteArray × Int × ByteArray × Bool
  | [] => ((⟨#[]⟩ : ByteArray), 0, (⟨#[]⟩ : ByteArray), false)
  | y :: r => if y.f0 = x then (y.f0, y.f1, y.f2, true) else mU x r
theorem iL (x : ByteArray) : ∀ l : List aB, (mU x l).2.2.2 = dU l x
  | [] => rfl
  | y :: r => by
    rw [show dU (y :: r) x = (decide (y.f0 = x) || dU r x) from rfl, ← iL x r, show mU x (y :: r) = if y.f0 = x then (y.f0, y.f1, y.f2, true) else mU x r from rfl]
    by_cases c : y.f0 = x
    · rw [if_pos c, decide_eq_true c]; rfl
    · rw [if_neg c, decide_eq_false c]; rfl
theorem lZ (s : List ByteArray) (f : List aC) (p : List aB) (v : List aA) (x : ByteArray) (hp : p.length ≤ 140737488351232) :
    Ev (fun k => bK.f k s f p v x) (mU x p) := by
  unfold bK.f
  refine eQ cV p (P := fun i r => Ev (fun k => bK.l0 k p x (i : Int)) (mU x r))
    (by refine Ev.step (fun k => by rw [bK.l0]) ?_; exact cB (by omega) (aZ rfl)) (fun i y r hi hx _ _ ih => ?_)
  refine Ev.step (fun k => by rw [bK.l0]) (aU (by omega) (aU (by omega) ?_))
  rw [dP hi (by omega), rdP, hx]
  unfold mU
  refine bL (fun c => aZ (by rw [if_pos (dF.1 c)])) (fun c => gJ ih (by rw [if_neg (fun e => c (dF.2 e))]))
theorem tX (s : List ByteArray) (f : List aC) (p : List aB) (v : List aA) (hp : p.length ≤ 140737488351232) (hv : v.length ≤ 140737488351232)
    (hz : ∀ x ∈ v, x.f0.size ≤ 140737488351232 ∧ x.f3.size ≤ 140737488351232) : Ev (fun k => aP.l2 k s f p v 0) (jB p v) := by
  refine eQ cW v (P := fun i r => Ev (fun k => aP.l2 k s f p v (i : Int)) (r.all (iH p) && cT fC (ahead cW v i) r))
    (by refine Ev.step (fun k => by rw [aP.l2]) ?_; exact cB (by omega) (aZ rfl)) (fun i x r hi hx hm _ ih => ?_)
  obtain ⟨q0, q1⟩ := hz x hm
  rw [jG, hx] at ih
  have j0 : ∀ (b : Bool) (R : Bool), R = (!b && (r.all (iH p) && cT fC (some x) r)) → Ev (fun k => aP.j0 k s f p v (i : Int) b) R := fun b R hR => by
    subst hR
    refine Ev.step (fun k => by rw [aP.j0]) ?_
    rw [dP hi (by omega)]
    cases b
    · exact cB (by simp) ih
    · exact aU rfl (aZ rfl)
  refine Ev.step (fun k => by rw [aP.l2]) (aU (by omega) (aU (by omega) ?_))
  rw [rdV, hx]
  refine Ev.bind (lZ s f p v _ hp) (Ev.bind (lZ s f p v _ hp) ?_)
  rw [iL, iL]
  clear hx hz hm
  by_cases z : i = 0
  · subst z
    rw [jD]
    repeat' (first | with_reducible refine Ev.bind (eV _ q0) ?_ | with_reducible refine Ev.bind (eV _ q1) ?_ | with_reducible refine aU (by omega) ?_ | with_reducible refine cB (by omega) ?_ | with_reducible refine gT (fun c => ?_) (fun c => ?_))
    all_goals (with_reducible refine j0 _ _ ?_; simp_all [cT, iH, lt])
  · rw [tI z (by omega), rdV, jZ _ _ _ z]
    generalize v.getD (i - 1) cW = y
    repeat' (first | with_reducible refine Ev.bind (eV _ q0) ?_ | with_reducible refine Ev.bind (eV _ q1) ?_ | with_reducible refine aU (by omega) ?_ | with_reducible refine cB (by omega) ?_ | with_reducible refine gT (fun c => ?_) (fun c => ?_))
    all_goals (with_reducible refine j0 _ _ ?_; first | (simp_all [cT, iH, fC, lt]; done) | (simp_all [cT, iH, fC, lt, Bool.and_left_comm]; done))
theorem uC (s : List ByteArray) (f : List aC) (p : List aB) (v : List aA) (hp : p.length ≤ 140737488351232) (hv : v.length ≤ 140737488351232)
    (hz : ∀ x ∈ v, x.f0.size ≤ 140737488351232 ∧ x.f3.size ≤ 140737488351232) (hy : ∀ x ∈ p, x.f0.size ≤ 140737488351232 ∧ x.f2.size ≤ 140737488351232) : Ev (fun k => aP.l1 k s f p v 0) (kC p && jB p v) := by
  have L2 := tX s f p v hp hv hz
  generalize jB p v = T at L2 ⊢
  refine eQ cV p (P := fun i r => Ev (fun k => aP.l1 k s f p v (i : Int)) ((r.all gP && cT eU (ahead cV p i) r) && T))
    (by refine Ev.step (fun k => by rw [aP.l1]) ?_; exact cB (by omega) L2) (fun i x r hi hx hm _ ih => ?_)
  refine Ev.step (fun k => by rw [aP.l1]) (aU (by omega) (aU (by omega) ?_))
  obtain ⟨q0, q1⟩ := hy x hm
  rw [dP hi (by omega), rdP, hx]
  rw [jG, hx] at ih
  clear hx hz hy hm L2
  by_cases d : 0 ≤ x.f1 ∧ x.f1 ≤ 1000
  · have hd := aFM d
    by_cases z : i = 0
    · subst z
      rw [jD]
      repeat' (first
        | with_reducible refine Ev.bind (eV _ q0) ?_
        | with_reducible refine Ev.bind (eV _ q1) ?_
        | with_reducible refine aU (by omega) ?_
        | with_reducible refine cB (by omega) ?_
        | with_reducible refine gT (fun c => ?_) (fun c => ?_)
        | with_reducible refine bL (fun c => ?_) (fun c => ?_))
      all_goals (first
        | (with_reducible refine aZ ?_; simp_all [cT, lt, dF, gP, eU]; done)
        | (with_reducible refine gJ (ih) ?_; simp_all [cT, lt, dF, gP, eU]; done))
    · rw [tI z (by omega), rdP, jZ _ _ _ z]
      generalize p.getD (i - 1) cV = y
      repeat' (first
        | with_reducible refine Ev.bind (eV _ q0) ?_
        | with_reducible refine Ev.bind (eV _ q1) ?_
        | with_reducible refine aU (by omega) ?_
        | with_reducible refine cB (by omega) ?_
        | with_reducible refine gT (fun c => ?_) (fun c => ?_)
        | with_reducible refine bL (fun c => ?_) (fun c => ?_))
      all_goals (first
        | (with_reducible refine aZ ?_; simp_all [cT, lt, dF, gP, eU]; done)
        | (with_reducible refine gJ (ih) ?_; simp_all [cT, lt, dF, gP, eU]; done))
  · have hd := aLT d
    refine Ev.bind (eV _ q0) (gT (fun c => bL (fun c1 => aZ ?_) (fun c1 => aU (by omega) (aZ ?_))) (fun c => aZ ?_))
    all_goals simp_all [gP]
theorem uF (s : List ByteArray) (f : List aC) (p : List aB) (v : List aA) (hs : s.length ≤ 140737488351232) (hf : f.length ≤ 140737488351232) (hp : p.length ≤ 140737488351232) (hv : v.length ≤ 140737488351232)
    (hz : ∀ x ∈ v, x.f0.size ≤ 140737488351232 ∧ x.f3.size ≤ 140737488351232) (hy : ∀ x ∈ p, x.f0.size ≤ 140737488351232 ∧ x.f2.size ≤ 140737488351232) :
    Ev (fun k => aP.l0 k s f p v 0) (f.all (fun x => iM s x.f0 && iM s x.f1) && (kC p && jB p v)) := by
  have L1 := uC s f p v hp hv hz hy
  generalize (kC p && jB p v) = T at L1 ⊢
  refine eQ dG f (P := fun i r => Ev (fun k => aP.l0 k s f p v (i : Int)) (r.all (fun x => iM s x.f0 && iM s x.f1) && T))
    (by refine Ev.step (fun k => by rw [aP.l0]) ?_; exact cB (by omega) L1) (fun i x r hi hx hm _ ih => ?_)
  refine Ev.step (fun k => by rw [aP.l0]) (aU (by omega) (aU (by omega) ?_))
  rw [dP hi (by omega), rdF, hx]
  clear hx hz hy hm L1
  repeat' (first
    | with_reducible refine Ev.bind (tC _ _ hs) ?_
    | with_reducible refine aU (by omega) ?_
    | with_reducible refine cB (by omega) ?_
    | with_reducible refine gT (fun c => ?_) (fun c => ?_)
    | with_reducible refine bL (fun c => ?_) (fun c => ?_))
  all_goals (first
    | (with_reducible refine aZ ?_; simp_all [cT, lt, dF]; done)
    | (with_reducible refine gJ (ih) ?_; simp_all [cT, lt, dF]; done))
theorem oK {s : List ByteArray} {x : ByteArray} (hn : jS s = true) (h : iM s x = true) : dT x = true := by
  unfold jS at hn
  rw [Bool.and_eq_true] at hn
  exact List.all_eq_true.1 hn.1 x (iJ.1 h)
theorem qX {α β : Type} {p : α → α → Bool} {q : β → β → Bool} (g : α → β) (h : ∀ x y, q (g x) (g y) = p x y) : ∀ (r : List α) (o : Option α), cT q (o.map g) (r.map g) = cT p o r
  | [], o => by cases o <;> rfl
  | x :: r, none => qX g h r (some x)
  | x :: r, some y => by
    show (q (g y) (g x) && cT q (some (g x)) (r.map g)) = (p y x && cT p (some x) r)
    rw [h]; congr 1; exact qX g h r (some x)
theorem xM (s : List ByteArray) (hn : jS s = true) : ∀ f : List aC, ((f.map jU).all rJ && f.all (fun x => iM s x.f0 && iM s x.f1)) = f.all (oS s)
  | [] => rfl
  | x :: r => by
    rw [List.map_cons, List.all_cons, List.all_cons, List.all_cons, ← xM s hn r]
    have h0 := @oK s x.f0 hn
    have h1 := @oK s x.f1 hn
    unfold rJ oS jU
    simp only
    generalize dT x.f0 = a0 at *
    generalize dT x.f1 = a1 at *
    generalize iM s x.f0 = b0 at *
    generalize iM s x.f1 = b1 at *
    generalize lt x.f0 x.f1 = c at *
    generalize List.all (List.map _ _) _ = d at *
    generalize List.all _ _ = d2 at *
    revert a0 a1 b0 b1 c d d2
    decide
theorem aDF (s : List ByteArray) (f : List aC) (hn : jS s = true) : (vH (f.map jU) && f.all (fun x => iM s x.f0 && iM s x.f1)) = nP s f := by
  unfold vH nP
  rw [show cT pC none (f.map jU) = cT gW none f from qX jU (fun _ _ => rfl) f none]
  rw [← xM s hn f]
  generalize List.all (List.map _ _) _ = d at *
  generalize List.all _ _ = d2 at *
  generalize cT _ _ _ = d3 at *
  revert d d2 d3
  decide
structure SzP (s : List ByteArray) (f : List aC) (p : List aB) (v : List aA) : Prop where
  hs : s.length ≤ 140737488351232
  hf : f.length ≤ 4398046511104
  hp : p.length ≤ 140737488351232
  hv : v.length ≤ 140737488351232
  s1 : ∀ x ∈ s, x.size ≤ 140737488351232
  f1 : ∀ x ∈ f, x.f0.size ≤ 140737488351232 ∧ x.f1.size ≤ 140737488351232
  p1 : ∀ x ∈ p, x.f0.size ≤ 140737488351232 ∧ x.f2.size ≤ 140737488351232
  v1 : ∀ x ∈ v, x.f0.size ≤ 140737488351232 ∧ x.f3.size ≤ 140737488351232
theorem mS (s : List ByteArray) (f : List aC) (p : List aB) (v : List aA) (z : SzP s f p v) :
    Ev (fun k => aP.f k s f p v) (iR s f p v) := by
  unfold aP.f iR
  have hf := z.hf
  have e0 := uF s f p v z.hs (by omega) z.hp z.hv z.v1 z.p1
  have eN := aGN s z.hs z.s1
  have eF := aCB (f.map jU) 12 (by rw [List.length_map]; omega) (fun x hx => by obtain ⟨y, hy, rfl⟩ := List.mem_map.1 hx; exact z.f1 y hy)
  have eP := tA s f p v hf
  have hsame := aDF s f
  rw [List.length_map, show decide ((f.length : Int) ≤ 12) = decide (f.length ≤ 12) from decide_eq_decide.2 (by omega)] at eF
  generalize vH (f.map jU) = b1 at eF hsame
  generalize f.all (fun x => iM s x.f0 && iM s x.f1) = b2 at e0 hsame
  generalize nP s f = b3 at hsame ⊢
  generalize kC p = b4 at e0 ⊢
  generalize jB p v = b5 at e0 ⊢
  generalize jS s = b6 at eN hsame ⊢
  generalize decide (f.length ≤ 12) = b7 at eF ⊢
  refine bL (fun c => aZ ?_) (fun c => Ev.bind eN (gT (fun c6 => ?_) (fun c6 => aZ ?_)))
  · rw [decide_eq_false (by omega : ¬ s.length ≤ 8)]; rfl
  · subst c6
    have hsame := hsame rfl
    subst hsame
    rw [decide_eq_true (by omega : s.length ≤ 8)]
    refine Ev.bind eP (Ev.bind eF (gT (fun c1 => ?_) (fun c1 => aZ ?_)))
    · rw [Bool.and_eq_true] at c1
      obtain ⟨rfl, rfl⟩ := c1
      refine bL (fun d => aZ ?_) (fun d => bL (fun d2 => aZ ?_) (fun d2 => gJ e0 ?_))
      · rw [decide_eq_false (by omega : ¬ p.length ≤ 14)]; simp
      · rw [decide_eq_false (by omega : ¬ v.length ≤ 18)]; simp
      · rw [decide_eq_true (by omega : p.length ≤ 14), decide_eq_true (by omega : v.length ≤ 18)]; simp
    · clear e0 eN eF
      generalize decide (p.length ≤ 14) = d1
      generalize decide (v.length ≤ 18) = d2
      revert b1 b2 b4 b5 b7 d1 d2
      decide
  · subst c6; simp
/-! ### lists that rise -/
def iQ (l : List ByteArray) : Prop := l.Pairwise fun x y => lt x y = true
theorem sJ {α : Type} {p : α → α → Bool} (ht : ∀ x y z, p x y = true → p y z = true → p x z = true) : ∀ (r : List α) (y : α), cT p (some y) r = true → (∀ x ∈ r, p y x = true) ∧ r.Pairwise fun x y => p x y = true
  | [], _, _ => ⟨fun x h => (by cases h), List.Pairwise.nil⟩
  | x :: r, y, h => by
    have h : (p y x && cT p (some x) r) = true := h
    rw [Bool.and_eq_true] at h
    obtain ⟨g1, g2⟩ := sJ ht r x h.2
    refine ⟨fun z hz => ?_, List.pairwise_cons.2 ⟨g1, g2⟩⟩
    rcases List.mem_cons.1 hz with rfl | hz
    · exact h.1
    · exact ht _ _ _ h.1 (g1 z hz)
theorem mG {α : Type} {p : α → α → Bool} (ht : ∀ x y z, p x y = true → p y z = true → p x z = true) (l : List α) (h : cT p none l = true) : l.Pairwise fun x y => p x y = true := by
  cases l with
  | nil => exact List.Pairwise.nil
  | cons x r =>
    have h : cT p (some x) r = true := h
    obtain ⟨g1, g2⟩ := sJ ht r x h
    exact List.pairwise_cons.2 ⟨g1, g2⟩
theorem sO : ∀ (l m : List ByteArray), iQ l → iQ m → (∀ x, x ∈ l ↔ x ∈ m) → l = m
  | [], [], _, _, _ => rfl
  | [], y :: m, _, _, h => by have := (h y).2 (List.mem_cons_self ..); cases this
  | x :: l, [], _, _, h => by have := (h x).1 (List.mem_cons_self ..); cases this
  | x :: l, y :: m, hl, hm, h => by
    obtain ⟨l1, l2⟩ := List.pairwise_cons.1 hl
    obtain ⟨m1, m2⟩ := List.pairwise_cons.1 hm
    have e : x = y := by
      rcases List.mem_cons.1 ((h x).1 (List.mem_cons_self ..)) with e | hx
      · exact e
      · rcases List.mem_cons.1 ((h y).2 (List.mem_cons_self ..)) with e | hy
        · exact e.symm
        · have := mM (l1 y hy); rw [m1 x hx] at this; cases this
    subst e
    congr 1
    refine sO l m l2 m2 (fun z => ⟨fun hz => ?_, fun hz => ?_⟩)
    · rcases List.mem_cons.1 ((h z).1 (List.mem_cons_of_mem _ hz)) with e | hz'
      · subst e; exact absurd rfl (mV (l1 z hz))
      · exact hz'
    · rcases List.mem_cons.1 ((h z).2 (List.mem_cons_of_mem _ hz)) with e | hz'
      · subst e; exact absurd rfl (mV (m1 z hz))
      · exact hz'
def jO (x : ByteArray) : List ByteArray → List ByteArray
  | [] => [x]
  | y :: r => if lt y x = true then y :: jO x r else if y = x then y :: r else x :: y :: r
theorem nT (x z : ByteArray) : ∀ l : List ByteArray, z ∈ jO x l ↔ z = x ∨ z ∈ l
  | [] => by simp [jO]
  | y :: r => by
    have ih := nT x z r
    unfold jO
    split
    · rw [List.mem_cons, ih, List.mem_cons]
      constructor
      · rintro (h | h | h)
        · exact .inr (.inl h)
        · exact .inl h
        · exact .inr (.inr h)
      · rintro (h | h | h)
        · exact .inr (.inl h)
        · exact .inl h
        · exact .inr (.inr h)
    · split
      · rename_i e
        subst e
        rw [List.mem_cons]
        exact ⟨fun h => .inr h, fun h => h.elim .inl id⟩
      · rw [List.mem_cons]
theorem nR (x : ByteArray) : ∀ l : List ByteArray, iQ l → iQ (jO x l)
  | [], _ => List.pairwise_singleton _ _
  | y :: r, h => by
    obtain ⟨h1, h2⟩ := List.pairwise_cons.1 h
    unfold jO
    split
    · rename_i c
      refine List.pairwise_cons.2 ⟨fun z hz => ?_, nR x r h2⟩
      rcases (nT x z r).1 hz with rfl | hz
      · exact c
      · exact h1 z hz
    · rename_i c
      split
      · exact h
      · rename_i e
        have hlt : lt x y = true := by
          rcases nC x y with q | q | q
          · exact q
          · exact absurd q.symm e
          · exact absurd q c
        refine List.pairwise_cons.2 ⟨fun z hz => ?_, h⟩
        rcases List.mem_cons.1 hz with rfl | hz
        · exact hlt
        · exact lt_trans hlt (h1 z hz)
/-! ### sets of texts: rising lists -/
theorem wK {l : List ByteArray} (h : iQ l) : l.Nodup := List.Pairwise.imp (fun h => mV h) h
theorem aFP (a : List ByteArray) (h : a.length ≤ 4611686018427387903) (hn : a.Nodup) : ∃ r, Ev (fun _ => sort_Strings.f a) r ∧ iQ r ∧ ∀ x, x ∈ r ↔ x ∈ a := by
  have e : lH a = some (rE a) := by unfold lH; rw [if_pos (by omega)]
  refine ⟨rE a, ?_, aGH e hn, aCP e⟩
  unfold sort_Strings.f
  rw [e]
  exact Ev.now _
/-- a set, and more put into it -/
def yN (a b : List ByteArray) : List ByteArray := b.foldl (fun l x => jO x l) a
theorem rK : ∀ (b a : List ByteArray), iQ a → iQ (yN a b)
  | [], _, h => h
  | x :: b, a, h => rK b _ (nR x a h)
theorem xF (z : ByteArray) : ∀ (b a : List ByteArray), z ∈ yN a b ↔ z ∈ a ∨ z ∈ b
  | [], a => by simp [yN]
  | x :: b, a => by
    rw [show yN a (x :: b) = yN (jO x a) b from rfl, xF z b, nT, List.mem_cons]
    constructor
    · rintro ((h | h) | h)
      · exact .inr (.inl h)
      · exact .inl h
      · exact .inr (.inr h)
    · rintro (h | h | h)
      · exact .inl (.inr h)
      · exact .inl (.inl h)
      · exact .inr h
theorem aHB {a b c : List ByteArray} (hc : iQ c) (ha : iQ a) (h : ∀ x, x ∈ c ↔ x ∈ a ∨ x ∈ b) : c = yN a b :=
  sO _ _ hc (rK b a ha) (fun x => by rw [h, xF])
theorem aEQ (a b : List ByteArray) (ha : a.Nodup) (h : a.length + b.length ≤ 8796093022207) : ∃ r, Ev (fun k => eD.f k a b) r ∧ iQ r ∧ ∀ x, x ∈ r ↔ x ∈ a ∨ x ∈ b := by
  have key := eQ ByteArray.empty b (P := fun i d => i + d.length = b.length → ∀ acc : List ByteArray, acc.Nodup → acc.length ≤ a.length + i → ∃ r, Ev (fun k => eD.l0 k a b acc (i : Int)) r ∧ iQ r ∧ ∀ x, x ∈ r ↔ x ∈ acc ∨ x ∈ d)
    (fun _ acc hnd hacc => by
      obtain ⟨r, h1, h2, h3⟩ := aFP acc (by omega) hnd
      refine ⟨r, Ev.step (fun k => by rw [eD.l0]) (cB (by omega) (Ev.bind h1 (aZ rfl))), h2, fun x => by rw [h3]; simp⟩)
    (fun i y d hi hy hm hd ih hl acc hnd hacc => by
      rw [List.length_cons] at hl
      have hh := tC acc y (by omega)
      cases c : iM acc y with
      | true =>
        rw [c] at hh
        obtain ⟨r, h1, h2, h3⟩ := ih (by omega) acc hnd (by omega)
        refine ⟨r, Ev.step (fun k => by rw [eD.l0]) (aU (by omega) (aU (by omega) ?_)), h2, fun x => ?_⟩
        · rw [dP hi (by omega), fH, hy]
          exact Ev.bind hh (aU rfl h1)
        · rw [h3, List.mem_cons]
          have := iJ.1 c
          constructor
          · rintro (q | q)
            · exact .inl q
            · exact .inr (.inr q)
          · rintro (q | q | q)
            · exact .inl q
            · exact .inl (q ▸ this)
            · exact .inr q
      | false =>
        rw [c] at hh
        have hni : y ∉ acc := fun q => by rw [iJ.2 q] at c; cases c
        obtain ⟨r, h1, h2, h3⟩ := ih (by omega) (acc ++ [y]) (List.nodup_append.2 ⟨hnd, by simp, fun u hu v hv e => by rw [List.mem_singleton] at hv; subst hv; exact hni (e ▸ hu)⟩) (by rw [List.length_append, List.length_singleton]; omega)
        refine ⟨r, Ev.step (fun k => by rw [eD.l0]) (aU (by omega) (aU (by omega) ?_)), h2, fun x => ?_⟩
        · rw [dP hi (by omega), fH, hy]
          exact Ev.bind hh (cB (by simp) (aU (by omega) h1))
        · rw [h3, List.mem_cons, List.mem_append, List.mem_singleton, or_assoc])
  obtain ⟨r, h1, h2, h3⟩ := key (by omega) a ha (by omega)
  refine ⟨r, ?_, h2, h3⟩
  unfold eD.f
  exact aU (by omega) h1
theorem aHJ (a b : List ByteArray) (ha : iQ a) (h : a.length + b.length ≤ 8796093022207) : Ev (fun k => eD.f k a b) (yN a b) := by
  obtain ⟨r, h1, h2, h3⟩ := aEQ a b (wK ha) h
  exact aHB h2 ha h3 ▸ h1
/-! ### numbers, written -/
theorem kZ {n : Nat} (h : n < 10) : Lib.decDigits n = [UInt8.ofNat (48 + n)] := by rw [Lib.decDigits, dif_pos h]
theorem qH {n : Nat} (h : ¬ n < 10) : Lib.decDigits n = Lib.decDigits (n / 10) ++ [UInt8.ofNat (48 + n % 10)] := by rw [Lib.decDigits, dif_neg h]
theorem wF : ∀ (m n : Nat), n ≤ m → (Lib.decDigits n).length ≤ n + 1
  | m, n, h => by
    by_cases c : n < 10
    · rw [kZ c]; simp
    · rw [qH c]
      have := wF (n / 10) (n / 10) (Nat.le_refl _)
      simp; omega
termination_by m n => n
decreasing_by omega
def lK (n : Int) : ByteArray := ⟨(Lib.decDigits n.toNat).toArray⟩
theorem oE {n : Int} (h0 : 0 ≤ n) (h : n ≤ 10000) : (lK n).size ≤ 10001 := by
  have := wF n.toNat n.toNat (Nat.le_refl _)
  show (Lib.decDigits n.toNat).toArray.size ≤ 10001
  rw [List.size_toArray]; omega
theorem aHT (n : Int) (h : 0 ≤ n) (h1 : n ≤ 10000) : Ev (fun _ => strconv_Itoa.f n) (lK n) := by
  unfold strconv_Itoa.f wG
  rw [if_pos ⟨by omega, by omega⟩]
  exact aZ (by unfold aJK Lib.itoa lK; rw [if_neg (by omega)])
theorem dig (d : Int) (h0 : 0 ≤ d) (h1 : d < 10) : UInt8.ofNat (IntKind.wrap .u8 (wrap64 (48 + d))).toNat = UInt8.ofNat (48 + d.toNat) := by
  have : d = 0 ∨ d = 1 ∨ d = 2 ∨ d = 3 ∨ d = 4 ∨ d = 5 ∨ d = 6 ∨ d = 7 ∨ d = 8 ∨ d = 9 := by omega
  rcases this with rfl | rfl | rfl | rfl | rfl | rfl | rfl | rfl | rfl | rfl <;> decide +kernel
theorem aKD (a b : List UInt8) : (⟨a.toArray⟩ : ByteArray) ++ ⟨b.toArray⟩ = ⟨(a ++ b).toArray⟩ := by
  apply ByteArray.ext
  simp [ByteArray.data_append]
/-! ### a plant, written -/
theorem fP : ∀ (m : Nat) (n : Int), 0 ≤ n → n ≤ 10000 → n.toNat ≤ m → Ev (fun k => cD.f k n) (lK n)
  | m, n, h0, h1, hm => by
    refine Ev.step (fun k => by rw [cD.f]) ?_
    by_cases c : n < 10
    · refine aU c (aZ ?_)
      unfold lK
      rw [kZ (by omega), dig n h0 c]
    · have e1 : wrap64 (Int.tdiv n 10) = n / 10 := by rw [Int.tdiv_eq_ediv_of_nonneg h0]; exact w64 (by omega) (by omega)
      have e2 : Int.tmod n 10 = n % 10 := Int.tmod_eq_emod_of_nonneg h0
      rw [e1, e2, dig (n % 10) (by omega) (by omega)]
      have hs := oE (n := n / 10) (by omega) (by omega)
      refine cB c (Ev.bind (fP (n / 10).toNat (n / 10) (by omega) (by omega) (Nat.le_refl _)) (aU ?_ (aZ ?_)))
      · have : (⟨#[UInt8.ofNat (48 + (n % 10).toNat)]⟩ : ByteArray).size = 1 := rfl
        rw [this]; omega
      · unfold lK
        rw [qH (n := n.toNat) (by omega), show (n / 10).toNat = n.toNat / 10 by omega, show (n % 10).toNat = n.toNat % 10 by omega]
        exact aKD _ _
termination_by m n => n.toNat
decreasing_by omega
theorem z1 : (⟨#[32]⟩ : ByteArray).size = 1 := rfl
theorem zn : (⟨#[10]⟩ : ByteArray).size = 1 := rfl
theorem z0 : (⟨#[]⟩ : ByteArray).size = 0 := rfl
theorem zs : (⟨#[115, 116, 117, 102, 102, 32]⟩ : ByteArray).size = 6 := rfl
theorem zf : (⟨#[102, 111, 101, 32]⟩ : ByteArray).size = 4 := rfl
theorem zp : (⟨#[118, 101, 115, 115, 101, 108, 32]⟩ : ByteArray).size = 7 := rfl
theorem zj : (⟨#[106, 111, 105, 110, 116, 32]⟩ : ByteArray).size = 6 := rfl
theorem zv : (⟨#[118, 97, 108, 118, 101, 32]⟩ : ByteArray).size = 6 := rfl
def kG (x : ByteArray) : ByteArray := (⟨#[115, 116, 117, 102, 102, 32]⟩ : ByteArray) ++ (x ++ (⟨#[10]⟩ : ByteArray))
def jJ (x : aC) : ByteArray := (⟨#[102, 111, 101, 32]⟩ : ByteArray) ++ (x.f0 ++ ((⟨#[32]⟩ : ByteArray) ++ (x.f1 ++ (⟨#[10]⟩ : ByteArray))))
def iG (x : aB) : ByteArray := if x.f1 > 0 then (⟨#[118, 101, 115, 115, 101, 108, 32]⟩ : ByteArray) ++ (x.f0 ++ ((⟨#[32]⟩ : ByteArray) ++ (lK x.f1 ++ ((⟨#[32]⟩ : ByteArray) ++ (x.f2 ++ (⟨#[10]⟩ : ByteArray)))))) else (⟨#[106, 111, 105, 110, 116, 32]⟩ : ByteArray) ++ (x.f0 ++ ((⟨#[32]⟩ : ByteArray) ++ (x.f2 ++ (⟨#[10]⟩ : ByteArray))))
def hU (x : aA) : ByteArray := (⟨#[118, 97, 108, 118, 101, 32]⟩ : ByteArray) ++ (x.f0 ++ ((⟨#[32]⟩ : ByteArray) ++ (x.f1 ++ ((⟨#[32]⟩ : ByteArray) ++ (x.f2 ++ ((⟨#[32]⟩ : ByteArray) ++ (x.f3 ++ (⟨#[10]⟩ : ByteArray))))))))
def cat {α : Type} (g : α → ByteArray) : List α → ByteArray → ByteArray
  | [], a => a
  | x :: r, a => cat g r (a ++ g x)
theorem nB {α : Type} (g : α → ByteArray) (c : Nat) : ∀ (l : List α) (a : ByteArray), (∀ x ∈ l, (g x).size ≤ c) → (cat g l a).size ≤ a.size + l.length * c
  | [], a, _ => by simp [cat]
  | x :: r, a, h => by
    have h1 := h x (List.mem_cons_self ..)
    have h2 := nB g c r (a ++ g x) (fun y hy => h y (List.mem_cons_of_mem _ hy))
    rw [ByteArray.size_append] at h2
    rw [cat, List.length_cons, Nat.add_mul]
    omega
theorem lT {α β : Type} {f : Nat → α → Option β} {a b : α} {r : β} (h : Ev (fun k => f k b) r) (e : a = b) : Ev (fun k => f k a) r := e ▸ h
structure PrV (x : aA) : Prop where
  a0 : x.f0.size ≤ 8
  a1 : x.f1.size ≤ 8
  a2 : x.f2.size ≤ 8
  a3 : x.f3.size ≤ 8
structure PrP (x : aB) : Prop where
  a0 : x.f0.size ≤ 8
  a2 : x.f2.size ≤ 8
  b1 : 0 ≤ x.f1 ∧ x.f1 ≤ 1000
structure aJH (s : List ByteArray) (f : List aC) (p : List aB) (v : List aA) : Prop where
  ls : s.length ≤ 100
  lf : f.length ≤ 100
  lp : p.length ≤ 100
  lv : v.length ≤ 100
  s : ∀ x ∈ s, x.size ≤ 8
  f : ∀ x ∈ f, x.f0.size ≤ 8 ∧ x.f1.size ≤ 8
  p : ∀ x ∈ p, PrP x
  v : ∀ x ∈ v, PrV x
theorem iK {s : ByteArray} (h : dT s = true) : s.size ≤ 8 := by
  unfold dT at h
  rw [Bool.and_eq_true, decide_eq_true_iff] at h
  exact h.1.2
theorem tD {a b c : Int} (h : inB a b c = true) : b ≤ a ∧ a ≤ c := of_decide_eq_true h
theorem oZ {p : List aB} (h : ∀ x ∈ p, gP x = true) {x : ByteArray} (hx : dU p x = true) : x.size ≤ 8 := by
  unfold dU at hx
  rw [List.any_eq_true] at hx
  obtain ⟨y, hy, e⟩ := hx
  have e := of_decide_eq_true e
  have := h y hy
  unfold gP at this
  rw [Bool.and_eq_true] at this
  rw [← e]; exact iK this.1
theorem sF {x : ByteArray} (h : x.size ≤ 8) : (kG x).size ≤ 20000 := by
  unfold kG
  simp only [ByteArray.size_append, zs, zn]; omega
theorem sU {x : aC} (h : x.f0.size ≤ 8 ∧ x.f1.size ≤ 8) : (jJ x).size ≤ 20000 := by
  obtain ⟨h1, h2⟩ := h
  unfold jJ
  simp only [ByteArray.size_append, zf, z1, zn]; omega
theorem pL {x : aB} (h : PrP x) : (iG x).size ≤ 20000 := by
  have h1 := oE h.b1.1 (by have := h.b1.2; omega)
  have := h.a0; have := h.a2
  unfold iG
  split <;> (simp only [ByteArray.size_append, zp, zj, z1, zn]; omega)
theorem tT {x : aA} (h : PrV x) : (hU x).size ≤ 20000 := by
  have := h.a0; have := h.a1; have := h.a2; have := h.a3
  unfold hU
  simp only [ByteArray.size_append, zv, z1, zn]; omega
section
variable (s : List ByteArray) (f : List aC) (p : List aB) (v : List aA) (h : aJH s f p v)
include h
theorem aLJ (acc : ByteArray) (ha : acc.size ≤ 10000000) : Ev (fun k => aQ.l3 k v acc 0) (cat hU v acc) := by
  have key := eQ cW v (P := fun i r => i ≤ v.length → ∀ acc : ByteArray, acc.size ≤ 10000000 + i * 20000 → Ev (fun k => aQ.l3 k v acc (i : Int)) (cat hU r acc))
    (fun _ acc _ => by refine Ev.step (fun k => by rw [aQ.l3]) ?_; exact cB (by omega) (aZ rfl)) (fun i x r hi hx hm _ ih _ acc ha => ?_)
  · exact key (by omega) _ (by omega)
  have hv := h.v x hm
  have hs := tT hv
  have := hv.a0; have := hv.a1; have := hv.a2; have := hv.a3; have := h.lv
  refine Ev.step (fun k => by rw [aQ.l3]) (aU (by omega) (aU (by omega) ?_))
  rw [rdV, hx, dP hi (by omega)]
  repeat' (first | (refine aU ?hh ?_; (case hh => ((try simp only [ByteArray.size_append, zv, z1, zn]); omega))) | fail)
  exact lT (f := fun k a => aQ.l3 k v a ((i + 1 : Nat) : Int)) (ih (by omega) _ (by rw [ByteArray.size_append]; omega)) (by simp only [hU, ByteArray.append_assoc])
theorem aLE (acc : ByteArray) (ha : acc.size ≤ 10000000) : Ev (fun k => aR.l3 k v acc 0) (cat hU v acc) := by
  have key := eQ cW v (P := fun i r => i ≤ v.length → ∀ acc : ByteArray, acc.size ≤ 10000000 + i * 20000 → Ev (fun k => aR.l3 k v acc (i : Int)) (cat hU r acc))
    (fun _ acc _ => by refine Ev.step (fun k => by rw [aR.l3]) ?_; exact cB (by omega) (aZ rfl)) (fun i x r hi hx hm _ ih _ acc ha => ?_)
  · exact key (by omega) _ (by omega)
  have hv := h.v x hm
  have hs := tT hv
  have := hv.a0; have := hv.a1; have := hv.a2; have := hv.a3; have := h.lv
  refine Ev.step (fun k => by rw [aR.l3]) (aU (by omega) (aU (by omega) ?_))
  rw [rdV, hx, dP hi (by omega)]
  repeat' (first | (refine aU ?hh ?_; (case hh => ((try simp only [ByteArray.size_append, zv, z1, zn]); omega))) | fail)
  exact lT (f := fun k a => aR.l3 k v a ((i + 1 : Nat) : Int)) (ih (by omega) _ (by rw [ByteArray.size_append]; omega)) (by simp only [hU, ByteArray.append_assoc])
theorem aLF (acc : ByteArray) (ha : acc.size ≤ 7000000) : Ev (fun k => aQ.l2 k p v acc 0) (cat hU v (cat iG p acc)) := by
  have key := eQ cV p (P := fun i r => i ≤ p.length → ∀ acc : ByteArray, acc.size ≤ 7000000 + i * 20000 → Ev (fun k => aQ.l2 k p v acc (i : Int)) (cat hU v (cat iG r acc)))
    (fun _ acc hac => by have := h.lp; refine Ev.step (fun k => by rw [aQ.l2]) ?_; exact cB (by omega) (aLJ s f p v h acc (by omega))) (fun i x r hi hx hm _ ih _ acc ha => ?_)
  · exact key (by omega) _ (by omega)
  have hp := h.p x hm
  have hs := pL hp
  have hd := oE hp.b1.1 (by have := hp.b1.2; omega)
  have hb := hp.b1
  have := hp.a0; have := hp.a2; have := h.lp
  refine Ev.step (fun k => by rw [aQ.l2]) (aU (by omega) (aU (by omega) ?_))
  rw [rdP, hx, dP hi (by omega)]
  refine bL (fun c => ?_) (fun c => ?_)
  · repeat' (first | (refine aU ?hh ?_; (case hh => ((try simp only [ByteArray.size_append, zp, z1, zn]); omega))) | fail)
    refine Ev.bind (fP _ _ hb.1 (by omega) (Nat.le_refl _)) ?_
    repeat' (first | (refine aU ?hh ?_; (case hh => ((try simp only [ByteArray.size_append, zp, z1, zn]); omega))) | fail)
    exact lT (f := fun k a => aQ.l2 k p v a ((i + 1 : Nat) : Int)) (ih (by omega) _ (by rw [ByteArray.size_append]; omega)) (by simp only [iG, if_pos c, ByteArray.append_assoc])
  · repeat' (first | (refine aU ?hh ?_; (case hh => ((try simp only [ByteArray.size_append, zj, z1, zn]); omega))) | fail)
    exact lT (f := fun k a => aQ.l2 k p v a ((i + 1 : Nat) : Int)) (ih (by omega) _ (by rw [ByteArray.size_append]; omega)) (by simp only [iG, if_neg c, ByteArray.append_assoc])
theorem aLD (acc : ByteArray) (ha : acc.size ≤ 7000000) : Ev (fun k => aR.l2 k p v acc 0) (cat hU v (cat iG p acc)) := by
  have key := eQ cV p (P := fun i r => i ≤ p.length → ∀ acc : ByteArray, acc.size ≤ 7000000 + i * 20000 → Ev (fun k => aR.l2 k p v acc (i : Int)) (cat hU v (cat iG r acc)))
    (fun _ acc hac => by have := h.lp; refine Ev.step (fun k => by rw [aR.l2]) ?_; exact cB (by omega) (aLE s f p v h acc (by omega))) (fun i x r hi hx hm _ ih _ acc ha => ?_)
  · exact key (by omega) _ (by omega)
  have hp := h.p x hm
  have hs := pL hp
  have hd := oE hp.b1.1 (by have := hp.b1.2; omega)
  have hb := hp.b1
  have := hp.a0; have := hp.a2; have := h.lp
  refine Ev.step (fun k => by rw [aR.l2]) (aU (by omega) (aU (by omega) ?_))
  rw [rdP, hx, dP hi (by omega)]
  refine bL (fun c => ?_) (fun c => ?_)
  · repeat' (first | (refine aU ?hh ?_; (case hh => ((try simp only [ByteArray.size_append, zp, z1, zn]); omega))) | fail)
    refine Ev.bind (aHT _ hb.1 (by omega)) ?_
    repeat' (first | (refine aU ?hh ?_; (case hh => ((try simp only [ByteArray.size_append, zp, z1, zn]); omega))) | fail)
    exact lT (f := fun k a => aR.l2 k p v a ((i + 1 : Nat) : Int)) (ih (by omega) _ (by rw [ByteArray.size_append]; omega)) (by simp only [iG, if_pos c, ByteArray.append_assoc])
  · repeat' (first | (refine aU ?hh ?_; (case hh => ((try simp only [ByteArray.size_append, zj, z1, zn]); omega))) | fail)
    exact lT (f := fun k a => aR.l2 k p v a ((i + 1 : Nat) : Int)) (ih (by omega) _ (by rw [ByteArray.size_append]; omega)) (by simp only [iG, if_neg c, ByteArray.append_assoc])
theorem aLX (acc : ByteArray) (ha : acc.size ≤ 4000000) : Ev (fun k => aQ.l1 k f p v acc 0) (cat hU v (cat iG p (cat jJ f acc))) := by
  have key := eQ dG f (P := fun i r => i ≤ f.length → ∀ acc : ByteArray, acc.size ≤ 4000000 + i * 20000 → Ev (fun k => aQ.l1 k f p v acc (i : Int)) (cat hU v (cat iG p (cat jJ r acc))))
    (fun _ acc hac => by have := h.lf; refine Ev.step (fun k => by rw [aQ.l1]) ?_; exact cB (by omega) (aLF s f p v h acc (by omega))) (fun i x r hi hx hm _ ih _ acc ha => ?_)
  · exact key (by omega) _ (by omega)
  obtain ⟨h1, h2⟩ := h.f x hm
  have hs := sU ⟨h1, h2⟩
  have := h.lf
  refine Ev.step (fun k => by rw [aQ.l1]) (aU (by omega) ?_)
  rw [rdF, hx, dP hi (by omega)]
  repeat' (first | (refine aU ?hh ?_; (case hh => ((try simp only [ByteArray.size_append, zf, z1, zn]); omega))) | fail)
  exact lT (f := fun k a => aQ.l1 k f p v a ((i + 1 : Nat) : Int)) (ih (by omega) _ (by rw [ByteArray.size_append]; omega)) (by simp only [jJ, ByteArray.append_assoc])
theorem aLA (acc : ByteArray) (ha : acc.size ≤ 4000000) : Ev (fun k => aR.l1 k f p v acc 0) (cat hU v (cat iG p (cat jJ f acc))) := by
  have key := eQ dG f (P := fun i r => i ≤ f.length → ∀ acc : ByteArray, acc.size ≤ 4000000 + i * 20000 → Ev (fun k => aR.l1 k f p v acc (i : Int)) (cat hU v (cat iG p (cat jJ r acc))))
    (fun _ acc hac => by have := h.lf; refine Ev.step (fun k => by rw [aR.l1]) ?_; exact cB (by omega) (aLD s f p v h acc (by omega))) (fun i x r hi hx hm _ ih _ acc ha => ?_)
  · exact key (by omega) _ (by omega)
  obtain ⟨h1, h2⟩ := h.f x hm
  have hs := sU ⟨h1, h2⟩
  have := h.lf
  refine Ev.step (fun k => by rw [aR.l1]) (aU (by omega) ?_)
  rw [rdF, hx, dP hi (by omega)]
  repeat' (first | (refine aU ?hh ?_; (case hh => ((try simp only [ByteArray.size_append, zf, z1, zn]); omega))) | fail)
  exact lT (f := fun k a => aR.l1 k f p v a ((i + 1 : Nat) : Int)) (ih (by omega) _ (by rw [ByteArray.size_append]; omega)) (by simp only [jJ, ByteArray.append_assoc])
theorem aMB (acc : ByteArray) (ha : acc.size ≤ 1000000) : Ev (fun k => aQ.l0 k s f p v acc 0) (cat hU v (cat iG p (cat jJ f (cat kG s acc)))) := by
  have key := eQ ByteArray.empty s (P := fun i r => i ≤ s.length → ∀ acc : ByteArray, acc.size ≤ 1000000 + i * 20000 → Ev (fun k => aQ.l0 k s f p v acc (i : Int)) (cat hU v (cat iG p (cat jJ f (cat kG r acc)))))
    (fun _ acc hac => by have := h.ls; refine Ev.step (fun k => by rw [aQ.l0]) ?_; exact cB (by omega) (aLX s f p v h acc (by omega))) (fun i x r hi hx hm _ ih _ acc ha => ?_)
  · exact key (by omega) _ (by omega)
  have h1 := h.s x hm
  have hs := sF h1
  have := h.ls
  refine Ev.step (fun k => by rw [aQ.l0]) (aU (by omega) ?_)
  rw [fH, hx, dP hi (by omega)]
  repeat' (first | (refine aU ?hh ?_; (case hh => ((try simp only [ByteArray.size_append, zs, z1, zn]); omega))) | fail)
  exact lT (f := fun k a => aQ.l0 k s f p v a ((i + 1 : Nat) : Int)) (ih (by omega) _ (by rw [ByteArray.size_append]; omega)) (by simp only [kG, ByteArray.append_assoc])
theorem aLS (acc : ByteArray) (ha : acc.size ≤ 1000000) : Ev (fun k => aR.l0 k s f p v acc 0) (cat hU v (cat iG p (cat jJ f (cat kG s acc)))) := by
  have key := eQ ByteArray.empty s (P := fun i r => i ≤ s.length → ∀ acc : ByteArray, acc.size ≤ 1000000 + i * 20000 → Ev (fun k => aR.l0 k s f p v acc (i : Int)) (cat hU v (cat iG p (cat jJ f (cat kG r acc)))))
    (fun _ acc hac => by have := h.ls; refine Ev.step (fun k => by rw [aR.l0]) ?_; exact cB (by omega) (aLA s f p v h acc (by omega))) (fun i x r hi hx hm _ ih _ acc ha => ?_)
  · exact key (by omega) _ (by omega)
  have h1 := h.s x hm
  have hs := sF h1
  have := h.ls
  refine Ev.step (fun k => by rw [aR.l0]) (aU (by omega) ?_)
  rw [fH, hx, dP hi (by omega)]
  repeat' (first | (refine aU ?hh ?_; (case hh => ((try simp only [ByteArray.size_append, zs, z1, zn]); omega))) | fail)
  exact lT (f := fun k a => aR.l0 k s f p v a ((i + 1 : Nat) : Int)) (ih (by omega) _ (by rw [ByteArray.size_append]; omega)) (by simp only [kG, ByteArray.append_assoc])
end
def mE (s : List ByteArray) (f : List aC) (p : List aB) (v : List aA) : ByteArray := cat hU v (cat iG p (cat jJ f (cat kG s (⟨#[]⟩ : ByteArray))))
theorem aGF {s : List ByteArray} {f : List aC} {p : List aB} {v : List aA} (h : iR s f p v = true) : aJH s f p v := by
  simp only [iR, Bool.and_eq_true, decide_eq_true_eq] at h
  obtain ⟨⟨l1, l2⟩, ⟨hn, hf⟩, ⟨l3, hp⟩, l4, hv⟩ := h
  have hn' := hn
  unfold jS at hn'
  unfold nP at hf
  unfold kC at hp
  unfold jB at hv
  rw [Bool.and_eq_true] at hn' hf hp hv
  have hpl := List.all_eq_true.1 hp.1
  refine ⟨by omega, by omega, by omega, by omega, fun x hx => iK (List.all_eq_true.1 hn'.1 x hx), fun x hx => ?_, fun x hx => ?_, fun x hx => ?_⟩
  · have := List.all_eq_true.1 hf.1 x hx
    simp only [oS, Bool.and_eq_true] at this
    exact ⟨iK (oK hn this.2.1), iK (oK hn this.2.2)⟩
  · have := hpl x hx
    simp only [gP, Bool.and_eq_true] at this
    have h2 := tD this.2.1
    exact ⟨iK this.1, iK this.2.2, by omega⟩
  · have := List.all_eq_true.1 hv.1 x hx
    simp only [iH, Bool.and_eq_true] at this
    exact ⟨iK this.1, oZ hpl this.2.2.1, oZ hpl this.2.2.2.1, iK this.2.2.2.2⟩
/-! ### numbers drawn -/
theorem aDL (a b : Nat) (ha : a < 2 ^ 62) (hb : b < 2 ^ 62) : zA .i64 (a : Int) (b : Int) = ((a ^^^ b : Nat) : Int) := by
  have hx : a ^^^ b < 2 ^ 62 := Nat.xor_lt_two_pow ha hb
  have ha' : a % 2 ^ IntKind.i64.bits = a := Nat.mod_eq_of_lt (Nat.lt_trans ha (by decide))
  have hb' : b % 2 ^ IntKind.i64.bits = b := Nat.mod_eq_of_lt (Nat.lt_trans hb (by decide))
  have e : zA .i64 (a : Int) (b : Int) = IntKind.i64.wrap ((a ^^^ b : Nat) : Int) := by
    simp only [zA, BitVec.ofInt_natCast, BitVec.toNat_xor, BitVec.toNat_ofNat, ha', hb']
  rw [e, IntKind.wrap_i64]
  generalize a ^^^ b = n at hx ⊢
  have : (2 : Nat) ^ 62 = 4611686018427387904 := by decide
  omega
theorem zB {a b : Int} (h0 : 0 ≤ a) (h1 : a ≤ 1000000000000000) (h2 : 0 ≤ b) (h3 : b ≤ 1000000000000000) : 0 ≤ zA .i64 a b := by
  obtain ⟨m, rfl⟩ : ∃ m : Nat, a = (m : Int) := ⟨a.toNat, by omega⟩
  obtain ⟨n, rfl⟩ : ∃ n : Nat, b = (n : Int) := ⟨b.toNat, by omega⟩
  rw [aDL m n (by have : (2 : Nat) ^ 62 = 4611686018427387904 := by decide
                  omega) (by have : (2 : Nat) ^ 62 = 4611686018427387904 := by decide
                             omega)]
  omega
structure gX (b : List Int) : Prop where
  len : b.length ≤ 2000
  byte : ∀ i, i < b.length → 0 ≤ b.getD i 0 ∧ b.getD i 0 ≤ 255
theorem gX.rd {b : List Int} (h : gX b) (i : Int) (h0 : 0 ≤ i) (h1 : i < b.length) : 0 ≤ rd b i ∧ rd b i ≤ 255 := by
  obtain ⟨n, rfl⟩ : ∃ n : Nat, i = (n : Int) := ⟨i.toNat, by omega⟩
  rw [aKV]
  exact h.byte n (by omega)
theorem fU {b : List Int} (hb : gX b) (p n : Int) (hp : 0 ≤ p) (hp1 : p ≤ 1000000000) (hn : n ≤ 1000000000) :
    ∃ v, (0 ≤ v ∧ (1 ≤ n → v < n) ∧ (n < 1 → v = 0)) ∧ aS.f b p n = some (v, b, p + 1) := by
  unfold aS.f
  have hw : wrap64 (wrap64 (p + 1) - 1) = p := by rw [w64 (x := p + 1) (by omega) (by omega), w64 (by omega) (by omega)]; omega
  rw [hw, w64 (x := p + 1) (by omega) (by omega)]
  by_cases c : n < 1
  · exact ⟨0, ⟨by omega, by omega, by omega⟩, by rw [if_pos c]⟩
  by_cases e : (b.length : Int) = 0
  · exact ⟨0, ⟨by omega, by omega, by omega⟩, by rw [if_neg c, if_pos e]⟩
  have hl := hb.len
  have fin : ∀ x : Int, 0 ≤ x → (0 ≤ Int.tmod x n ∧ (1 ≤ n → Int.tmod x n < n) ∧ (n < 1 → Int.tmod x n = 0)) := fun x hx => by
    rw [Int.tmod_eq_emod_of_nonneg hx]
    exact ⟨Int.emod_nonneg _ (by omega), fun _ => Int.emod_lt_of_pos _ (by omega), fun q => by omega⟩
  rw [if_neg c, if_neg e]
  by_cases q : p < (b.length : Int)
  · have hr := hb.rd p hp q
    exact ⟨_, fin (wrap64 (rd b p)) (by rw [w64 (by omega) (by omega)]; omega), by rw [if_pos q, if_pos hp, if_pos (by omega)]⟩
  have h7 : wrap64 (wrap64 (p * 7) + 3) = p * 7 + 3 := by rw [w64 (x := p * 7) (by omega) (by omega), w64 (by omega) (by omega)]
  have m1 : Int.tmod p (b.length : Int) = p % (b.length : Int) := Int.tmod_eq_emod_of_nonneg hp
  have m2 : Int.tmod (p * 7 + 3) (b.length : Int) = (p * 7 + 3) % (b.length : Int) := Int.tmod_eq_emod_of_nonneg (by omega)
  have d1 : Int.tdiv p (b.length : Int) = p / (b.length : Int) := Int.tdiv_eq_ediv_of_nonneg hp
  have r1 := Int.emod_nonneg p e
  have r2 := Int.emod_lt_of_pos p (show (0 : Int) < (b.length : Int) by omega)
  have r3 := Int.emod_nonneg (p * 7 + 3) e
  have r4 := Int.emod_lt_of_pos (p * 7 + 3) (show (0 : Int) < (b.length : Int) by omega)
  have v1 := hb.rd _ r1 r2
  have v2 := hb.rd _ r3 r4
  have dv0 : 0 ≤ p / (b.length : Int) := Int.ediv_nonneg hp (by omega)
  have dv1 : p / (b.length : Int) ≤ p := Int.ediv_le_self _ hp
  rw [h7, m1, m2, d1, if_neg q, if_pos e, if_pos r1, if_pos r2, if_pos r3, if_pos r4, if_pos (show n ≠ 0 by omega)]
  generalize rd b (p % (b.length : Int)) = u1 at *
  generalize rd b ((p * 7 + 3) % (b.length : Int)) = u2 at *
  generalize p / (b.length : Int) = u3 at *
  rw [w64 (x := u1) (by omega) (by omega), w64 (x := u2) (by omega) (by omega), w64 (x := u1 * 131) (by omega) (by omega), w64 (x := u2 * 1117) (by omega) (by omega), w64 (x := u1 * 131 + u2 * 1117) (by omega) (by omega), w64 (x := p * 29) (by omega) (by omega),
    w64 (x := u1 * 131 + u2 * 1117 + p * 29) (by omega) (by omega), w64 (x := u3) (by omega) (by omega), w64 (x := u3 * 53) (by omega) (by omega), w64 (x := u1 * 131 + u2 * 1117 + p * 29 + u3 * 53) (by omega) (by omega)]
  obtain ⟨x, hx⟩ : ∃ x, u1 * 131 + u2 * 1117 + p * 29 + u3 * 53 = x := ⟨_, rfl⟩
  rw [hx]
  have x0 : 0 ≤ x := by omega
  have x1 : x ≤ 1000000000000 := by omega
  have y0 : 0 ≤ Int.tdiv x 64 ∧ Int.tdiv x 64 ≤ x := by rw [Int.tdiv_eq_ediv_of_nonneg x0]; exact ⟨Int.ediv_nonneg x0 (by omega), Int.ediv_le_self _ x0⟩
  rw [w64 (x := Int.tdiv x 64) (by omega) (by omega)]
  exact ⟨_, fin _ (zB x0 (by omega) y0.1 (by omega)), rfl⟩
theorem lC {b : List Int} (hb : gX b) (p : Int) (hp : 0 ≤ p) (hp1 : p ≤ 1000000000) (l : List ByteArray) (h1 : 1 ≤ l.length) (h2 : l.length ≤ 1000000) : ∃ s ∈ l, bA.f b p l = some (s, b, p + 1) := by
  unfold bA.f
  obtain ⟨v, ⟨v0, v1, _⟩, e⟩ := fU hb p (l.length : Int) hp hp1 (by omega)
  have v1 := v1 (by omega)
  obtain ⟨n, rfl⟩ : ∃ n : Nat, v = (n : Int) := ⟨v.toNat, by omega⟩
  refine ⟨l.getD n ByteArray.empty, jN _ _ _ (by omega), ?_⟩
  rw [e]
  simp only [Option.bind_some]
  rw [if_pos v0, if_pos v1, fH]
theorem aBQ (l : List Int) (h : ∀ x ∈ l, 0 ≤ x ∧ x ≤ 255) : ∃ b, gX b ∧ gN.f l = some (b, 0) := by
  unfold gN.f
  by_cases c : (l.length : Int) > 2000
  · refine ⟨l.take 2000, ⟨by simp; omega, fun i hi => ?_⟩, by rw [if_pos c, if_pos (by omega)]; rfl⟩
    exact h _ (List.mem_of_mem_take (jN 0 _ i hi))
  · exact ⟨l, ⟨by omega, fun i hi => h _ (jN 0 _ i hi)⟩, by rw [if_neg c]⟩
theorem xN {l : List Int} (h : ∀ x ∈ l, (Lit.int .u8 x).wf = true) : ∀ x ∈ l, 0 ≤ x ∧ x ≤ 255 := fun x hx => by
  have := h x hx
  simpa [Lit.wf, IntKind.min, IntKind.max, IntKind.signed, IntKind.bits] using this
/-! ### answers that are there -/
/-- there is an answer, and it is so -/
def ExP {α : Type} (g : Nat → Option α) (Q : α → Prop) : Prop := ∃ q, Ev g q ∧ Q q
theorem dC {α : Type} {a : α} {Q : α → Prop} (h : Q a) : ExP (fun _ => some a) Q := ⟨a, Ev.now a, h⟩
theorem dI {α β : Type} {g : Option α} {a : α} {f : Nat → α → Option β} {Q : β → Prop} (h : g = some a) (k : ExP (fun n => f n a) Q) : ExP (fun n => g.bind (f n)) Q := by subst h; exact k
theorem dX {α β : Type} {g : Nat → Option α} {f : Nat → α → Option β} {R : α → Prop} {Q : β → Prop} (h : ExP g R) (k : ∀ a, R a → ExP (fun n => f n a) Q) : ExP (fun n => (g n).bind (f n)) Q := by
  obtain ⟨a, h1, h2⟩ := h
  obtain ⟨q, e, hq⟩ := k a h2
  exact ⟨q, Ev.bind h1 e, hq⟩
theorem cC {α : Type} {c : Prop} {d : Decidable c} {g f : Nat → Option α} {Q : α → Prop} (h : c → ExP g Q) (k : ¬ c → ExP f Q) : ExP (fun n => @ite _ c d (g n) (f n)) Q := by
  by_cases q : c
  · exact (h q).imp fun _ e => ⟨aU q e.1, e.2⟩
  · exact (k q).imp fun _ e => ⟨cB q e.1, e.2⟩
theorem bF {α : Type} {c : Prop} {d : Decidable c} {g f : Nat → Option α} {Q : α → Prop} (h : c) (k : ExP g Q) : ExP (fun n => @ite _ c d (g n) (f n)) Q := k.imp fun _ e => ⟨aU h e.1, e.2⟩
theorem dL {α : Type} {c : Prop} {d : Decidable c} {g f : Nat → Option α} {Q : α → Prop} (h : ¬ c) (k : ExP f Q) : ExP (fun n => @ite _ c d (g n) (f n)) Q := k.imp fun _ e => ⟨cB h e.1, e.2⟩
theorem cE {α : Type} {g f : Nat → Option α} {Q : α → Prop} (h : ∀ k, g (k + 1) = f k) (k : ExP f Q) : ExP g Q := k.imp fun _ e => ⟨Ev.step h e.1, e.2⟩
theorem eZ {α β : Type} {g : Nat → Option α} {a : α} {f : Nat → α → Option β} {Q : β → Prop} (h : Ev g a) (k : ExP (fun n => f n a) Q) : ExP (fun n => (g n).bind (f n)) Q := by
  obtain ⟨q, e, hq⟩ := k
  exact ⟨q, Ev.bind h e, hq⟩
/-! ### plants, drawn: what a line puts into one -/
structure PD (m : Nat) (s : List ByteArray) (f : List aC) (p : List aB) (v : List aA) : Prop where
  ls : s.length ≤ 8 + m
  lf : f.length ≤ 12 + m
  lp : p.length ≤ 14 + m
  lv : v.length ≤ 18 + m
  s1 : ∀ x ∈ s, x.size ≤ 1000
  f1 : ∀ x ∈ f, x.f0.size ≤ 1000 ∧ x.f1.size ≤ 1000
  p1 : ∀ x ∈ p, x.f0.size ≤ 1000 ∧ x.f2.size ≤ 1000
  v1 : ∀ x ∈ v, x.f0.size ≤ 1000 ∧ x.f1.size ≤ 1000 ∧ x.f2.size ≤ 1000 ∧ x.f3.size ≤ 1000
abbrev PC := List ByteArray × List aC × List aB × List aA × Int
def QC (t : PC) : Prop := PD 0 t.1 t.2.1 t.2.2.1 t.2.2.2.1
theorem zV {t : PC} (h : QC t) : QC (t.1, t.2.1, t.2.2.1, t.2.2.2.1, t.2.2.2.2) := h
theorem sE {s : List ByteArray} {f : List aC} {p : List aB} {v : List aA} (h : PD 0 s f p v) (c : Int) : QC (s, f, p, v, c) := h
theorem oH {α : Type} {P : α → Prop} {l : List α} {x : α} (n : Nat) (h : ∀ y ∈ l, P y) (hx : P x) : ∀ y ∈ (([] ++ l.take n) ++ [x]) ++ l.drop n, P y := fun y hy => by
  rcases List.mem_append.1 hy with hy | hy
  · rcases List.mem_append.1 hy with hy | hy
    · exact h y (List.mem_of_mem_take hy)
    · rw [List.mem_singleton] at hy; subst hy; exact hx
  · exact h y (List.mem_of_mem_drop hy)
theorem oG {α : Type} (l : List α) (x : α) (n : Nat) : ((([] ++ l.take n) ++ [x]) ++ l.drop n).length = l.length + 1 := by
  simp only [List.nil_append, List.length_append, List.length_take, List.length_drop, List.length_cons, List.length_nil]; omega
theorem gU {ws : List ByteArray} (h : ∀ w ∈ ws, w.size ≤ 1000) (i : Nat) : (aV ByteArray.empty ws (i : Int)).size ≤ 1000 := by
  rw [fH]
  by_cases c : i < ws.length
  · exact h _ (jN ByteArray.empty ws i c)
  · rw [List.getD_eq_getElem?_getD, List.getElem?_eq_none (by omega)]; show 0 ≤ 1000; omega
theorem wR (a : ByteArray) : ExP (fun k => bN.f k a) (fun _ => True) := by
  unfold bN.f
  refine eZ (pP _ _ _) (cC (fun c => ?_) (fun _ => dC trivial))
  have ha : a.size ≤ 4 := by have := of_decide_eq_true c; omega
  have L0 : ExP (fun k => bN.l0 k a 0 0) (fun _ => True) := by
    refine aBY a.size (P := fun i => ∀ n : Int, ExP (fun k => bN.l0 k a n (i : Int)) (fun _ => True)) (fun n => ?_) (fun i hi ih n => ?_) 0
    · refine cE (fun k => by rw [bN.l0]) ?_
      repeat' (first
        | with_reducible exact dC (trivial)
        | with_reducible refine bF (by omega) ?_
        | with_reducible refine dL (by omega) ?_
        | with_reducible refine cC (fun _ => ?_) (fun _ => ?_))
    · refine cE (fun k => by rw [bN.l0]) ?_
      rw [dP hi (by omega)]
      repeat' (first
        | with_reducible exact (ih _)
        | with_reducible exact dC (trivial)
        | with_reducible refine bF (by omega) ?_
        | with_reducible refine dL (by omega) ?_
        | with_reducible refine cC (fun _ => ?_) (fun _ => ?_))
  have L1 : ExP (fun k => bN.l1 k a 0 0) (fun _ => True) := by
    refine aBY a.size (P := fun i => ∀ n : Int, ExP (fun k => bN.l1 k a n (i : Int)) (fun _ => True)) (fun n => ?_) (fun i hi ih n => ?_) 0
    · refine cE (fun k => by rw [bN.l1]) ?_
      repeat' (first
        | with_reducible exact dC (trivial)
        | with_reducible refine bF (by omega) ?_
        | with_reducible refine dL (by omega) ?_
        | with_reducible refine cC (fun _ => ?_) (fun _ => ?_))
    · refine cE (fun k => by rw [bN.l1]) ?_
      rw [dP hi (by omega)]
      repeat' (first
        | with_reducible exact (ih _)
        | with_reducible exact dC (trivial)
        | with_reducible refine bF (by omega) ?_
        | with_reducible refine dL (by omega) ?_
        | with_reducible refine cC (fun _ => ?_) (fun _ => ?_))
  repeat' (first
    | with_reducible exact dC (trivial)
    | with_reducible exact (L0)
    | with_reducible exact (L1)
    | with_reducible refine bF (by omega) ?_
    | with_reducible refine dL (by omega) ?_
    | with_reducible refine cC (fun _ => ?_) (fun _ => ?_))
section
variable {s : List ByteArray} {f : List aC} {p : List aB} {v : List aA} {ws : List ByteArray} (h : PD 0 s f p v) (hw : ∀ w ∈ ws, w.size ≤ 1000)
include h hw
theorem aAG : ExP (fun k => dJ.f k s f p v ws) QC := by
  obtain ⟨ls, lf, lp, lv, s1, f1, p1, v1⟩ := h
  have h : PD 0 s f p v := ⟨ls, lf, lp, lv, s1, f1, p1, v1⟩
  have w1 := gU hw 1
  have L : s.length ≤ 7 → ExP (fun k => dJ.l0 k s f p v ws 0) QC := fun hs => by
    have fin : ∀ n : Nat, QC ((([] ++ s.take n) ++ [aV ByteArray.empty ws 1]) ++ s.drop n, f, p, v, 0) := fun n => ⟨by dsimp only; rw [oG]; omega, lf, lp, lv, oH n s1 w1, f1, p1, v1⟩
    refine eQ ByteArray.empty s (P := fun i _ => ExP (fun k => dJ.l0 k s f p v ws (i : Int)) QC) ?_ (fun i x r hi hx hm _ ih => ?_)
    · refine cE (fun k => by rw [dJ.l0]) ?_
      rw [Int.toNat_natCast]
      repeat' (first
        | with_reducible exact dC (fin _)
        | with_reducible refine bF (by omega) ?_
        | with_reducible refine dL (by omega) ?_
        | with_reducible refine cC (fun _ => ?_) (fun _ => ?_))
    · refine cE (fun k => by rw [dJ.l0]) ?_
      rw [Int.toNat_natCast, dP hi (by omega)]
      repeat' (first
        | with_reducible exact (ih)
        | with_reducible exact dC (fin _)
        | with_reducible refine bF (by omega) ?_
        | with_reducible refine dL (by omega) ?_
        | with_reducible refine cC (fun _ => ?_) (fun _ => ?_))
  unfold dJ.f
  repeat' (first
    | with_reducible refine eZ (fR _) ?_
    | with_reducible refine eZ (pV _ _ (by omega)) ?_
    | with_reducible exact dC (sE h _)
    | with_reducible exact (L (by omega))
    | with_reducible refine bF (by omega) ?_
    | with_reducible refine dL (by omega) ?_
    | with_reducible refine cC (fun _ => ?_) (fun _ => ?_))
omit hw in
theorem aCX (a b : ByteArray) : ExP (fun k => cN.f k s f p v a b) (fun _ => True) := by
  obtain ⟨ls, lf, lp, lv, s1, f1, p1, v1⟩ := h
  unfold cN.f
  refine eQ dG f (P := fun i _ => ExP (fun k => cN.l0 k f a b (i : Int)) (fun _ => True)) ?_ (fun i x r hi hx hm _ ih => ?_)
  · refine cE (fun k => by rw [cN.l0]) ?_
    repeat' (first
      | with_reducible exact dC (trivial)
      | with_reducible refine bF (by omega) ?_
      | with_reducible refine dL (by omega) ?_
      | with_reducible refine cC (fun _ => ?_) (fun _ => ?_))
  · refine cE (fun k => by rw [cN.l0]) ?_
    rw [dP hi (by omega)]
    repeat' (first
      | with_reducible exact (ih)
      | with_reducible exact dC (trivial)
      | with_reducible refine bF (by omega) ?_
      | with_reducible refine dL (by omega) ?_
      | with_reducible refine cC (fun _ => ?_) (fun _ => ?_))
theorem aFT : ExP (fun k => cP.f k s f p v ws) QC := by
  have hF := fun a b => aCX h a b
  obtain ⟨ls, lf, lp, lv, s1, f1, p1, v1⟩ := h
  have h : PD 0 s f p v := ⟨ls, lf, lp, lv, s1, f1, p1, v1⟩
  have w1 := gU hw 1
  have w2 := gU hw 2
  have L0 : f.length ≤ 11 → ExP (fun k => cP.l0 k s f p v ws 0) QC := fun hs => by
    have fin : ∀ n : Nat, QC (s, (([] ++ f.take n) ++ [(⟨aV ByteArray.empty ws 2, aV ByteArray.empty ws 1⟩ : aC)]) ++ f.drop n, p, v, 0) := fun n => ⟨ls, by dsimp only; rw [oG]; omega, lp, lv, s1, oH n f1 ⟨w2, w1⟩, p1, v1⟩
    refine eQ dG f (P := fun i _ => ExP (fun k => cP.l0 k s f p v ws (i : Int)) QC) ?_ (fun i x r hi hx hm _ ih => ?_)
    · refine cE (fun k => by rw [cP.l0]) ?_
      rw [Int.toNat_natCast]
      repeat' (first
        | with_reducible refine eZ (kH _ _ _ _) ?_
        | with_reducible exact dC (fin _)
        | with_reducible refine bF (by omega) ?_
        | with_reducible refine dL (by omega) ?_
        | with_reducible refine cC (fun _ => ?_) (fun _ => ?_))
    · refine cE (fun k => by rw [cP.l0]) ?_
      rw [Int.toNat_natCast, dP hi (by omega)]
      repeat' (first
        | with_reducible refine eZ (kH _ _ _ _) ?_
        | with_reducible exact (ih)
        | with_reducible exact dC (fin _)
        | with_reducible refine bF (by omega) ?_
        | with_reducible refine dL (by omega) ?_
        | with_reducible refine cC (fun _ => ?_) (fun _ => ?_))
  have L1 : f.length ≤ 11 → ExP (fun k => cP.l1 k s f p v ws 0) QC := fun hs => by
    have fin : ∀ n : Nat, QC (s, (([] ++ f.take n) ++ [(⟨aV ByteArray.empty ws 1, aV ByteArray.empty ws 2⟩ : aC)]) ++ f.drop n, p, v, 0) := fun n => ⟨ls, by dsimp only; rw [oG]; omega, lp, lv, s1, oH n f1 ⟨w1, w2⟩, p1, v1⟩
    refine eQ dG f (P := fun i _ => ExP (fun k => cP.l1 k s f p v ws (i : Int)) QC) ?_ (fun i x r hi hx hm _ ih => ?_)
    · refine cE (fun k => by rw [cP.l1]) ?_
      rw [Int.toNat_natCast]
      repeat' (first
        | with_reducible refine eZ (kH _ _ _ _) ?_
        | with_reducible exact dC (fin _)
        | with_reducible refine bF (by omega) ?_
        | with_reducible refine dL (by omega) ?_
        | with_reducible refine cC (fun _ => ?_) (fun _ => ?_))
    · refine cE (fun k => by rw [cP.l1]) ?_
      rw [Int.toNat_natCast, dP hi (by omega)]
      repeat' (first
        | with_reducible refine eZ (kH _ _ _ _) ?_
        | with_reducible exact (ih)
        | with_reducible exact dC (fin _)
        | with_reducible refine bF (by omega) ?_
        | with_reducible refine dL (by omega) ?_
        | with_reducible refine cC (fun _ => ?_) (fun _ => ?_))
  unfold cP.f
  repeat' (first
    | with_reducible refine eZ (fR _) ?_
    | with_reducible refine dX (hF _ _) (fun t ht => ?_)
    | with_reducible refine eZ (pV _ _ (by omega)) ?_
    | with_reducible exact dC (sE h _)
    | with_reducible exact (L0 (by omega))
    | with_reducible exact (L1 (by omega))
    | with_reducible refine bF (by omega) ?_
    | with_reducible refine dL (by omega) ?_
    | with_reducible refine cC (fun _ => ?_) (fun _ => ?_))
omit hw in
theorem oU (a : ByteArray) (n : Int) (c : ByteArray) (ha : a.size ≤ 1000) (hc : c.size ≤ 1000) : ExP (fun k => cK.f k s f p v a n c) QC := by
  obtain ⟨ls, lf, lp, lv, s1, f1, p1, v1⟩ := h
  have h : PD 0 s f p v := ⟨ls, lf, lp, lv, s1, f1, p1, v1⟩
  have L : p.length ≤ 13 → ExP (fun k => cK.l0 k s f p v a n c 0) QC := fun hs => by
    have fin : ∀ j : Nat, QC (s, f, (([] ++ p.take j) ++ [(⟨a, n, c⟩ : aB)]) ++ p.drop j, v, 0) := fun j => ⟨ls, lf, by dsimp only; rw [oG]; omega, lv, s1, f1, oH j p1 ⟨ha, hc⟩, v1⟩
    refine eQ cV p (P := fun i _ => ExP (fun k => cK.l0 k s f p v a n c (i : Int)) QC) ?_ (fun i x r hi hx hm _ ih => ?_)
    · refine cE (fun k => by rw [cK.l0]) ?_
      rw [Int.toNat_natCast]
      repeat' (first
        | with_reducible exact dC (fin _)
        | with_reducible refine bF (by omega) ?_
        | with_reducible refine dL (by omega) ?_
        | with_reducible refine cC (fun _ => ?_) (fun _ => ?_))
    · refine cE (fun k => by rw [cK.l0]) ?_
      rw [Int.toNat_natCast, dP hi (by omega)]
      repeat' (first
        | with_reducible exact (ih)
        | with_reducible exact dC (fin _)
        | with_reducible refine bF (by omega) ?_
        | with_reducible refine dL (by omega) ?_
        | with_reducible refine cC (fun _ => ?_) (fun _ => ?_))
  unfold cK.f
  repeat' (first
    | with_reducible refine eZ (mN _ _ _ _ _ (by omega)) ?_
    | with_reducible exact dC (sE h _)
    | with_reducible exact (L (by omega))
    | with_reducible refine bF (by omega) ?_
    | with_reducible refine dL (by omega) ?_
    | with_reducible refine cC (fun _ => ?_) (fun _ => ?_))
theorem xT : ExP (fun k => gO.f k s f p v ws) QC := by
  have hP := fun n => oU h (aV ByteArray.empty ws 1) n (aV ByteArray.empty ws 3) (gU hw 1) (gU hw 3)
  have hN := fun a => wR a
  unfold gO.f
  repeat' (first
    | with_reducible refine eZ (fR _) ?_
    | with_reducible refine dX (hN _) (fun t ht => ?_)
    | with_reducible refine eZ (pP _ _ _) ?_
    | with_reducible refine dX (hP _) (fun t ht => ?_)
    | with_reducible exact dC (sE h _)
    | with_reducible exact dC (zV ht)
    | with_reducible refine bF (by omega) ?_
    | with_reducible refine dL (by omega) ?_
    | with_reducible refine cC (fun _ => ?_) (fun _ => ?_))
theorem aAH : ExP (fun k => hY.f k s f p v ws) QC := by
  have hP := oU h (aV ByteArray.empty ws 1) 0 (aV ByteArray.empty ws 2) (gU hw 1) (gU hw 2)
  unfold hY.f
  repeat' (first
    | with_reducible refine eZ (fR _) ?_
    | with_reducible refine dX (hP) (fun t ht => ?_)
    | with_reducible exact dC (sE h _)
    | with_reducible exact dC (zV ht)
    | with_reducible refine bF (by omega) ?_
    | with_reducible refine dL (by omega) ?_
    | with_reducible refine cC (fun _ => ?_) (fun _ => ?_))
omit hw in
theorem yW (a : ByteArray) : ExP (fun k => dN.f k s f p v a) (fun _ => True) := by
  obtain ⟨ls, lf, lp, lv, s1, f1, p1, v1⟩ := h
  unfold dN.f
  refine eQ cW v (P := fun i _ => ExP (fun k => dN.l0 k v a (i : Int)) (fun _ => True)) ?_ (fun i x r hi hx hm _ ih => ?_)
  · refine cE (fun k => by rw [dN.l0]) ?_
    repeat' (first
      | with_reducible exact dC (trivial)
      | with_reducible refine bF (by omega) ?_
      | with_reducible refine dL (by omega) ?_
      | with_reducible refine cC (fun _ => ?_) (fun _ => ?_))
  · refine cE (fun k => by rw [dN.l0]) ?_
    rw [dP hi (by omega)]
    repeat' (first
      | with_reducible exact (ih)
      | with_reducible exact dC (trivial)
      | with_reducible refine bF (by omega) ?_
      | with_reducible refine dL (by omega) ?_
      | with_reducible refine cC (fun _ => ?_) (fun _ => ?_))
theorem zO : ExP (fun k => cA.f k s f p v ws) QC := by
  have hV := fun a => yW h a
  obtain ⟨ls, lf, lp, lv, s1, f1, p1, v1⟩ := h
  have h : PD 0 s f p v := ⟨ls, lf, lp, lv, s1, f1, p1, v1⟩
  have w1 := gU hw 1
  have w2 := gU hw 2
  have w3 := gU hw 3
  have w4 := gU hw 4
  have L0 : v.length ≤ 17 → ExP (fun k => cA.l0 k s f p v ws 0) QC := fun hs => by
    have fin : ∀ n : Nat, QC (s, f, p, (([] ++ v.take n) ++ [(⟨aV ByteArray.empty ws 1, aV ByteArray.empty ws 3, aV ByteArray.empty ws 2, aV ByteArray.empty ws 4⟩ : aA)]) ++ v.drop n, 0) := fun n => ⟨ls, lf, lp, by dsimp only; rw [oG]; omega, s1, f1, p1, oH n v1 ⟨w1, w3, w2, w4⟩⟩
    refine eQ cW v (P := fun i _ => ExP (fun k => cA.l0 k s f p v ws (i : Int)) QC) ?_ (fun i x r hi hx hm _ ih => ?_)
    · refine cE (fun k => by rw [cA.l0]) ?_
      rw [Int.toNat_natCast]
      repeat' (first
        | with_reducible exact dC (fin _)
        | with_reducible refine bF (by omega) ?_
        | with_reducible refine dL (by omega) ?_
        | with_reducible refine cC (fun _ => ?_) (fun _ => ?_))
    · refine cE (fun k => by rw [cA.l0]) ?_
      rw [Int.toNat_natCast, dP hi (by omega)]
      repeat' (first
        | with_reducible exact (ih)
        | with_reducible exact dC (fin _)
        | with_reducible refine bF (by omega) ?_
        | with_reducible refine dL (by omega) ?_
        | with_reducible refine cC (fun _ => ?_) (fun _ => ?_))
  have L1 : v.length ≤ 17 → ExP (fun k => cA.l1 k s f p v ws 0) QC := fun hs => by
    have fin : ∀ n : Nat, QC (s, f, p, (([] ++ v.take n) ++ [(⟨aV ByteArray.empty ws 1, aV ByteArray.empty ws 2, aV ByteArray.empty ws 3, aV ByteArray.empty ws 4⟩ : aA)]) ++ v.drop n, 0) := fun n => ⟨ls, lf, lp, by dsimp only; rw [oG]; omega, s1, f1, p1, oH n v1 ⟨w1, w2, w3, w4⟩⟩
    refine eQ cW v (P := fun i _ => ExP (fun k => cA.l1 k s f p v ws (i : Int)) QC) ?_ (fun i x r hi hx hm _ ih => ?_)
    · refine cE (fun k => by rw [cA.l1]) ?_
      rw [Int.toNat_natCast]
      repeat' (first
        | with_reducible exact dC (fin _)
        | with_reducible refine bF (by omega) ?_
        | with_reducible refine dL (by omega) ?_
        | with_reducible refine cC (fun _ => ?_) (fun _ => ?_))
    · refine cE (fun k => by rw [cA.l1]) ?_
      rw [Int.toNat_natCast, dP hi (by omega)]
      repeat' (first
        | with_reducible exact (ih)
        | with_reducible exact dC (fin _)
        | with_reducible refine bF (by omega) ?_
        | with_reducible refine dL (by omega) ?_
        | with_reducible refine cC (fun _ => ?_) (fun _ => ?_))
  unfold cA.f
  repeat' (first
    | with_reducible refine eZ (fR _) ?_
    | with_reducible refine dX (hV _) (fun t ht => ?_)
    | with_reducible refine eZ (mN _ _ _ _ _ (by omega)) ?_
    | with_reducible exact dC (sE h _)
    | with_reducible exact (L0 (by omega))
    | with_reducible exact (L1 (by omega))
    | with_reducible refine bF (by omega) ?_
    | with_reducible refine dL (by omega) ?_
    | with_reducible refine cC (fun _ => ?_) (fun _ => ?_))
theorem gG (h0 : 1 ≤ ws.length) : ExP (fun k => cO.f k s f p v ws) (fun t => PD 0 t.1 t.2.1 t.2.2.1 t.2.2.2) := by
  have e1 := aAG h hw
  have e2 := aFT h hw
  have e3 := xT h hw
  have e4 := aAH h hw
  have e5 := zO h hw
  have hP : ExP (fun k => jE.f k s f p v ws) QC := by
    unfold jE.f
    repeat' (first
      | with_reducible refine dX (e1) (fun t ht => ?_)
      | with_reducible refine dX (e2) (fun t ht => ?_)
      | with_reducible refine dX (e3) (fun t ht => ?_)
      | with_reducible refine dX (e4) (fun t ht => ?_)
      | with_reducible refine dX (e5) (fun t ht => ?_)
      | with_reducible exact dC (sE h _)
      | with_reducible exact dC (zV ht)
      | with_reducible refine bF (by omega) ?_
      | with_reducible refine dL (by omega) ?_
      | with_reducible refine cC (fun _ => ?_) (fun _ => ?_))
  unfold cO.f
  exact dX hP (fun t ht => cC (fun _ => dC ht) (fun _ => dC h))
end
theorem iP {m : Nat} (hm : m ≤ 10) {s : List ByteArray} {f : List aC} {p : List aB} {v : List aA} (h : PD m s f p v) : dD.f s f p v = some (s, f, p, v) := by
  obtain ⟨ls, lf, lp, lv, _⟩ := h
  unfold dD.f
  rw [if_pos (by omega), if_pos (by omega), if_pos (by omega), if_pos (by omega)]; rfl
/-! ### plants, drawn -/
abbrev TPl := List ByteArray × List aC × List aB × List aA × List Int × Int
def QD (m : Nat) (b : List Int) (hi : Int) (t : TPl) : Prop := PD m t.1 t.2.1 t.2.2.1 t.2.2.2.1 ∧ t.2.2.2.2.1 = b ∧ 0 ≤ t.2.2.2.2.2 ∧ t.2.2.2.2.2 ≤ hi
theorem pJ {n : Int} (h0 : 0 ≤ n) (h : n ≤ 100) : (lK n).size ≤ 101 := by
  have := wF n.toNat n.toNat (Nat.le_refl _)
  show (_ : List UInt8).toArray.size ≤ 101
  rw [List.size_toArray]; omega
theorem ws3 {a b c : ByteArray} (ha : a.size ≤ 1000) (hb : b.size ≤ 1000) (hc : c.size ≤ 1000) : ∀ w ∈ [a, b, c], w.size ≤ 1000 := fun w hw => by
  simp only [List.mem_cons, List.mem_nil_iff, or_false] at hw
  rcases hw with rfl | rfl | rfl <;> assumption
theorem ws4 {a b c d : ByteArray} (ha : a.size ≤ 1000) (hb : b.size ≤ 1000) (hc : c.size ≤ 1000) (hd : d.size ≤ 1000) : ∀ w ∈ [a, b, c, d], w.size ≤ 1000 := fun w hw => by
  simp only [List.mem_cons, List.mem_nil_iff, or_false] at hw
  rcases hw with rfl | rfl | rfl | rfl <;> assumption
theorem ws5 {a b c d e : ByteArray} (ha : a.size ≤ 1000) (hb : b.size ≤ 1000) (hc : c.size ≤ 1000) (hd : d.size ≤ 1000) (he : e.size ≤ 1000) : ∀ w ∈ [a, b, c, d, e], w.size ≤ 1000 := fun w hw => by
  simp only [List.mem_cons, List.mem_nil_iff, or_false] at hw
  rcases hw with rfl | rfl | rfl | rfl | rfl <;> assumption
theorem qO {p : List aB} (h : ∀ x ∈ p, x.f0.size ≤ 1000 ∧ x.f2.size ≤ 1000) (a : Int) (h0 : 0 ≤ a) (h1 : a < p.length) : (aK p a).f0.size ≤ 1000 := by
  obtain ⟨n, rfl⟩ : ∃ n : Nat, a = (n : Int) := ⟨a.toNat, by omega⟩
  rw [rdP]
  exact (h _ (jN cV p n (by omega))).1
theorem kW {l : List ByteArray} {s : ByteArray} (h : s ∈ l) (hl : (l.all fun x => decide (x.size ≤ 1000)) = true) : s.size ≤ 1000 := of_decide_eq_true (List.all_eq_true.1 hl s h)
theorem aJL {b : List Int} (hb : gX b) : ∀ (m i : Nat) (s : List ByteArray) (f : List aC) (p : List aB) (v : List aA) (q : Int), i + m = 40 → PD 0 s f p v → 0 ≤ q → q + 2 * m ≤ 100000 → ExP (fun k => aL.l5 k (i : Int) b q s f p v) (QD 0 b 100000)
  | 0, i, s, f, p, v, q, hi, h, h0, hq => by
    refine cE (fun k => by rw [aL.l5]) (dL (by omega) ?_)
    exact dI (iP (by omega) h) (dC ⟨h, rfl, h0, by dsimp only; omega⟩)
  | m + 1, i, s, f, p, v, q, hi, h, h0, hq => by
    refine cE (fun k => by rw [aL.l5]) (bF (by omega) (eZ (fP i (i : Int) (by omega) (by omega) (by omega)) ?_))
    have hds := pJ (n := (i : Int)) (by omega) (by omega)
    have z1 : (⟨#[121]⟩ : ByteArray).size = 1 := rfl
    refine bF (by omega) ?_
    obtain ⟨x, hx, e1⟩ := lC hb q h0 (by omega) ([(⟨#[121, 48]⟩ : ByteArray), (⟨#[121, 49]⟩ : ByteArray), (⟨#[121, 50]⟩ : ByteArray), (⟨#[121, 51]⟩ : ByteArray)] : List ByteArray) (by decide) (by decide)
    refine dI e1 ?_
    dsimp only
    obtain ⟨y, hy, e2⟩ := lC hb (q + 1) (by omega) (by omega) ([(⟨#[121, 48]⟩ : ByteArray), (⟨#[121, 49]⟩ : ByteArray), (⟨#[121, 50]⟩ : ByteArray), (⟨#[97]⟩ : ByteArray)] : List ByteArray) (by decide) (by decide)
    refine dI e2 ?_
    dsimp only
    refine dX (gG h (ws5 (by decide) (by rw [ByteArray.size_append]; omega) (kW hx (by decide)) (kW hy (by decide)) (by decide)) (by simp)) (fun t ht => ?_)
    rw [dP (n := 100) (by omega) (by omega)]
    exact aJL hb m (i + 1) _ _ _ _ _ (by omega) ht (by omega) (by omega)
theorem aJE {b : List Int} (hb : gX b) (t0 : Int × List Int × Int) (hb0 : t0.2.1 = b) (h00 : 0 ≤ t0.2.2) (h01 : t0.2.2 ≤ 90000) : ∀ (m i : Nat) (s : List ByteArray) (f : List aC) (p : List aB) (v : List aA), i + m = 20 → PD 0 s f p v → ExP (fun k => aL.l4 k (i : Int) s f p v t0) (QD 0 b 100000)
  | 0, i, s, f, p, v, hi, h => by
    refine cE (fun k => by rw [aL.l4]) (dL (by omega) ?_)
    rw [hb0]
    exact aJL hb 40 0 s f p v _ (by omega) h h00 (by omega)
  | m + 1, i, s, f, p, v, hi, h => by
    refine cE (fun k => by rw [aL.l4]) (bF (by omega) (eZ (fP i (i : Int) (by omega) (by omega) (by omega)) ?_))
    have hds := pJ (n := (i : Int)) (by omega) (by omega)
    have z1 : (⟨#[121]⟩ : ByteArray).size = 1 := rfl
    refine bF (by omega) (dX (gG h (ws3 (by decide) (by rw [ByteArray.size_append]; omega) (by decide)) (by simp)) (fun t ht => ?_))
    rw [dP (n := 100) (by omega) (by omega)]
    exact aJE hb t0 hb0 h00 h01 m (i + 1) _ _ _ _ (by omega) ht
theorem aJC {b : List Int} (hb : gX b) : ∀ (m i : Nat) (s : List ByteArray) (f : List aC) (p : List aB) (v : List aA) (q : Int), i + m = 40 → PD 0 s f p v → 0 ≤ q → q + 2 * m ≤ 100000 → ExP (fun k => aL.l7 k (i : Int) b q s f p v) (QD 0 b 100000)
  | 0, i, s, f, p, v, q, hi, h, h0, hq => by
    refine cE (fun k => by rw [aL.l7]) (dL (by omega) ?_)
    exact dI (iP (by omega) h) (dC ⟨h, rfl, h0, by dsimp only; omega⟩)
  | m + 1, i, s, f, p, v, q, hi, h, h0, hq => by
    refine cE (fun k => by rw [aL.l7]) (bF (by omega) (eZ (fP i (i : Int) (by omega) (by omega) (by omega)) ?_))
    have hds := pJ (n := (i : Int)) (by omega) (by omega)
    have z1 : (⟨#[121]⟩ : ByteArray).size = 1 := rfl
    refine bF (by omega) ?_
    obtain ⟨x, hx, e1⟩ := lC hb q h0 (by omega) ([(⟨#[121, 48]⟩ : ByteArray), (⟨#[121, 49]⟩ : ByteArray), (⟨#[121, 50]⟩ : ByteArray), (⟨#[121, 51]⟩ : ByteArray)] : List ByteArray) (by decide) (by decide)
    refine dI e1 ?_
    dsimp only
    obtain ⟨y, hy, e2⟩ := lC hb (q + 1) (by omega) (by omega) ([(⟨#[121, 48]⟩ : ByteArray), (⟨#[121, 49]⟩ : ByteArray), (⟨#[121, 50]⟩ : ByteArray), (⟨#[97]⟩ : ByteArray)] : List ByteArray) (by decide) (by decide)
    refine dI e2 ?_
    dsimp only
    refine dX (gG h (ws5 (by decide) (by rw [ByteArray.size_append]; omega) (kW hx (by decide)) (kW hy (by decide)) (by decide)) (by simp)) (fun t ht => ?_)
    rw [dP (n := 100) (by omega) (by omega)]
    exact aJC hb m (i + 1) _ _ _ _ _ (by omega) ht (by omega) (by omega)
theorem aIS {b : List Int} (hb : gX b) (t0 : Int × List Int × Int) (hb0 : t0.2.1 = b) (h00 : 0 ≤ t0.2.2) (h01 : t0.2.2 ≤ 90000) : ∀ (m i : Nat) (s : List ByteArray) (f : List aC) (p : List aB) (v : List aA), i + m = 20 → PD 0 s f p v → ExP (fun k => aL.l6 k (i : Int) s f p v t0) (QD 0 b 100000)
  | 0, i, s, f, p, v, hi, h => by
    refine cE (fun k => by rw [aL.l6]) (dL (by omega) ?_)
    rw [hb0]
    exact aJC hb 40 0 s f p v _ (by omega) h h00 (by omega)
  | m + 1, i, s, f, p, v, hi, h => by
    refine cE (fun k => by rw [aL.l6]) (bF (by omega) (eZ (fP i (i : Int) (by omega) (by omega) (by omega)) ?_))
    have hds := pJ (n := (i : Int)) (by omega) (by omega)
    have z1 : (⟨#[121]⟩ : ByteArray).size = 1 := rfl
    refine bF (by omega) (dX (gG h (ws3 (by decide) (by rw [ByteArray.size_append]; omega) (by decide)) (by simp)) (fun t ht => ?_))
    rw [dP (n := 100) (by omega) (by omega)]
    exact aIS hb t0 hb0 h00 h01 m (i + 1) _ _ _ _ (by omega) ht
theorem aEZ {b : List Int} (hb : gX b) : ∀ (m i : Nat) (s : List ByteArray) (f : List aC) (p : List aB) (v : List aA) (q : Int), i + m = 40 → PD 0 s f p v → 0 ≤ q → q + 2 * m ≤ 100000 → ExP (fun k => aL.l11 k (i : Int) b q s f p v) (QD 0 b 100000)
  | 0, i, s, f, p, v, q, hi, h, h0, hq => by
    refine cE (fun k => by rw [aL.l11]) (dL (by omega) ?_)
    exact dI (iP (by omega) h) (dC ⟨h, rfl, h0, by dsimp only; omega⟩)
  | m + 1, i, s, f, p, v, q, hi, h, h0, hq => by
    refine cE (fun k => by rw [aL.l11]) (bF (by omega) (eZ (fP i (i : Int) (by omega) (by omega) (by omega)) ?_))
    have hds := pJ (n := (i : Int)) (by omega) (by omega)
    have z1 : (⟨#[121]⟩ : ByteArray).size = 1 := rfl
    refine bF (by omega) ?_
    obtain ⟨x, hx, e1⟩ := lC hb q h0 (by omega) ([(⟨#[121, 48]⟩ : ByteArray), (⟨#[121, 49]⟩ : ByteArray), (⟨#[121, 50]⟩ : ByteArray), (⟨#[121, 51]⟩ : ByteArray)] : List ByteArray) (by decide) (by decide)
    refine dI e1 ?_
    dsimp only
    obtain ⟨y, hy, e2⟩ := lC hb (q + 1) (by omega) (by omega) ([(⟨#[121, 48]⟩ : ByteArray), (⟨#[121, 49]⟩ : ByteArray), (⟨#[121, 50]⟩ : ByteArray), (⟨#[97]⟩ : ByteArray)] : List ByteArray) (by decide) (by decide)
    refine dI e2 ?_
    dsimp only
    refine dX (gG h (ws5 (by decide) (by rw [ByteArray.size_append]; omega) (kW hx (by decide)) (kW hy (by decide)) (by decide)) (by simp)) (fun t ht => ?_)
    rw [dP (n := 100) (by omega) (by omega)]
    exact aEZ hb m (i + 1) _ _ _ _ _ (by omega) ht (by omega) (by omega)
theorem aGO {b : List Int} (hb : gX b) (t0 : Int × List Int × Int) (hb0 : t0.2.1 = b) (h00 : 0 ≤ t0.2.2) (h01 : t0.2.2 ≤ 90000) : ∀ (m i : Nat) (s : List ByteArray) (f : List aC) (p : List aB) (v : List aA), i + m = 20 → PD 0 s f p v → ExP (fun k => aL.l10 k (i : Int) s f p v t0) (QD 0 b 100000)
  | 0, i, s, f, p, v, hi, h => by
    refine cE (fun k => by rw [aL.l10]) (dL (by omega) ?_)
    rw [hb0]
    exact aEZ hb 40 0 s f p v _ (by omega) h h00 (by omega)
  | m + 1, i, s, f, p, v, hi, h => by
    refine cE (fun k => by rw [aL.l10]) (bF (by omega) (eZ (fP i (i : Int) (by omega) (by omega) (by omega)) ?_))
    have hds := pJ (n := (i : Int)) (by omega) (by omega)
    have z1 : (⟨#[121]⟩ : ByteArray).size = 1 := rfl
    refine bF (by omega) (dX (gG h (ws3 (by decide) (by rw [ByteArray.size_append]; omega) (by decide)) (by simp)) (fun t ht => ?_))
    rw [dP (n := 100) (by omega) (by omega)]
    exact aGO hb t0 hb0 h00 h01 m (i + 1) _ _ _ _ (by omega) ht
theorem aDN {b : List Int} (hb : gX b) : ∀ (m i : Nat) (s : List ByteArray) (f : List aC) (p : List aB) (v : List aA) (q : Int), i + m = 40 → PD 0 s f p v → 0 ≤ q → q + 2 * m ≤ 100000 → ExP (fun k => aL.l13 k (i : Int) b q s f p v) (QD 0 b 100000)
  | 0, i, s, f, p, v, q, hi, h, h0, hq => by
    refine cE (fun k => by rw [aL.l13]) (dL (by omega) ?_)
    exact dI (iP (by omega) h) (dC ⟨h, rfl, h0, by dsimp only; omega⟩)
  | m + 1, i, s, f, p, v, q, hi, h, h0, hq => by
    refine cE (fun k => by rw [aL.l13]) (bF (by omega) (eZ (fP i (i : Int) (by omega) (by omega) (by omega)) ?_))
    have hds := pJ (n := (i : Int)) (by omega) (by omega)
    have z1 : (⟨#[121]⟩ : ByteArray).size = 1 := rfl
    refine bF (by omega) ?_
    obtain ⟨x, hx, e1⟩ := lC hb q h0 (by omega) ([(⟨#[121, 48]⟩ : ByteArray), (⟨#[121, 49]⟩ : ByteArray), (⟨#[121, 50]⟩ : ByteArray), (⟨#[121, 51]⟩ : ByteArray)] : List ByteArray) (by decide) (by decide)
    refine dI e1 ?_
    dsimp only
    obtain ⟨y, hy, e2⟩ := lC hb (q + 1) (by omega) (by omega) ([(⟨#[121, 48]⟩ : ByteArray), (⟨#[121, 49]⟩ : ByteArray), (⟨#[121, 50]⟩ : ByteArray), (⟨#[97]⟩ : ByteArray)] : List ByteArray) (by decide) (by decide)
    refine dI e2 ?_
    dsimp only
    refine dX (gG h (ws5 (by decide) (by rw [ByteArray.size_append]; omega) (kW hx (by decide)) (kW hy (by decide)) (by decide)) (by simp)) (fun t ht => ?_)
    rw [dP (n := 100) (by omega) (by omega)]
    exact aDN hb m (i + 1) _ _ _ _ _ (by omega) ht (by omega) (by omega)
theorem aFO {b : List Int} (hb : gX b) (t0 : Int × List Int × Int) (hb0 : t0.2.1 = b) (h00 : 0 ≤ t0.2.2) (h01 : t0.2.2 ≤ 90000) : ∀ (m i : Nat) (s : List ByteArray) (f : List aC) (p : List aB) (v : List aA), i + m = 20 → PD 0 s f p v → ExP (fun k => aL.l12 k (i : Int) s f p v t0) (QD 0 b 100000)
  | 0, i, s, f, p, v, hi, h => by
    refine cE (fun k => by rw [aL.l12]) (dL (by omega) ?_)
    rw [hb0]
    exact aDN hb 40 0 s f p v _ (by omega) h h00 (by omega)
  | m + 1, i, s, f, p, v, hi, h => by
    refine cE (fun k => by rw [aL.l12]) (bF (by omega) (eZ (fP i (i : Int) (by omega) (by omega) (by omega)) ?_))
    have hds := pJ (n := (i : Int)) (by omega) (by omega)
    have z1 : (⟨#[121]⟩ : ByteArray).size = 1 := rfl
    refine bF (by omega) (dX (gG h (ws3 (by decide) (by rw [ByteArray.size_append]; omega) (by decide)) (by simp)) (fun t ht => ?_))
    rw [dP (n := 100) (by omega) (by omega)]
    exact aFO hb t0 hb0 h00 h01 m (i + 1) _ _ _ _ (by omega) ht
theorem aIZ {b : List Int} (hb : gX b) : ∀ (m : Nat) (s : List ByteArray) (f : List aC) (p : List aB) (v : List aA) (q : Int), m ≤ 13 → PD 0 s f p v → 0 ≤ q → q + 10 * m ≤ 80000 → ExP (fun k => aL.l3 k (m : Int) b q s f p v) (QD 0 b 100000)
  | 0, s, f, p, v, q, hm, h, h0, hq => by
    refine cE (fun k => by rw [aL.l3]) (dL (by omega) ?_)
    obtain ⟨w, _, e⟩ := fU hb q 24 h0 (by omega) (by omega)
    refine dI e (cC (fun _ => ?_) (fun _ => dI (iP (by omega) h) (dC ⟨h, rfl, by dsimp only; omega, by dsimp only; omega⟩)))
    exact aIS hb (w, b, q + 1) rfl (by dsimp only; omega) (by dsimp only; omega) 20 0 s f p v (by omega) h
  | m + 1, s, f, p, v, q, hm, h, h0, hq => by
    have hlp := h.lp
    refine cE (fun k => by rw [aL.l3]) (bF (by omega) (cC (fun hl => ?_) (fun _ => ?_)))
    · obtain ⟨w, ⟨w0, w1, _⟩, e⟩ := fU hb q 16 h0 (by omega) (by omega)
      have w1 := w1 (by omega)
      refine dI e ?_
      dsimp only
      refine eZ (fP w.toNat w (by omega) (by omega) (by omega)) ?_
      have hds := pJ (n := w) (by omega) (by omega)
      have z1 : (⟨#[120]⟩ : ByteArray).size = 1 := rfl
      refine bF (by omega) ?_
      obtain ⟨x, ⟨x0, x1, _⟩, e1⟩ := fU hb (q + 1) (p.length : Int) (by omega) (by omega) (by omega)
      have x1 := x1 (by omega)
      refine dI e1 (bF x0 (bF x1 ?_))
      dsimp only
      obtain ⟨y, ⟨y0, y1, _⟩, e2⟩ := fU hb (q + 1 + 1) (p.length : Int) (by omega) (by omega) (by omega)
      have y1 := y1 (by omega)
      refine dI e2 (bF y0 (bF y1 ?_))
      dsimp only
      obtain ⟨z, hz, e3⟩ := lC hb (q + 1 + 1 + 1) (by omega) (by omega) ([(⟨#[101, 97, 115, 116]⟩ : ByteArray), (⟨#[119, 101, 115, 116]⟩ : ByteArray)] : List ByteArray) (by decide) (by decide)
      refine dI e3 ?_
      dsimp only
      refine dX (gG h (ws5 (by decide) (by rw [ByteArray.size_append]; omega) (qO h.p1 x x0 x1) (qO h.p1 y y0 y1) (kW hz (by decide))) (by simp)) (fun t ht => ?_)
      rw [show wrap64 (((m + 1 : Nat) : Int) - 1) = (m : Int) by unfold wrap64; omega]
      exact aIZ hb m _ _ _ _ _ (by omega) ht (by omega) (by omega)
    · obtain ⟨w, _, e⟩ := fU hb q 24 h0 (by omega) (by omega)
      refine dI e (cC (fun _ => ?_) (fun _ => dI (iP (by omega) h) (dC ⟨h, rfl, by dsimp only; omega, by dsimp only; omega⟩)))
      exact aJE hb (w, b, q + 1) rfl (by dsimp only; omega) (by dsimp only; omega) 20 0 s f p v (by omega) h
theorem aIP {b : List Int} (hb : gX b) (i : Nat) (hi : i < 9) (fl : Bool) (s0 : ByteArray) (hs0 : s0.size ≤ 1000) (s : List ByteArray) (f : List aC) (p : List aB) (v : List aA) (q : Int) (h : PD 0 s f p v) (h0 : 0 ≤ q) (hq : q ≤ 70000)
    (K : ∀ (s : List ByteArray) (f : List aC) (p : List aB) (v : List aA) (q' : Int), PD 0 s f p v → q ≤ q' → q' ≤ q + 1 → ExP (fun k => aL.l2 k ((i + 1 : Nat) : Int) b q' s f p v) (QD 0 b 100000)) : ExP (fun k => aL.j0 k (i : Int) fl s f p v (s0, b, q)) (QD 0 b 100000) := by
  have hz : ∀ w ∈ ([(⟨#[97]⟩ : ByteArray), (⟨#[98]⟩ : ByteArray), (⟨#[106, 49]⟩ : ByteArray), (⟨#[106, 50]⟩ : ByteArray), (⟨#[106, 51]⟩ : ByteArray), (⟨#[107, 45, 107]⟩ : ByteArray), (⟨#[118, 49]⟩ : ByteArray), (⟨#[118, 50]⟩ : ByteArray), (⟨#[122]⟩ : ByteArray)] : List ByteArray), w.size ≤ 1000 := fun w hw => kW hw (by decide)
  refine cE (fun k => by rw [aL.j0]) (cC (fun _ => bF (by omega) (bF (by omega) ?_)) (fun _ => bF (by omega) (bF (by omega) ?_)))
  · rw [dP (n := 100) (by omega) (by omega)]
    exact dX (gG h (ws3 (by decide) (gU hz i) hs0) (by simp)) (fun t ht => K _ _ _ _ _ ht (by dsimp only; omega) (by dsimp only; omega))
  · rw [dP (n := 100) (by omega) (by omega)]
    obtain ⟨w, ⟨w0, w1, _⟩, e⟩ := fU hb q 60 h0 (by omega) (by omega)
    have w1 := w1 (by omega)
    refine dI e ?_
    dsimp only
    rw [show wrap64 (1 + w) = 1 + w from w64 (by omega) (by omega)]
    refine eZ (fP (1 + w).toNat (1 + w) (by omega) (by omega) (by omega)) ?_
    have hds := pJ (n := 1 + w) (by omega) (by omega)
    exact dX (gG h (ws4 (by decide) (gU hz i) (by omega) hs0) (by simp)) (fun t ht => K _ _ _ _ _ ht (by omega) (by omega))
theorem aFQ {b : List Int} (hb : gX b) : ∀ (m i : Nat) (s : List ByteArray) (f : List aC) (p : List aB) (v : List aA) (q : Int), i + m = 9 → PD 0 s f p v → 0 ≤ q → q + 5 * m ≤ 60000 → ExP (fun k => aL.l2 k (i : Int) b q s f p v) (QD 0 b 100000)
  | 0, i, s, f, p, v, q, hi, h, h0, hq => by
    refine cE (fun k => by rw [aL.l2]) (dL (by omega) ?_)
    obtain ⟨w, ⟨w0, w1, _⟩, e⟩ := fU hb q 13 h0 (by omega) (by omega)
    have w1 := w1 (by omega)
    obtain ⟨n, rfl⟩ : ∃ n : Nat, w = (n : Int) := ⟨w.toNat, by omega⟩
    refine dI e ?_
    exact aIZ hb n s f p v (q + 1) (by omega) h (by omega) (by omega)
  | m + 1, i, s, f, p, v, q, hi, h, h0, hq => by
    refine cE (fun k => by rw [aL.l2]) (bF (by omega) ?_)
    obtain ⟨w, _, e⟩ := fU hb q 6 h0 (by omega) (by omega)
    refine dI e ?_
    dsimp only
    rw [dP (n := 100) (by omega) (by omega)]
    refine cC (fun _ => aFQ hb m (i + 1) _ _ _ _ _ (by omega) h (by omega) (by omega)) (fun _ => ?_)
    obtain ⟨z, hz, e3⟩ := lC hb (q + 1) (by omega) (by omega) ([(⟨#[101, 97, 115, 116]⟩ : ByteArray), (⟨#[119, 101, 115, 116]⟩ : ByteArray)] : List ByteArray) (by decide) (by decide)
    refine dI e3 ?_
    have K : ∀ (s : List ByteArray) (f : List aC) (p : List aB) (v : List aA) (q' : Int), PD 0 s f p v → q + 1 + 1 ≤ q' → q' ≤ q + 1 + 1 + 1 → ExP (fun k => aL.l2 k ((i + 1 : Nat) : Int) b q' s f p v) (QD 0 b 100000) := fun s f p v q' h h1 h2 => aFQ hb m (i + 1) s f p v q' (by omega) h (by omega) (by omega)
    have hzs := kW hz (by decide)
    exact cC (fun _ => aIP hb i (by omega) _ z hzs s f p v _ h (by omega) (by omega) K) (fun _ => aIP hb i (by omega) _ z hzs s f p v _ h (by omega) (by omega) K)
theorem aJA {b : List Int} (hb : gX b) : ∀ (m : Nat) (s : List ByteArray) (f : List aC) (p : List aB) (v : List aA) (q : Int), m ≤ 13 → PD 0 s f p v → 0 ≤ q → q + 10 * m ≤ 80000 → ExP (fun k => aL.l9 k (m : Int) b q s f p v) (QD 0 b 100000)
  | 0, s, f, p, v, q, hm, h, h0, hq => by
    refine cE (fun k => by rw [aL.l9]) (dL (by omega) ?_)
    obtain ⟨w, _, e⟩ := fU hb q 24 h0 (by omega) (by omega)
    refine dI e (cC (fun _ => ?_) (fun _ => dI (iP (by omega) h) (dC ⟨h, rfl, by dsimp only; omega, by dsimp only; omega⟩)))
    exact aFO hb (w, b, q + 1) rfl (by dsimp only; omega) (by dsimp only; omega) 20 0 s f p v (by omega) h
  | m + 1, s, f, p, v, q, hm, h, h0, hq => by
    have hlp := h.lp
    refine cE (fun k => by rw [aL.l9]) (bF (by omega) (cC (fun hl => ?_) (fun _ => ?_)))
    · obtain ⟨w, ⟨w0, w1, _⟩, e⟩ := fU hb q 16 h0 (by omega) (by omega)
      have w1 := w1 (by omega)
      refine dI e ?_
      dsimp only
      refine eZ (fP w.toNat w (by omega) (by omega) (by omega)) ?_
      have hds := pJ (n := w) (by omega) (by omega)
      have z1 : (⟨#[120]⟩ : ByteArray).size = 1 := rfl
      refine bF (by omega) ?_
      obtain ⟨x, ⟨x0, x1, _⟩, e1⟩ := fU hb (q + 1) (p.length : Int) (by omega) (by omega) (by omega)
      have x1 := x1 (by omega)
      refine dI e1 (bF x0 (bF x1 ?_))
      dsimp only
      obtain ⟨y, ⟨y0, y1, _⟩, e2⟩ := fU hb (q + 1 + 1) (p.length : Int) (by omega) (by omega) (by omega)
      have y1 := y1 (by omega)
      refine dI e2 (bF y0 (bF y1 ?_))
      dsimp only
      obtain ⟨z, hz, e3⟩ := lC hb (q + 1 + 1 + 1) (by omega) (by omega) ([(⟨#[101, 97, 115, 116]⟩ : ByteArray), (⟨#[119, 101, 115, 116]⟩ : ByteArray)] : List ByteArray) (by decide) (by decide)
      refine dI e3 ?_
      dsimp only
      refine dX (gG h (ws5 (by decide) (by rw [ByteArray.size_append]; omega) (qO h.p1 x x0 x1) (qO h.p1 y y0 y1) (kW hz (by decide))) (by simp)) (fun t ht => ?_)
      rw [show wrap64 (((m + 1 : Nat) : Int) - 1) = (m : Int) by unfold wrap64; omega]
      exact aJA hb m _ _ _ _ _ (by omega) ht (by omega) (by omega)
    · obtain ⟨w, _, e⟩ := fU hb q 24 h0 (by omega) (by omega)
      refine dI e (cC (fun _ => ?_) (fun _ => dI (iP (by omega) h) (dC ⟨h, rfl, by dsimp only; omega, by dsimp only; omega⟩)))
      exact aGO hb (w, b, q + 1) rfl (by dsimp only; omega) (by dsimp only; omega) 20 0 s f p v (by omega) h
theorem aJN {b : List Int} (hb : gX b) (i : Nat) (hi : i < 9) (fl : Bool) (s0 : ByteArray) (hs0 : s0.size ≤ 1000) (s : List ByteArray) (f : List aC) (p : List aB) (v : List aA) (q : Int) (h : PD 0 s f p v) (h0 : 0 ≤ q) (hq : q ≤ 70000)
    (K : ∀ (s : List ByteArray) (f : List aC) (p : List aB) (v : List aA) (q' : Int), PD 0 s f p v → q ≤ q' → q' ≤ q + 1 → ExP (fun k => aL.l8 k ((i + 1 : Nat) : Int) b q' s f p v) (QD 0 b 100000)) : ExP (fun k => aL.j1 k (i : Int) fl s f p v (s0, b, q)) (QD 0 b 100000) := by
  have hz : ∀ w ∈ ([(⟨#[97]⟩ : ByteArray), (⟨#[98]⟩ : ByteArray), (⟨#[106, 49]⟩ : ByteArray), (⟨#[106, 50]⟩ : ByteArray), (⟨#[106, 51]⟩ : ByteArray), (⟨#[107, 45, 107]⟩ : ByteArray), (⟨#[118, 49]⟩ : ByteArray), (⟨#[118, 50]⟩ : ByteArray), (⟨#[122]⟩ : ByteArray)] : List ByteArray), w.size ≤ 1000 := fun w hw => kW hw (by decide)
  refine cE (fun k => by rw [aL.j1]) (cC (fun _ => bF (by omega) (bF (by omega) ?_)) (fun _ => bF (by omega) (bF (by omega) ?_)))
  · rw [dP (n := 100) (by omega) (by omega)]
    exact dX (gG h (ws3 (by decide) (gU hz i) hs0) (by simp)) (fun t ht => K _ _ _ _ _ ht (by dsimp only; omega) (by dsimp only; omega))
  · rw [dP (n := 100) (by omega) (by omega)]
    obtain ⟨w, ⟨w0, w1, _⟩, e⟩ := fU hb q 60 h0 (by omega) (by omega)
    have w1 := w1 (by omega)
    refine dI e ?_
    dsimp only
    rw [show wrap64 (1 + w) = 1 + w from w64 (by omega) (by omega)]
    refine eZ (fP (1 + w).toNat (1 + w) (by omega) (by omega) (by omega)) ?_
    have hds := pJ (n := 1 + w) (by omega) (by omega)
    exact dX (gG h (ws4 (by decide) (gU hz i) (by omega) hs0) (by simp)) (fun t ht => K _ _ _ _ _ ht (by omega) (by omega))
theorem aFC {b : List Int} (hb : gX b) : ∀ (m i : Nat) (s : List ByteArray) (f : List aC) (p : List aB) (v : List aA) (q : Int), i + m = 9 → PD 0 s f p v → 0 ≤ q → q + 5 * m ≤ 60000 → ExP (fun k => aL.l8 k (i : Int) b q s f p v) (QD 0 b 100000)
  | 0, i, s, f, p, v, q, hi, h, h0, hq => by
    refine cE (fun k => by rw [aL.l8]) (dL (by omega) ?_)
    obtain ⟨w, ⟨w0, w1, _⟩, e⟩ := fU hb q 13 h0 (by omega) (by omega)
    have w1 := w1 (by omega)
    obtain ⟨n, rfl⟩ : ∃ n : Nat, w = (n : Int) := ⟨w.toNat, by omega⟩
    refine dI e ?_
    exact aJA hb n s f p v (q + 1) (by omega) h (by omega) (by omega)
  | m + 1, i, s, f, p, v, q, hi, h, h0, hq => by
    refine cE (fun k => by rw [aL.l8]) (bF (by omega) ?_)
    obtain ⟨w, _, e⟩ := fU hb q 6 h0 (by omega) (by omega)
    refine dI e ?_
    dsimp only
    rw [dP (n := 100) (by omega) (by omega)]
    refine cC (fun _ => aFC hb m (i + 1) _ _ _ _ _ (by omega) h (by omega) (by omega)) (fun _ => ?_)
    obtain ⟨z, hz, e3⟩ := lC hb (q + 1) (by omega) (by omega) ([(⟨#[101, 97, 115, 116]⟩ : ByteArray), (⟨#[119, 101, 115, 116]⟩ : ByteArray)] : List ByteArray) (by decide) (by decide)
    refine dI e3 ?_
    have K : ∀ (s : List ByteArray) (f : List aC) (p : List aB) (v : List aA) (q' : Int), PD 0 s f p v → q + 1 + 1 ≤ q' → q' ≤ q + 1 + 1 + 1 → ExP (fun k => aL.l8 k ((i + 1 : Nat) : Int) b q' s f p v) (QD 0 b 100000) := fun s f p v q' h h1 h2 => aFC hb m (i + 1) s f p v q' (by omega) h (by omega) (by omega)
    have hzs := kW hz (by decide)
    exact cC (fun _ => aJN hb i (by omega) _ z hzs s f p v _ h (by omega) (by omega) K) (fun _ => aJN hb i (by omega) _ z hzs s f p v _ h (by omega) (by omega) K)
theorem aJG {b : List Int} (hb : gX b) : ∀ (m : Nat) (s : List ByteArray) (f : List aC) (p : List aB) (v : List aA) (q : Int), m ≤ 4 → PD 0 s f p v → 0 ≤ q → q + 5 * m ≤ 50000 → ExP (fun k => aL.l1 k (m : Int) b q s f p v) (QD 0 b 100000)
  | 0, s, f, p, v, q, hm, h, h0, hq => by
    have K := aFC hb 9 0 s f p v q (by omega) h h0 (by omega)
    refine cE (fun k => by rw [aL.l1]) (dL (by omega) ?_)
    exact K
  | m + 1, s, f, p, v, q, hm, h, h0, hq => by
    have hls := h.ls
    have K := aFQ hb 9 0 s f p v q (by omega) h h0 (by omega)
    refine cE (fun k => by rw [aL.l1]) (bF (by omega) (cC (fun hl => ?_) (fun _ => ?_)))
    rotate_left
    · exact K
    obtain ⟨x, hx, e1⟩ := lC hb q h0 (by omega) s (by omega) (by omega)
    refine dI e1 ?_
    dsimp only
    obtain ⟨y, hy, e2⟩ := lC hb (q + 1) (by omega) (by omega) s (by omega) (by omega)
    refine dI e2 ?_
    dsimp only
    refine dX (gG h (ws3 (by decide) (h.s1 x hx) (h.s1 y hy)) (by simp)) (fun t ht => ?_)
    rw [show wrap64 (((m + 1 : Nat) : Int) - 1) = (m : Int) by unfold wrap64; omega]
    exact aJG hb m _ _ _ _ _ (by omega) ht (by omega) (by omega)
theorem aDQ {b : List Int} (hb : gX b) (X : List ByteArray) (hX : X.length = 4) (hXs : ∀ w ∈ X, w.size ≤ 1000) : ∀ (m i : Nat) (s : List ByteArray) (q : Int), i + m = 4 → s.length ≤ i → (∀ x ∈ s, x.size ≤ 1000) → 0 ≤ q → q + 2 * m ≤ 40000 → ExP (fun k => aL.l0 k X (i : Int) b q s [] [] []) (QD 0 b 100000)
  | 0, i, s, q, hi, hs, hs1, h0, hq => by
    refine cE (fun k => by rw [aL.l0]) (dL (by omega) ?_)
    obtain ⟨w, ⟨w0, w1, _⟩, e⟩ := fU hb q 4 h0 (by omega) (by omega)
    have w1 := w1 (by omega)
    obtain ⟨n, rfl⟩ : ∃ n : Nat, w = (n : Int) := ⟨w.toNat, by omega⟩
    refine dI e ?_
    exact aJG hb n s [] [] [] (q + 1) (by omega) ⟨by omega, by simp, by simp, by simp, hs1, fun x hx => (by cases hx), fun x hx => (by cases hx), fun x hx => (by cases hx)⟩ (by omega) (by omega)
  | m + 1, i, s, q, hi, hs, hs1, h0, hq => by
    refine cE (fun k => by rw [aL.l0]) (bF (by omega) ?_)
    obtain ⟨w, _, e⟩ := fU hb q 5 h0 (by omega) (by omega)
    refine dI e ?_
    dsimp only
    rw [dP (n := 100) (by omega) (by omega)]
    refine cC (fun _ => bF (by omega) (bF (by omega) ?_)) (fun _ => aDQ hb X hX hXs m (i + 1) s _ (by omega) (by omega) hs1 (by omega) (by omega))
    refine aDQ hb X hX hXs m (i + 1) _ _ (by omega) (by simp; omega) (fun x hx => ?_) (by omega) (by omega)
    rcases List.mem_append.1 hx with hx | hx
    · exact hs1 x hx
    · rw [List.mem_singleton] at hx; subst hx; exact gU hXs i
theorem aCF {b : List Int} (hb : gX b) : ExP (fun k => aL.f k b 0) (QD 0 b 100000) := by
  unfold aL.f
  exact aDQ hb _ rfl (fun w hw => kW hw (by decide)) 4 0 [] 0 (by omega) (by simp) (fun x hx => (by cases hx)) (by omega) (by omega)
/-! ### plants, spoilt -/
theorem gM {β : Type} {b : List Int} (hb : gX b) {q n : Int} (h0 : 0 ≤ q) (hq : q ≤ 1000000) (hn : n ≤ 1000000) {f : Nat → Int × List Int × Int → Option β} {Q : β → Prop} (k : ∀ v, 0 ≤ v → (1 ≤ n → v < n) → ExP (fun m => f m (v, b, q + 1)) Q) : ExP (fun m => (aS.f b q n).bind (f m)) Q := by
  obtain ⟨v, ⟨v0, v1, _⟩, e⟩ := fU hb q n h0 (by omega) (by omega)
  exact dI e (k v v0 v1)
theorem jA {β : Type} {b : List Int} (hb : gX b) {q : Int} {l : List ByteArray} (h0 : 0 ≤ q) (hq : q ≤ 1000000) (h1 : 1 ≤ l.length) (h2 : l.length ≤ 1000) (hz : ∀ w ∈ l, w.size ≤ 1000) {f : Nat → ByteArray × List Int × Int → Option β} {Q : β → Prop} (k : ∀ s, s.size ≤ 1000 → ExP (fun m => f m (s, b, q + 1)) Q) : ExP (fun m => (bA.f b q l).bind (f m)) Q := by
  obtain ⟨s, hs, e⟩ := lC hb q h0 (by omega) l h1 (by omega)
  exact dI e (k s (hz s hs))
theorem pW {α : Type} {P : α → Prop} {l : List α} {x : α} (n : Nat) (h : ∀ y ∈ l, P y) (hx : P x) : ∀ y ∈ l.set n x, P y := fun y hy => by
  rcases List.mem_or_eq_of_mem_set hy with hy | hy
  · exact h y hy
  · subst hy; exact hx
theorem nO {α : Type} {P : α → Prop} {l : List α} {x : α} (h : ∀ y ∈ l, P y) (hx : P x) : ∀ y ∈ l ++ [x], P y := fun y hy => by
  rcases List.mem_append.1 hy with hy | hy
  · exact h y hy
  · rw [List.mem_singleton] at hy; subst hy; exact hx
theorem PD.up {m n : Nat} {s : List ByteArray} {f : List aC} {p : List aB} {v : List aA} (h : PD m s f p v) (hmn : m ≤ n) : PD n s f p v := by
  obtain ⟨ls, lf, lp, lv, s1, f1, p1, v1⟩ := h
  exact ⟨by omega, by omega, by omega, by omega, s1, f1, p1, v1⟩
theorem sQ {p : List aB} (h : ∀ x ∈ p, x.f0.size ≤ 1000 ∧ x.f2.size ≤ 1000) (a : Int) (h0 : 0 ≤ a) (h1 : a < p.length) : (aK p a).f0.size ≤ 1000 ∧ (aK p a).f2.size ≤ 1000 := by
  obtain ⟨n, rfl⟩ : ∃ n : Nat, a = (n : Int) := ⟨a.toNat, by omega⟩
  rw [rdP]
  exact h _ (jN cV p n (by omega))
theorem aJV {p : List aA} (h : ∀ x ∈ p, x.f0.size ≤ 1000 ∧ x.f1.size ≤ 1000 ∧ x.f2.size ≤ 1000 ∧ x.f3.size ≤ 1000) (a : Int) (h0 : 0 ≤ a) (h1 : a < p.length) : (aI p a).f0.size ≤ 1000 ∧ (aI p a).f1.size ≤ 1000 ∧ (aI p a).f2.size ≤ 1000 ∧ (aI p a).f3.size ≤ 1000 := by
  obtain ⟨n, rfl⟩ : ∃ n : Nat, a = (n : Int) := ⟨a.toNat, by omega⟩
  rw [rdV]
  exact h _ (jN cW p n (by omega))
theorem lS {b : List Int} {s : List ByteArray} {f : List aC} {p : List aB} {v : List aA} {q : Int} (h : PD 1 s f p v) (h0 : 0 ≤ q) (hq : q ≤ 200000) : ExP (fun k => aT.j0 k b q s f p v) (QD 1 b 200000) :=
  cE (fun k => by rw [aT.j0]) (dC ⟨h, rfl, h0, hq⟩)
theorem aJP {b : List Int} (t : Int × List Int × Int) (hb0 : t.2.1 = b) (c0 : 0 ≤ t.1) (c1 : t.1 < 2) (h0 : 0 ≤ t.2.2) (hq : t.2.2 ≤ 200000) (f : List aC) (p : List aB) (v : List aA) : ∀ (m i : Nat) (s : List ByteArray), i + m ≤ 50 → 10 ≤ m + s.length → PD 1 s f p v → ExP (fun k => aT.l0 k (i : Int) s f p v t) (QD 1 b 200000)
  | 0, i, s, hi, hm, h => by have := h.ls; omega
  | m + 1, i, s, hi, hm, h => by
    have hls := h.ls
    refine cE (fun k => by rw [aT.l0]) ?_
    rw [show wrap64 (8 + t.1) = 8 + t.1 from w64 (by omega) (by omega), show wrap64 (10 + (i : Int)) = ((10 + i : Nat) : Int) by unfold wrap64; omega, dP (n := 100) (by omega) (by omega)]
    refine cC (fun c => ?_) (fun c => ?_)
    · refine eZ (fP (10 + i) ((10 + i : Nat) : Int) (by omega) (by omega) (by omega)) ?_
      have hds := pJ (n := ((10 + i : Nat) : Int)) (by omega) (by omega)
      have z1 : (⟨#[122]⟩ : ByteArray).size = 1 := rfl
      refine bF (by omega) (bF (by omega) ?_)
      obtain ⟨ls, lf, lp, lv, s1, f1, p1, v1⟩ := h
      exact aJP t hb0 c0 c1 h0 hq f p v m (i + 1) _ (by omega) (by rw [List.length_append, List.length_singleton]; omega) ⟨by rw [List.length_append, List.length_singleton]; omega, lf, lp, lv, nO s1 (by rw [ByteArray.size_append]; omega), f1, p1, v1⟩
    · rw [hb0]; exact lS h h0 hq
theorem aIW {b : List Int} (t : Int × List Int × Int) (hb0 : t.2.1 = b) (c0 : 0 ≤ t.1) (c1 : t.1 < 2) (h0 : 0 ≤ t.2.2) (hq : t.2.2 ≤ 200000) (s : List ByteArray) (f : List aC) (v : List aA) : ∀ (m i : Nat) (p : List aB), i + m ≤ 50 → 16 ≤ m + p.length → PD 1 s f p v → ExP (fun k => aT.l1 k (i : Int) s f p v t) (QD 1 b 200000)
  | 0, i, p, hi, hm, h => by have := h.lp; omega
  | m + 1, i, p, hi, hm, h => by
    have hls := h.lp
    refine cE (fun k => by rw [aT.l1]) ?_
    rw [show wrap64 (14 + t.1) = 14 + t.1 from w64 (by omega) (by omega), show wrap64 (10 + (i : Int)) = ((10 + i : Nat) : Int) by unfold wrap64; omega, dP (n := 100) (by omega) (by omega)]
    refine cC (fun c => ?_) (fun c => ?_)
    · refine eZ (fP (10 + i) ((10 + i : Nat) : Int) (by omega) (by omega) (by omega)) ?_
      have hds := pJ (n := ((10 + i : Nat) : Int)) (by omega) (by omega)
      have z1 : (⟨#[122, 122]⟩ : ByteArray).size = 2 := rfl
      refine bF (by omega) (bF (by omega) ?_)
      obtain ⟨ls, lf, lp, lv, s1, f1, p1, v1⟩ := h
      exact aIW t hb0 c0 c1 h0 hq s f v m (i + 1) _ (by omega) (by rw [List.length_append, List.length_singleton]; omega) ⟨ls, lf, by rw [List.length_append, List.length_singleton]; omega, lv, s1, f1, nO p1 ⟨by show (_ ++ _ : ByteArray).size ≤ 1000; rw [ByteArray.size_append]; omega, by show 1 ≤ 1000; omega⟩, v1⟩
    · rw [hb0]; exact lS h h0 hq
theorem aJJ {b : List Int} (t : Int × List Int × Int) (hb0 : t.2.1 = b) (c0 : 0 ≤ t.1) (c1 : t.1 < 2) (h0 : 0 ≤ t.2.2) (hq : t.2.2 ≤ 200000) (s : List ByteArray) (f : List aC) (p : List aB) : ∀ (m i : Nat) (v : List aA), i + m ≤ 50 → 20 ≤ m + v.length → PD 1 s f p v → ExP (fun k => aT.l2 k (i : Int) s f p v t) (QD 1 b 200000)
  | 0, i, v, hi, hm, h => by have := h.lv; omega
  | m + 1, i, v, hi, hm, h => by
    have hls := h.lv
    refine cE (fun k => by rw [aT.l2]) ?_
    rw [show wrap64 (18 + t.1) = 18 + t.1 from w64 (by omega) (by omega), show wrap64 (10 + (i : Int)) = ((10 + i : Nat) : Int) by unfold wrap64; omega, dP (n := 100) (by omega) (by omega)]
    refine cC (fun c => cC (fun d => ?_) (fun d => ?_)) (fun c => ?_)
    · refine eZ (fP (10 + i) ((10 + i : Nat) : Int) (by omega) (by omega) (by omega)) ?_
      have hds := pJ (n := ((10 + i : Nat) : Int)) (by omega) (by omega)
      have z1 : (⟨#[122, 122]⟩ : ByteArray).size = 2 := rfl
      refine bF (by omega) (bF (by omega) (bF (by omega) (bF (by omega) ?_)))
      obtain ⟨ls, lf, lp, lv, s1, f1, p1, v1⟩ := h
      have a0 := (sQ p1 0 (by omega) (by omega)).1
      have a1 := (sQ p1 1 (by omega) (by omega)).1
      exact aJJ t hb0 c0 c1 h0 hq s f p m (i + 1) _ (by omega) (by rw [List.length_append, List.length_singleton]; omega) ⟨ls, lf, lp, by rw [List.length_append, List.length_singleton]; omega, s1, f1, p1, nO v1 ⟨by show (_ ++ _ : ByteArray).size ≤ 1000; rw [ByteArray.size_append]; omega, a0, a1, by show 1 ≤ 1000; omega⟩⟩
    · rw [hb0]; exact lS h h0 hq
    · rw [hb0]; exact lS h h0 hq
theorem aJD {b : List Int} (hb : gX b) {s : List ByteArray} {f : List aC} {p : List aB} {v : List aA} (h : PD 1 s f p v) (c : Int) (q : Int) (h0 : 0 ≤ q) (hq : q ≤ 150000) (fl : Bool) : ExP (fun k => aT.j1 k fl (s, f, p, v) (c, b, q)) (QD 1 b 200000) := by
  obtain ⟨ls, lf, lp, lv, s1, f1, p1, v1⟩ := h
  have h : PD 1 s f p v := ⟨ls, lf, lp, lv, s1, f1, p1, v1⟩
  refine cE (fun k => by rw [aT.j1]) (cC (fun _ => cC (fun hl => ?_) (fun _ => ?_)) (fun _ => ?_))
  · refine gM hb h0 (by omega) (by dsimp only; omega) (fun a a0 a1 => ?_)
    have a1 := a1 (by dsimp only at hl ⊢; omega)
    dsimp only at a1 hl ⊢
    have hx := aJV v1 a a0 a1
    have fin : ∀ (x : aA) (q' : Int), (x.f0.size ≤ 1000 ∧ x.f1.size ≤ 1000 ∧ x.f2.size ≤ 1000 ∧ x.f3.size ≤ 1000) → 0 ≤ q' → q' ≤ 200000 → ExP (fun k => aT.j0 k b q' s f p (v.set a.toNat x)) (QD 1 b 200000) := fun x q' g g0 g1 => lS ⟨ls, lf, lp, by rw [List.length_set]; omega, s1, f1, p1, pW _ v1 g⟩ g0 g1
    refine gM hb (by omega) (by omega) (by omega) (fun d d0 d1 => ?_)
    dsimp only
    refine cC (fun _ => ?_) (fun _ => cC (fun _ => ?_) (fun _ => cC (fun _ => ?_) (fun _ => ?_)))
    · refine jA hb (by omega) (by omega) (by decide) (by decide) (fun w hw => kW hw (by decide)) (fun w hw => bF a0 (bF a1 (fin _ _ ⟨hw, hx.2⟩ (by dsimp only; omega) (by dsimp only; omega))))
    · refine bF a0 (bF a1 (jA hb (by omega) (by omega) (by simp) (by simp) (ws4 (by decide) (by decide) hx.2.2.1 (by decide)) (fun w hw => fin _ _ ⟨hx.1, hw, hx.2.2⟩ (by dsimp only; omega) (by dsimp only; omega))))
    · refine jA hb (by omega) (by omega) (by decide) (by decide) (fun w hw => kW hw (by decide)) (fun w hw => bF a0 (bF a1 (fin _ _ ⟨hx.1, hx.2.1, hw, hx.2.2.2⟩ (by dsimp only; omega) (by dsimp only; omega))))
    · exact bF a0 (bF a1 (fin _ _ ⟨hx.1, hx.2.1, hx.2.2.1, by show 0 ≤ 1000; omega⟩ (by omega) (by omega)))
  · exact lS h h0 (by dsimp only; omega)
  · dsimp only
    refine cC (fun _ => ?_) (fun _ => cC (fun _ => ?_) (fun _ => ?_))
    · exact gM hb h0 (by omega) (by omega) (fun a a0 a1 => aJP (a, b, q + 1) rfl a0 (a1 (by omega)) (by dsimp only; omega) (by dsimp only; omega) f p v 20 0 s (by omega) (by omega) h)
    · exact gM hb h0 (by omega) (by omega) (fun a a0 a1 => aIW (a, b, q + 1) rfl a0 (a1 (by omega)) (by dsimp only; omega) (by dsimp only; omega) s f v 20 0 p (by omega) (by omega) h)
    · exact gM hb h0 (by omega) (by omega) (fun a a0 a1 => aJJ (a, b, q + 1) rfl a0 (a1 (by omega)) (by dsimp only; omega) (by dsimp only; omega) s f p 20 0 v (by omega) (by omega) h)
theorem yZ {b : List Int} (hb : gX b) {s : List ByteArray} {f : List aC} {p : List aB} {v : List aA} (hh : PD 0 s f p v) (q : Int) (h0 : 0 ≤ q) (hq : q ≤ 120000) : ExP (fun k => aT.f k b q s f p v) (QD 1 b 200000) := by
  unfold aT.f
  have h := hh.up (n := 1) (by omega)
  obtain ⟨ls, lf, lp, lv, s1, f1, p1, v1⟩ := hh
  refine dI (iP (m := 1) (by omega) h) (gM hb h0 (by omega) (by omega) (fun c _ _ => ?_))
  dsimp only
  refine cC (fun _ => ?_) (fun _ => cC (fun _ => ?_) (fun _ => cC (fun _ => ?_) (fun _ => cC (fun _ => ?_) (fun _ => cC (fun _ => ?_) (fun _ => ?_)))))
  · refine jA hb (by omega) (by omega) (by decide) (by decide) (fun w hw => kW hw (by decide)) (fun w hw => bF (by omega) (lS ⟨by rw [List.length_append, List.length_singleton]; omega, by omega, by omega, by omega, nO s1 hw, f1, p1, v1⟩ (by dsimp only; omega) (by dsimp only; omega)))
  · refine jA hb (by omega) (by omega) (by decide) (by decide) (fun w hw => kW hw (by decide)) (fun w hw => jA hb (by dsimp only; omega) (by dsimp only; omega) (by decide) (by decide) (fun w hw => kW hw (by decide)) (fun z hz => bF (by omega) (lS ⟨by omega, by rw [List.length_append, List.length_singleton]; omega, by omega, by omega, s1, nO f1 ⟨hw, hz⟩, p1, v1⟩ (by dsimp only; omega) (by dsimp only; omega))))
  · refine cC (fun hl => gM hb (by omega) (by omega) (by omega) (fun a a0 a1 => ?_)) (fun _ => lS h (by omega) (by omega))
    have a1 := a1 (by omega)
    have hx := sQ p1 a a0 a1
    refine jA hb (by dsimp only; omega) (by dsimp only; omega) (by decide) (by decide) (fun w hw => kW hw (by decide)) (fun w hw => bF a0 (bF a1 (lS ⟨by omega, by omega, by rw [List.length_set]; omega, by omega, s1, f1, pW _ p1 ⟨hw, hx.2⟩, v1⟩ (by dsimp only; omega) (by dsimp only; omega))))
  · refine cC (fun hl => gM hb (by omega) (by omega) (by omega) (fun a a0 a1 => ?_)) (fun _ => lS h (by omega) (by omega))
    have a1 := a1 (by omega)
    have hx := sQ p1 a a0 a1
    refine gM hb (by dsimp only; omega) (by dsimp only; omega) (by omega) (fun d d0 d1 => ?_)
    have d1 := d1 (by omega)
    exact bF d0 (bF d1 (bF a0 (bF a1 (lS ⟨by omega, by omega, by rw [List.length_set]; omega, by omega, s1, f1, pW _ p1 ⟨hx.1, hx.2⟩, v1⟩ (by dsimp only; omega) (by dsimp only; omega)))))
  · refine cC (fun hl => gM hb (by omega) (by omega) (by omega) (fun a a0 a1 => ?_)) (fun _ => lS h (by omega) (by omega))
    have a1 := a1 (by omega)
    have hx := sQ p1 a a0 a1
    refine jA hb (by dsimp only; omega) (by dsimp only; omega) (by decide) (by decide) (fun w hw => kW hw (by decide)) (fun w hw => bF a0 (bF a1 (lS ⟨by omega, by omega, by rw [List.length_set]; omega, by omega, s1, f1, pW _ p1 ⟨hx.1, hw⟩, v1⟩ (by dsimp only; omega) (by dsimp only; omega))))
  · exact cC (fun _ => aJD hb h c (q + 1) (by omega) (by omega) _) (fun _ => aJD hb h c (q + 1) (by omega) (by omega) _)
theorem xB {b : List Int} (hb : gX b) : ExP (fun k => hZ.f k b 0) (QD 1 b 300000) := by
  unfold hZ.f
  refine dX (aCF hb) (fun t ht => ?_)
  obtain ⟨h, hbb, h0, h1⟩ := ht
  rw [hbb]
  refine gM hb h0 (by omega) (by omega) (fun c _ _ => cC (fun _ => ?_) (fun _ => dC ⟨h.up (by omega), rfl, by dsimp only; omega, by dsimp only; omega⟩))
  refine dX (yZ hb h _ (by dsimp only; omega) (by dsimp only; omega)) (fun z hz => ?_)
  obtain ⟨g, gb, g0, g1⟩ := hz
  exact dC ⟨g, gb, g0, by dsimp only; omega⟩
/-! ### lengths of a valid plant -/
/-! ### texts, cut in pieces -/
def pcs (c : UInt8) : List UInt8 → List (List UInt8)
  | [] => [[]]
  | b :: l => if b = c then [] :: pcs c l else (b :: (pcs c l).headD []) :: (pcs c l).tail
theorem tO (c : UInt8) : ∀ l, pcs c l ≠ []
  | [] => by simp [pcs]
  | b :: l => by unfold pcs; split <;> simp
theorem yK (c : UInt8) (l : List UInt8) : Lib.index (c :: l) [c] = 0 := by simp [Lib.index, List.isPrefixOf]
theorem yM (b c : UInt8) (l : List UInt8) (h : b ≠ c) : Lib.index (b :: l) [c] = if Lib.index l [c] == -1 then -1 else Lib.index l [c] + 1 := by
  have h' : (c == b) = false := by simpa using fun e => h e.symm
  simp [Lib.index, List.isPrefixOf, h']
theorem sS (c : UInt8) : ∀ s : List UInt8, Lib.splitK [c] 0 (Lib.count s [c]) s = pcs c s
  | [] => by rw [Lib.count_miss (by simp [Lib.index])]; rfl
  | b :: l => by
    have ih := sS c l
    by_cases h : b = c
    · subst h
      rw [Lib.count_cons_eq, Nat.add_comm, Lib.splitK, yK, if_neg (by decide)]
      simp [pcs, ih]
    · rw [Lib.count_cons_ne b c l h]
      have hi := yM b c l h
      by_cases hm : Lib.index l [c] = -1
      · rw [Lib.count_miss hm] at ih ⊢
        simp only [Lib.splitK] at ih ⊢
        simp [pcs, h, ← ih]
      · have hge := Lib.index_ge l [c]
        obtain ⟨i, hi'⟩ : ∃ i : Nat, Lib.index l [c] = i := ⟨(Lib.index l [c]).toNat, by omega⟩
        rw [Lib.count_hit (by simp) hi', Nat.add_comm] at ih ⊢
        have e1 : ¬ (Lib.index l [c] == -1) = true := by simpa using hm
        have hi2 : Lib.index (b :: l) [c] = ((i + 1 : Nat) : Int) := by rw [hi, if_neg e1, hi']; omega
        have e2 : ¬ (Lib.index (b :: l) [c] == -1) = true := by
          intro e; have := beq_iff_eq.1 e; omega
        rw [Lib.splitK, if_neg e1, hi'] at ih
        rw [Lib.splitK, if_neg e2, hi2, pcs, if_neg h, ← ih]
        simp [Nat.add_assoc, Nat.add_comm]
        rw [show 1 + (i + 1) = (i + 1) + 1 by omega, List.drop_succ_cons]
def iW (c : UInt8) : List UInt8 → List UInt8
  | [] => []
  | b :: l => if b = c then [] else b :: iW c l
theorem xX (c : UInt8) : ∀ s : List UInt8, (Lib.cut s [c]).1 = iW c s
  | [] => by simp [Lib.cut, Lib.index, iW]
  | b :: l => by
    have ih := xX c l
    by_cases h : b = c
    · subst h
      simp [Lib.cut, yK, iW]
    · have hi := yM b c l h
      have hge := Lib.index_ge l [c]
      by_cases hm : Lib.index l [c] = -1
      · have e : Lib.index (b :: l) [c] = -1 := by rw [hi, if_pos (by simpa using hm)]
        simp only [Lib.cut, hm, e, iW, if_neg h] at ih ⊢
        simpa using ih
      · have e1 : ¬ (Lib.index l [c] == -1) = true := by simpa using hm
        have e : Lib.index (b :: l) [c] = Lib.index l [c] + 1 := by rw [hi, if_neg e1]
        have g0 : 0 ≤ Lib.index l [c] := by omega
        have g1 : 0 ≤ Lib.index l [c] + 1 := by omega
        simp only [Lib.cut, e, iW, if_neg h, if_pos g0, if_pos g1] at ih ⊢
        rw [← ih, show (Lib.index l [c] + 1).toNat = (Lib.index l [c]).toNat + 1 by omega, List.take_succ_cons]
theorem tH (s : ByteArray) (c : UInt8) : (iE s ⟨#[c]⟩).map (fun x => x.data.toList) = pcs c s.data.toList := by
  unfold iE
  rw [Lib.splitB_data]
  exact sS c _
theorem aCT (s : ByteArray) (c : UInt8) : (aFW s ⟨#[c]⟩).1.data.toList = iW c s.data.toList := by
  unfold aFW
  exact xX c _
/-! ### texts as lists of bytes -/
def mkB (l : List UInt8) : ByteArray := ⟨l.toArray⟩
theorem kD (x : ByteArray) : mkB x.data.toList = x := by cases x; simp [mkB]
theorem aEU (l : List UInt8) : (mkB l).data.toList = l := by simp [mkB]
theorem pU (l : List UInt8) : (mkB l).size = l.length := by show l.toArray.size = l.length; simp
theorem mT (s : ByteArray) : s.data.toList.length = s.size := by show s.data.toList.length = s.data.size; simp
theorem qK (s : ByteArray) (i : Nat) (h : i < s.size) : bt s (i : Int) = ((s.data.toList.getD i 0).toNat : Int) := by
  have h' : i < s.data.toList.length := by rw [mT]; exact h
  unfold bt
  rw [dif_pos (by simpa using h), kT _ _ _ h']
  simp only [Int.toNat_natCast]
  rfl
theorem aIX (b : UInt8) : b.toNat < 256 := b.toNat_lt
theorem uW (c : UInt8) : ∀ l : List UInt8, (iW c l).length ≤ l.length
  | [] => Nat.le_refl _
  | b :: l => by
    have := uW c l
    unfold iW
    split
    · simp
    · simp; omega
/-! ### the words of a line -/
def okW (b : UInt8) : Bool := decide (32 ≤ b.toNat ∧ b.toNat ≤ 126)
def wsp : List UInt8 → List UInt8 → List ByteArray → Option (List ByteArray)
  | [], _, out => some out
  | b :: l, cur, out => if b = 32 then (if cur = [] then wsp l cur out else wsp l [] (out ++ [mkB cur])) else if (33 ≤ b.toNat ∧ b.toNat ≤ 126) ∧ cur.length + 1 ≤ 24 then wsp l (cur ++ [b]) out else none
def goP : List (List UInt8) → List ByteArray → Option (List ByteArray)
  | [], out => some out
  | p :: ps, out => if p = [] then goP ps out else if p.length > 24 then none else goP ps (out ++ [mkB p])
theorem aIT {b : UInt8} : b = 32 ↔ b.toNat = 32 := ⟨fun h => by subst h; rfl, fun h => UInt8.toNat_inj.1 (by rw [h]; rfl)⟩
theorem vI : ∀ (bs cur : List UInt8) (out : List ByteArray), cur.length ≤ 24 → wsp (bs ++ [32]) cur out = if bs.all okW = true then goP ((cur ++ (pcs 32 bs).headD []) :: (pcs 32 bs).tail) out else none
  | [], cur, out, hc => by
    have : ¬ cur.length > 24 := by omega
    simp only [List.nil_append, wsp, pcs, goP, List.all_nil, List.headD_cons, List.append_nil, List.tail_cons]
    by_cases h : cur = [] <;> simp [h, this]
  | b :: l, cur, out, hc => by
    rw [List.cons_append, wsp]
    by_cases h : b = 32
    · subst h
      have i1 := vI l [] out (by simp)
      have i2 := vI l [] (out ++ [mkB cur]) (by simp)
      have hne := tO 32 l
      have e : ([] ++ (pcs 32 l).headD []) :: (pcs 32 l).tail = pcs 32 l := by
        cases hp : pcs 32 l with
        | nil => exact absurd hp hne
        | cons p ps => simp
      rw [e] at i1 i2
      have ok : okW 32 = true := by decide
      have : ¬ cur.length > 24 := by omega
      simp only [pcs, if_true, List.headD_cons, List.append_nil, List.tail_cons, List.all_cons, ok, Bool.true_and, goP]
      by_cases hcur : cur = []
      · subst hcur; simp [i1]
      · simp [hcur, this, i2]
    · rw [if_neg h]
      have hb : b.toNat ≠ 32 := fun e => h (aIT.2 e)
      simp only [pcs, if_neg h, List.headD_cons, List.tail_cons, List.all_cons]
      by_cases h1 : 33 ≤ b.toNat ∧ b.toNat ≤ 126
      · have ok : okW b = true := decide_eq_true (by omega)
        by_cases h2 : cur.length + 1 ≤ 24
        · rw [if_pos ⟨h1, h2⟩, vI l (cur ++ [b]) out (by simp; omega), ok, Bool.true_and]
          simp
        · rw [if_neg (fun q => h2 q.2), ok, Bool.true_and]
          have e1 : cur ++ b :: (pcs 32 l).headD [] ≠ [] := by simp
          have e2 : (cur ++ b :: (pcs 32 l).headD []).length > 24 := by simp; omega
          rw [goP, if_neg e1, if_pos e2]
          simp
      · have ok : okW b = false := decide_eq_false (by omega)
        rw [if_neg (fun q => h1 q.1), ok]
        simp
theorem aGK (bs : List UInt8) : wsp (bs ++ [32]) [] [] = if bs.all okW = true then goP (pcs 32 bs) [] else none := by
  have h := vI bs [] [] (by simp)
  have hne := tO 32 bs
  have e : ([] ++ (pcs 32 bs).headD []) :: (pcs 32 bs).tail = pcs 32 bs := by
    cases hp : pcs 32 bs with
    | nil => exact absurd hp hne
    | cons p ps => simp
  rw [e] at h; exact h
def tF : Option (List ByteArray) → List ByteArray × Bool
  | none => ([], false)
  | some o => if o.length > 16 then ([], false) else (o, true)
theorem aDO (o : Option (List ByteArray)) : (tF o).1.length ≤ 16 := by
  unfold tF
  split
  · simp
  · split
    · simp
    · rename_i h; simp; omega
def aHV : Option (List ByteArray) → List ByteArray × Bool
  | none => ([], false)
  | some o => (o, true)
theorem xI (s : ByteArray) (hs : s.size ≤ 1048576) : Ev (fun k => bS.f k s) (aHV (if (iW 35 s.data.toList).all okW = true then goP (pcs 32 (iW 35 s.data.toList)) [] else none)) := by
  unfold bS.f
  have eC : strings_Cut.f s (⟨#[35]⟩ : ByteArray) = some (aFW s (⟨#[35]⟩ : ByteArray)) := by
    unfold strings_Cut.f aAO; rw [if_pos (by omega)]
  have hb := aCT s 35
  refine pK eC ?_
  generalize aFW s (⟨#[35]⟩ : ByteArray) = C at *
  have hbl := uW 35 s.data.toList
  rw [mT] at hbl
  have hC : C.1 = mkB (iW 35 s.data.toList) := by rw [← hb, kD]
  generalize iW 35 s.data.toList = B at *
  have hCs : C.1.size = B.length := by rw [hC, pU]
  have L1 : B.all okW = true → Ev (fun k => bS.l0 k (B.length : Int) C) (aHV (goP (pcs 32 B) [])) := fun _ => by
    refine Ev.step (fun k => by rw [bS.l0]) (cB (by omega) ?_)
    have eS : strings_Split.f C.1 (⟨#[32]⟩ : ByteArray) = some (iE C.1 (⟨#[32]⟩ : ByteArray)) := by
      unfold strings_Split.f qD; rw [if_pos ⟨by omega, by decide⟩]
    refine pK eS ?_
    have hm := tH C.1 32
    rw [hb] at hm
    have hlen : (iE C.1 (⟨#[32]⟩ : ByteArray)).length ≤ 4294967296 := by
      have h1 := Lib.splitB_length_le (⟨#[32]⟩ : ByteArray) 0 (Lib.countB C.1 (⟨#[32]⟩ : ByteArray)) C.1
      have h2 := Lib.countB_le (⟨#[32]⟩ : ByteArray) (by decide) C.1.size C.1 (Nat.le_refl _)
      unfold iE; omega
    generalize iE C.1 (⟨#[32]⟩ : ByteArray) = ws at *
    rw [← hm]
    have key := eQ ByteArray.empty ws (P := fun i r => i ≤ ws.length → ∀ out : List ByteArray, out.length ≤ i → Ev (fun k => bS.l1 k out (i : Int) ws) (aHV (goP (r.map (fun x => x.data.toList)) out)))
      (fun _ out _ => by refine Ev.step (fun k => by rw [bS.l1]) ?_; exact cB (by omega) (aZ rfl)) (fun i x r hi hx hmm _ ih _ out ho => ?_)
    · exact key (by omega) [] (by simp)
    refine Ev.step (fun k => by rw [bS.l1]) (aU (by omega) (aU (by omega) ?_))
    rw [fH, hx, dP hi (by omega), List.map_cons, goP]
    have hxl := mT x
    refine bL (fun c => ?_) (fun c => ?_)
    · have : x.data.toList = [] := by rw [dF.1 c]
      rw [if_pos this]
      exact ih (by omega) out (by omega)
    · have : ¬ x.data.toList = [] := fun e => c (dF.2 (by rw [← kD x, e]; rfl))
      rw [if_neg this]
      refine bL (fun c2 => ?_) (fun c2 => ?_)
      · rw [if_pos (by omega)]; exact aZ rfl
      · rw [if_neg (by omega), kD]
        exact aU (by omega) (ih (by omega) _ (by simp; omega))
  have key := eQ (0 : UInt8) B (P := fun i r => (r.all okW = true → B.all okW = true) → i ≤ B.length → Ev (fun k => bS.l0 k (i : Int) C) (aHV (if r.all okW = true then goP (pcs 32 B) [] else none)))
    (fun h _ => by rw [if_pos (by rfl)]; exact L1 (h rfl)) (fun i x r hi hx hm _ ih h _ => ?_)
  · exact key (fun h => h) (by omega)
  have hbt : bt C.1 (i : Int) = (x.toNat : Int) := by rw [qK _ i (by omega), hb, hx]
  refine Ev.step (fun k => by rw [bS.l0]) (aU (by omega) (aU (by omega) ?_))
  rw [hbt, dP hi (by omega), List.all_cons]
  refine bL (fun c => ?_) (fun c => bL (fun c2 => ?_) (fun c2 => ?_))
  · have ok : okW x = false := decide_eq_false (by omega)
    rw [ok]; exact aZ rfl
  · have ok : okW x = false := decide_eq_false (by omega)
    rw [ok]; exact aZ rfl
  · have ok : okW x = true := decide_eq_true (by omega)
    rw [ok, Bool.true_and]
    exact ih (fun q => h (by rw [List.all_cons, ok, Bool.true_and]; exact q)) (by omega)
theorem vU (s : ByteArray) (hs : s.size ≤ 1048576) : Ev (fun k => fD.f k s) (tF (wsp (iW 35 s.data.toList ++ [32]) [] [])) := by
  unfold fD.f
  rw [aGK]
  refine Ev.bind (xI s hs) ?_
  generalize (if (iW 35 s.data.toList).all okW = true then goP (pcs 32 (iW 35 s.data.toList)) [] else none) = o
  cases o with
  | none => exact cB (by decide) (aZ rfl)
  | some o =>
    refine aU rfl (bL (fun c => aZ ?_) (fun c => aZ ?_))
    · show _ = tF (some o)
      have c : (o.length : Int) > 16 := c
      unfold tF; simp only; rw [if_pos (by omega)]
    · show _ = tF (some o)
      have c : ¬ (o.length : Int) > 16 := c
      unfold tF; simp only; rw [if_neg (by omega)]; rfl
/-! ### lines -/
def mC : List UInt8 → List UInt8 → List ByteArray
  | cur, [] => if cur = [] then [] else [mkB cur]
  | cur, b :: r => if b = 10 then mkB cur :: mC [] r else mC (cur ++ [b]) r
def dl : List (List UInt8) → List ByteArray
  | [] => []
  | [p] => if p = [] then [] else [mkB p]
  | p :: q :: r => mkB p :: dl (q :: r)
theorem vS : ∀ (l cur : List UInt8), mC cur l = dl ((cur ++ (pcs 10 l).headD []) :: (pcs 10 l).tail)
  | [], cur => by simp [mC, pcs, dl]
  | b :: l, cur => by
    by_cases h : b = 10
    · subst h
      have ih := vS l []
      have hne := tO 10 l
      cases hp : pcs 10 l with
      | nil => exact absurd hp hne
      | cons p ps =>
        rw [hp] at ih
        simp only [List.headD_cons, List.tail_cons, List.nil_append] at ih
        simp [mC, pcs, hp, dl, ih]
    · have ih := vS l (cur ++ [b])
      simp only [mC, pcs, if_neg h, List.headD_cons, List.tail_cons]
      rw [ih]; simp
theorem aET (l : List UInt8) : mC [] l = dl (pcs 10 l) := by
  have h := vS l []
  have hne := tO 10 l
  cases hp : pcs 10 l with
  | nil => exact absurd hp hne
  | cons p ps => rw [hp] at h; simpa using h
theorem aAJ : ∀ (ws : List ByteArray), ws ≠ [] → dl (ws.map fun x => x.data.toList) = if ws.getD (ws.length - 1) ByteArray.empty = (⟨#[]⟩ : ByteArray) then ws.take (ws.length - 1) else ws
  | [], h => absurd rfl h
  | [x], _ => by
    simp only [List.map_cons, List.map_nil, dl, List.length_cons, List.length_nil]
    by_cases h : x = (⟨#[]⟩ : ByteArray)
    · subst h; simp
    · have : ¬ x.data.toList = [] := fun e => h (by rw [← kD x, e]; rfl)
      simp [this, h, kD]
  | x :: y :: r, _ => by
    have ih := aAJ (y :: r) (by simp)
    simp only [List.map_cons] at ih ⊢
    rw [dl, ih, kD]
    have e1 : (x :: y :: r).length - 1 = (y :: r).length - 1 + 1 := by simp
    rw [e1, List.getD_cons_succ, List.take_succ_cons]
    split <;> rfl
theorem xE (s : ByteArray) (hs : s.size ≤ 1048576) : Ev (fun _ => gQ.f s) (mC [] s.data.toList) := by
  unfold gQ.f
  have eS : strings_Split.f s (⟨#[10]⟩ : ByteArray) = some (iE s (⟨#[10]⟩ : ByteArray)) := by
    unfold strings_Split.f qD; rw [if_pos ⟨by omega, by decide⟩]
  refine pK eS ?_
  have hm := tH s 10
  have hlen : (iE s (⟨#[10]⟩ : ByteArray)).length ≤ 4294967296 := by
    have h1 := Lib.splitB_length_le (⟨#[10]⟩ : ByteArray) 0 (Lib.countB s (⟨#[10]⟩ : ByteArray)) s
    have h2 := Lib.countB_le (⟨#[10]⟩ : ByteArray) (by decide) s.size s (Nat.le_refl _)
    unfold iE; omega
  rw [aET, ← hm]
  have hne : iE s (⟨#[10]⟩ : ByteArray) ≠ [] := fun e => by rw [e] at hm; exact tO 10 _ hm.symm
  generalize iE s (⟨#[10]⟩ : ByteArray) = ws at *
  rw [aAJ ws hne]
  have hpos := List.length_pos_iff.2 hne
  have hw : wrap64 ((ws.length : Int) - 1) = ((ws.length - 1 : Nat) : Int) := by rw [w64 (by omega) (by omega)]; omega
  rw [hw, fH]
  refine aU (by omega) (aU (by omega) (bL (fun c => ?_) (fun c => ?_)))
  · rw [if_pos (dF.1 c), Int.toNat_natCast]
    exact aU (by omega) (aZ rfl)
  · rw [if_neg (fun e => c (dF.2 e))]; exact aZ rfl
/-- each line is no longer than the text -/
theorem tR : ∀ (l cur : List UInt8), ∀ x ∈ mC cur l, x.size ≤ cur.length + l.length
  | [], cur, x, hx => by
    unfold mC at hx
    split at hx
    · cases hx
    · rw [List.mem_singleton] at hx; subst hx; rw [pU]; simp
  | b :: l, cur, x, hx => by
    unfold mC at hx
    split at hx
    · rcases List.mem_cons.1 hx with rfl | hx
      · rw [pU]; simp
      · have := tR l [] x hx; simp at this ⊢; omega
    · have := tR l (cur ++ [b]) x hx; simp at this ⊢; omega
/-! ### numbers, read -/
def mX : List UInt8 → Int → Option Int
  | [], n => some n
  | b :: r, n => if 48 ≤ b.toNat ∧ b.toNat ≤ 57 then mX r (10 * n + ((b.toNat : Int) - 48)) else none
theorem xH : ∀ (r : List UInt8) (n v : Int), 0 ≤ n → mX r n = some v → 0 ≤ v
  | [], n, v, h0, h => by injection h with h; omega
  | b :: r, n, v, h0, h => by
    rw [mX] at h
    split at h
    · exact xH r _ v (by omega) h
    · cases h
def mY (s : ByteArray) : Int := if 1 ≤ s.size ∧ s.size ≤ 4 then (if s.size > 1 ∧ s.data.toList.getD 0 0 = 48 then -1 else (mX s.data.toList 0).getD (-1)) else -1
def aCI : Option Int → Int × Bool
  | some v => (v, true)
  | none => (0, false)
def aCD (s : ByteArray) : Int × Bool := if 0 ≤ mY s then (mY s, true) else (0, false)
def mL (i : Nat) (n : Int) : Prop := 0 ≤ n ∧ n ≤ 9999 ∧ (i = 0 → n ≤ 0) ∧ (i = 1 → n ≤ 9) ∧ (i = 2 → n ≤ 99) ∧ (i = 3 → n ≤ 999)
theorem pY {i : Nat} {n : Int} (h : mL i n) (hi : i < 4) {c : Nat} (h0 : 48 ≤ c) (h1 : c ≤ 57) : mL (i + 1) (10 * n + ((c : Int) - 48)) := by
  obtain ⟨a, b, c0, c1, c2, c3⟩ := h
  unfold mL; omega
theorem aIQ {b : UInt8} : b = 48 ↔ b.toNat = 48 := ⟨fun h => by subst h; rfl, fun h => UInt8.toNat_inj.1 (by rw [h]; rfl)⟩
theorem aJF (c : Int) (h0 : 48 ≤ c) (h1 : c ≤ 57) : IntKind.wrap .u8 (c - 48) = c - 48 := by
  have : c = 48 ∨ c = 49 ∨ c = 50 ∨ c = 51 ∨ c = 52 ∨ c = 53 ∨ c = 54 ∨ c = 55 ∨ c = 56 ∨ c = 57 := by omega
  rcases this with rfl | rfl | rfl | rfl | rfl | rfl | rfl | rfl | rfl | rfl <;> decide +kernel
theorem aLU (s : ByteArray) (hs : s.size ≤ 4) : Ev (fun k => bZ.l0 k s 0 0) (aCI (mX s.data.toList 0)) := by
  have hl := mT s
  have key := eQ (0 : UInt8) s.data.toList (P := fun i r => ∀ n : Int, mL i n → Ev (fun k => bZ.l0 k s n (i : Int)) (aCI (mX r n)))
    (fun n _ => by refine Ev.step (fun k => by rw [bZ.l0]) ?_; exact cB (by omega) (aZ rfl)) (fun i x r hi hx hm _ ih n hn => ?_)
  · exact key 0 (by unfold mL; omega)
  have hx8 := aIX x
  refine Ev.step (fun k => by rw [bZ.l0]) (aU (by omega) (aU (by omega) ?_))
  rw [qK s i (by omega), hx, dP hi (by omega), mX]
  refine bL (fun c => ?_) (fun c => bL (fun c2 => ?_) (fun c2 => ?_))
  · rw [if_neg (by omega)]; exact aZ rfl
  · rw [if_neg (by omega)]; exact aZ rfl
  · rw [if_pos ⟨by omega, by omega⟩]
    have hn' := pY hn (by omega) (c := x.toNat) (by omega) (by omega)
    obtain ⟨a, b, _⟩ := hn
    rw [aJF _ (by omega) (by omega), w64 (x := 10 * n) (by omega) (by omega), w64 (x := (x.toNat : Int) - 48) (by omega) (by omega), w64 (x := 10 * n + ((x.toNat : Int) - 48)) (by omega) (by omega)]
    exact ih _ hn'
theorem aLV (s : ByteArray) (hs : s.size ≤ 4) : Ev (fun k => bZ.l1 k s 0 0) (aCI (mX s.data.toList 0)) := by
  have hl := mT s
  have key := eQ (0 : UInt8) s.data.toList (P := fun i r => ∀ n : Int, mL i n → Ev (fun k => bZ.l1 k s n (i : Int)) (aCI (mX r n)))
    (fun n _ => by refine Ev.step (fun k => by rw [bZ.l1]) ?_; exact cB (by omega) (aZ rfl)) (fun i x r hi hx hm _ ih n hn => ?_)
  · exact key 0 (by unfold mL; omega)
  have hx8 := aIX x
  refine Ev.step (fun k => by rw [bZ.l1]) (aU (by omega) (aU (by omega) ?_))
  rw [qK s i (by omega), hx, dP hi (by omega), mX]
  refine bL (fun c => ?_) (fun c => bL (fun c2 => ?_) (fun c2 => ?_))
  · rw [if_neg (by omega)]; exact aZ rfl
  · rw [if_neg (by omega)]; exact aZ rfl
  · rw [if_pos ⟨by omega, by omega⟩]
    have hn' := pY hn (by omega) (c := x.toNat) (by omega) (by omega)
    obtain ⟨a, b, _⟩ := hn
    rw [aJF _ (by omega) (by omega), w64 (x := 10 * n) (by omega) (by omega), w64 (x := (x.toNat : Int) - 48) (by omega) (by omega), w64 (x := 10 * n + ((x.toNat : Int) - 48)) (by omega) (by omega)]
    exact ih _ hn'
theorem xC (o : Option Int) (h : ∀ v, o = some v → 0 ≤ v) : aCI o = if 0 ≤ o.getD (-1) then (o.getD (-1), true) else (0, false) := by
  cases o with
  | none => rfl
  | some v => have := h v rfl; simp [aCI, this]
theorem aJQ (s : ByteArray) : Ev (fun k => bZ.f k s) (aCD s) := by
  unfold bZ.f aCD mY
  have hp : ∀ v, mX s.data.toList 0 = some v → 0 ≤ v := fun v h => xH _ _ _ (by omega) h
  refine bL (fun c => ?_) (fun c => bL (fun c1 => ?_) (fun c1 => ?_))
  · rw [if_neg (by omega)]; exact aZ rfl
  · rw [if_neg (by omega)]; exact aZ rfl
  · rw [if_pos (show 1 ≤ s.size ∧ s.size ≤ 4 by omega)]
    refine bL (fun c2 => aU (by omega) ?_) (fun c2 => ?_)
    · have hb : bt s 0 = ((s.data.toList.getD 0 0).toNat : Int) := qK s 0 (by omega)
      rw [hb]
      refine bL (fun c3 => ?_) (fun c3 => ?_)
      · have e : (if s.size > 1 ∧ s.data.toList.getD 0 0 = 48 then (-1 : Int) else (mX s.data.toList 0).getD (-1)) = -1 := if_pos ⟨by omega, aIQ.2 (by omega)⟩
        rw [e]; exact aZ (by simp)
      · have e : (if s.size > 1 ∧ s.data.toList.getD 0 0 = 48 then (-1 : Int) else (mX s.data.toList 0).getD (-1)) = (mX s.data.toList 0).getD (-1) := if_neg (fun q => c3 (by rw [aIQ.1 q.2]; rfl))
        rw [e, ← xC _ hp]; exact aLU s (by omega)
    · have e : (if s.size > 1 ∧ s.data.toList.getD 0 0 = 48 then (-1 : Int) else (mX s.data.toList 0).getD (-1)) = (mX s.data.toList 0).getD (-1) := if_neg (fun q => by omega)
      rw [e, ← xC _ hp]; exact aLV s (by omega)
theorem aBG {s : ByteArray} : (aCD s).2 = true ↔ 0 ≤ mY s := by
  unfold aCD
  split <;> simp_all
theorem aGT {s : ByteArray} (h : 0 ≤ mY s) : (aCD s).1 = mY s := by unfold aCD; rw [if_pos h]
/-! ### words, written one by one -/
def oX (w : List UInt8) : Prop := w ≠ [] ∧ w.length ≤ 24 ∧ ∀ b ∈ w, (33 ≤ b.toNat ∧ b.toNat ≤ 126) ∧ b ≠ 35
theorem sP : ∀ (w rest cur : List UInt8) (out : List ByteArray), (∀ b ∈ w, 33 ≤ b.toNat ∧ b.toNat ≤ 126) → cur.length + w.length ≤ 24 → wsp (w ++ rest) cur out = wsp rest (cur ++ w) out
  | [], rest, cur, out, _, _ => by simp
  | b :: w, rest, cur, out, h, hl => by
    have hb := h b (List.mem_cons_self ..)
    simp only [List.length_cons] at hl
    rw [List.cons_append, wsp, if_neg (fun e => by rw [aIT] at e; omega), if_pos ⟨hb, by omega⟩, sP w rest (cur ++ [b]) out (fun x hx => h x (List.mem_cons_of_mem _ hx)) (by simp; omega)]
    simp
def spc : List ByteArray → List UInt8
  | [] => []
  | w :: r => 32 :: (w.data.toList ++ spc r)
def jn : List ByteArray → List UInt8
  | [] => []
  | w :: r => w.data.toList ++ spc r
theorem xU : ∀ (ws : List ByteArray) (cur : List UInt8) (out : List ByteArray), cur ≠ [] → (∀ w ∈ ws, oX w.data.toList) → wsp (spc ws ++ [32]) cur out = some (out ++ [mkB cur] ++ ws)
  | [], cur, out, hc, _ => by simp [spc, wsp, hc]
  | w :: r, cur, out, hc, h => by
    obtain ⟨g1, g2, g3⟩ := h w (List.mem_cons_self ..)
    have ih := xU r w.data.toList (out ++ [mkB cur]) g1 (fun x hx => h x (List.mem_cons_of_mem _ hx))
    rw [kD] at ih
    have key := sP w.data.toList (spc r ++ [32]) [] (out ++ [mkB cur]) (fun b hb => (g3 b hb).1) (by simpa using g2)
    rw [spc, List.cons_append, wsp, if_pos rfl, List.append_assoc, if_neg hc, key, List.nil_append, ih]
    simp
theorem aJU : ∀ (ws : List ByteArray), ws ≠ [] → (∀ w ∈ ws, oX w.data.toList) → wsp (jn ws ++ [32]) [] [] = some ws
  | [], h, _ => absurd rfl h
  | w :: r, _, h => by
    obtain ⟨g1, g2, g3⟩ := h w (List.mem_cons_self ..)
    rw [jn, List.append_assoc, sP w.data.toList _ [] [] (fun b hb => (g3 b hb).1) (by simpa using g2), List.nil_append, xU r _ _ g1 (fun x hx => h x (List.mem_cons_of_mem _ hx)), kD]
    rfl
theorem aFD : ∀ ws : List ByteArray, (∀ w ∈ ws, oX w.data.toList) → ∀ x ∈ spc ws, x ≠ 35 ∧ x ≠ 10
  | [], _, x, hx => by simp [spc] at hx
  | w :: r, h, x, hx => by
    rw [spc] at hx
    rcases List.mem_cons.1 hx with rfl | hx
    · decide
    · rcases List.mem_append.1 hx with hx | hx
      · have := (h w (List.mem_cons_self ..)).2.2 x hx
        exact ⟨this.2, fun e => by subst e; have := this.1.1; revert this; decide⟩
      · exact aFD r (fun y hy => h y (List.mem_cons_of_mem _ hy)) x hx
theorem aJO : ∀ ws : List ByteArray, (∀ w ∈ ws, oX w.data.toList) → ∀ x ∈ jn ws, x ≠ 35 ∧ x ≠ 10
  | [], _, x, hx => by simp [jn] at hx
  | w :: r, h, x, hx => by
    rw [jn] at hx
    rcases List.mem_append.1 hx with hx | hx
    · have := (h w (List.mem_cons_self ..)).2.2 x hx
      exact ⟨this.2, fun e => by subst e; have := this.1.1; revert this; decide⟩
    · exact aFD r (fun y hy => h y (List.mem_cons_of_mem _ hy)) x hx
theorem aAZ : ∀ ws : List ByteArray, (∀ w ∈ ws, oX w.data.toList) → (spc ws).length ≤ 25 * ws.length
  | [], _ => by simp [spc]
  | w :: r, h => by
    have h1 := (h w (List.mem_cons_self ..)).2.1
    have h2 := aAZ r (fun y hy => h y (List.mem_cons_of_mem _ hy))
    simp only [spc, List.length_cons, List.length_append]; omega
theorem aKR (ws : List ByteArray) (h : ∀ w ∈ ws, oX w.data.toList) : (jn ws).length ≤ 25 * ws.length := by
  cases ws with
  | nil => simp [jn]
  | cons w r =>
    have h1 := (h w (List.mem_cons_self ..)).2.1
    have h2 := aAZ r (fun y hy => h y (List.mem_cons_of_mem _ hy))
    simp only [jn, List.length_cons, List.length_append]; omega
theorem uT : ∀ (a : List UInt8) (c : UInt8), (∀ x ∈ a, x ≠ c) → iW c a = a
  | [], c, _ => by simp [iW]
  | x :: a, c, h => by rw [iW, if_neg (h x (List.mem_cons_self ..)), uT a c (fun y hy => h y (List.mem_cons_of_mem _ hy))]
theorem gV {s : ByteArray} (h : dT s = true) : oX s.data.toList := by
  unfold dT at h
  rw [Bool.and_eq_true, decide_eq_true_iff] at h
  obtain ⟨h1, h2⟩ := h
  have hl := mT s
  refine ⟨fun e => by rw [e] at hl; simp at hl; omega, by omega, fun b hb => ?_⟩
  obtain ⟨i, hi, rfl⟩ := List.getElem_of_mem hb
  have h3 := of_decide_eq_true h2 i (by omega) (Nat.zero_le _)
  rw [qK s i (by omega), kT _ _ _ hi] at h3
  generalize s.data.toList[i] = b at *
  have : (97 ≤ (b.toNat : Int) ∧ (b.toNat : Int) ≤ 122) ∨ (48 ≤ (b.toNat : Int) ∧ (b.toNat : Int) ≤ 57) ∨ (b.toNat : Int) = 45 := by
    simp [okc] at h3; omega
  exact ⟨by omega, fun e => by rw [e] at this; revert this; decide⟩
/-! ### numbers, written and read -/
def dgt (k : Nat) : UInt8 := UInt8.ofNat (48 + k)
theorem wH {k : Nat} (h : k < 10) : (dgt k).toNat = 48 + k := by
  unfold dgt
  rw [UInt8.toNat_ofNat']; omega
def xV : List Nat → Int → Int
  | [], a => a
  | k :: ks, a => xV ks (10 * a + (k : Int))
theorem dd (n : Nat) (h : n < 10000) : ∃ ks : List Nat, (∀ k ∈ ks, k < 10) ∧ 1 ≤ ks.length ∧ ks.length ≤ 4 ∧ (ks.length > 1 → ks.getD 0 0 ≠ 0) ∧ Lib.decDigits n = ks.map dgt ∧ xV ks 0 = (n : Int) := by
  by_cases c1 : n < 10
  · exact ⟨[n], by simp; omega, by simp, by simp, by simp, by rw [kZ c1]; rfl, by simp [xV]⟩
  rw [qH c1]
  by_cases c2 : n / 10 < 10
  · exact ⟨[n / 10, n % 10], by simp; omega, by simp, by simp, by simp; omega, by rw [kZ c2]; rfl, by simp [xV]; omega⟩
  rw [qH c2]
  by_cases c3 : n / 10 / 10 < 10
  · exact ⟨[n / 10 / 10, n / 10 % 10, n % 10], by simp; omega, by simp, by simp, by simp; omega, by rw [kZ c3]; rfl, by simp [xV]; omega⟩
  rw [qH c3, kZ (by omega : n / 10 / 10 / 10 < 10)]
  exact ⟨[n / 10 / 10 / 10, n / 10 / 10 % 10, n / 10 % 10, n % 10], by simp; omega, by simp, by simp, by simp; omega, rfl, by simp [xV]; omega⟩
theorem xJ : ∀ (ks : List Nat) (a : Int), (∀ k ∈ ks, k < 10) → mX (ks.map dgt) a = some (xV ks a)
  | [], a, _ => rfl
  | k :: ks, a, h => by
    have hk := wH (h k (List.mem_cons_self ..))
    have hk10 := h k (List.mem_cons_self ..)
    rw [List.map_cons, mX, hk, if_pos (by omega), xJ ks _ (fun x hx => h x (List.mem_cons_of_mem _ hx)), xV]
    congr 2; omega
theorem aBI {n : Int} (h0 : 0 ≤ n) (h1 : n < 10000) : mY (lK n) = n ∧ oX (lK n).data.toList := by
  obtain ⟨ks, k1, k2, k3, k4, k5, k6⟩ := dd n.toNat (by omega)
  have e : (lK n).data.toList = ks.map dgt := by rw [← k5]; simp [lK]
  have hs : (lK n).size = ks.length := by rw [← mT, e, List.length_map]
  constructor
  · unfold mY
    rw [hs, if_pos ⟨k2, k3⟩, e]
    rw [if_neg, xJ ks 0 k1, k6]
    · simp; omega
    · rintro ⟨q1, q2⟩
      have := k4 q1
      have hk := wH (k1 _ (jN 0 ks 0 (by omega)))
      rw [kT _ _ _ (by rw [List.length_map]; omega), List.getElem_map, ← kT 0 ks 0 (by omega)] at q2
      rw [q2] at hk
      have e48 : (48 : UInt8).toNat = 48 := rfl
      omega
  · rw [e]
    refine ⟨fun q => by simp at q; rw [q] at k2; simp at k2, by rw [List.length_map]; omega, fun b hb => ?_⟩
    obtain ⟨k, hk, rfl⟩ := List.mem_map.1 hb
    have hd := wH (k1 k hk)
    have hk10 := k1 k hk
    exact ⟨by omega, fun q => by rw [q] at hd; have e35 : (35 : UInt8).toNat = 35 := rfl; omega⟩
/-! ### what a line says, and what it puts into a plant -/
def gw (l : List ByteArray) (i : Nat) : ByteArray := l.getD i ByteArray.empty
def fK : ByteArray := (⟨#[115, 116, 117, 102, 102]⟩ : ByteArray)
def jM : ByteArray := (⟨#[102, 111, 101]⟩ : ByteArray)
def dZ : ByteArray := (⟨#[118, 101, 115, 115, 101, 108]⟩ : ByteArray)
def fB : ByteArray := (⟨#[106, 111, 105, 110, 116]⟩ : ByteArray)
def eT : ByteArray := (⟨#[118, 97, 108, 118, 101]⟩ : ByteArray)
/-- one more, ahead of the first that is not less -/
def lY {α : Type} (p : α → α → Bool) (x : α) : List α → List α
  | [] => [x]
  | y :: r => if p y x = true then y :: lY p x r else x :: y :: r
theorem oF {α : Type} (p : α → α → Bool) (x : α) : ∀ l : List α, (lY p x l).Perm (x :: l)
  | [] => List.Perm.refl _
  | y :: r => by
    unfold lY
    split
    · exact ((oF p x r).cons y).trans (List.Perm.swap x y r)
    · exact List.Perm.refl _
theorem kF {α : Type} (p : α → α → Bool) (x z : α) (l : List α) : z ∈ lY p x l ↔ z = x ∨ z ∈ l := by
  rw [(oF p x l).mem_iff, List.mem_cons]
theorem qJ {α : Type} (p : α → α → Bool) (x : α) (l : List α) : (lY p x l).length = l.length + 1 := (oF p x l).length_eq
theorem oC {α : Type} {p : α → α → Bool} (ht : ∀ x y z, p x y = true → p y z = true → p x z = true) (x : α) : ∀ l : List α, (l.Pairwise fun a b => p a b = true) → (∀ y ∈ l, p y x = true ∨ p x y = true) → (lY p x l).Pairwise fun a b => p a b = true
  | [], _, _ => List.pairwise_singleton _ _
  | y :: r, h, hx => by
    obtain ⟨h1, h2⟩ := List.pairwise_cons.1 h
    unfold lY
    split
    · rename_i c
      refine List.pairwise_cons.2 ⟨fun z hz => ?_, oC ht x r h2 (fun z hz => hx z (List.mem_cons_of_mem _ hz))⟩
      rcases (kF p x z r).1 hz with rfl | hz
      · exact c
      · exact h1 z hz
    · rename_i c
      have hxy := (hx y (List.mem_cons_self ..)).resolve_left c
      refine List.pairwise_cons.2 ⟨fun z hz => ?_, h⟩
      rcases List.mem_cons.1 hz with rfl | hz
      · exact hxy
      · exact ht _ _ _ hxy (h1 z hz)
theorem aFS {α : Type} {p : α → α → Bool} : ∀ {l : List α}, (l.Pairwise fun a b => p a b = true) → ∀ a ∈ l, ∀ b ∈ l, p a b = true ∨ a = b ∨ p b a = true
  | [], _, a, ha, _, _ => by cases ha
  | x :: l, h, a, ha, b, hb => by
    obtain ⟨h1, h2⟩ := List.pairwise_cons.1 h
    rcases List.mem_cons.1 ha with e | ha'
    · rcases List.mem_cons.1 hb with e2 | hb'
      · exact .inr (.inl (e.trans e2.symm))
      · exact .inl (e ▸ h1 b hb')
    · rcases List.mem_cons.1 hb with e2 | hb'
      · exact .inr (.inr (e2 ▸ h1 a ha'))
      · exact aFS h2 a ha' b hb'
theorem nJ {α : Type} {p : α → α → Bool} : ∀ (r : List α) (y : α), (∀ x ∈ r, p y x = true) → (r.Pairwise fun a b => p a b = true) → cT p (some y) r = true
  | [], _, _, _ => rfl
  | x :: r, y, h, hp => by
    obtain ⟨h1, h2⟩ := List.pairwise_cons.1 hp
    show (p y x && cT p (some x) r) = true
    rw [h x (List.mem_cons_self ..), nJ r x h1 h2]; rfl
theorem pT {α : Type} {p : α → α → Bool} (l : List α) (h : l.Pairwise fun a b => p a b = true) : cT p none l = true := by
  cases l with
  | nil => rfl
  | cons x r => obtain ⟨h1, h2⟩ := List.pairwise_cons.1 h; exact nJ r x h1 h2
def gY (f : List aC) (a b : ByteArray) : Bool := f.any fun x => (decide (x.f0 = a) && decide (x.f1 = b)) || (decide (x.f0 = b) && decide (x.f1 = a))
def kE (v : List aA) (a : ByteArray) : Bool := v.any fun x => decide (x.f0 = a)
def sG (a b : ByteArray) : aC := ⟨mnS a b, mxS a b⟩
def aDD (s : List ByteArray) (f : List aC) (p : List aB) (v : List aA) (a : ByteArray) : PC :=
  if iM s a = true then (s, f, p, v, 4) else if 8 ≤ s.length then (s, f, p, v, 6) else (lY lt a s, f, p, v, 0)
def aCR (s : List ByteArray) (f : List aC) (p : List aB) (v : List aA) (a b : ByteArray) : PC :=
  if a = b then (s, f, p, v, 3) else if gY f a b = true then (s, f, p, v, 4) else if iM s a = true ∧ iM s b = true then (if 12 ≤ f.length then (s, f, p, v, 6) else (s, lY gW (sG a b) f, p, v, 0)) else (s, f, p, v, 5)
def oR (s : List ByteArray) (f : List aC) (p : List aB) (v : List aA) (x : aB) : PC :=
  if dU p x.f0 = true then (s, f, p, v, 4) else if 14 ≤ p.length then (s, f, p, v, 6) else (s, f, lY eU x p, v, 0)
def aCM (s : List ByteArray) (f : List aC) (p : List aB) (v : List aA) (a b c d : ByteArray) : PC :=
  if b = c then (s, f, p, v, 3) else if kE v a = true then (s, f, p, v, 4) else if dU p b = true ∧ dU p c = true then (if 18 ≤ v.length then (s, f, p, v, 6) else (s, f, p, lY fC ⟨a, mnS b c, mxS b c, d⟩ v, 0)) else (s, f, p, v, 5)
/-- a line, put into a plant; the code behind it -/
def put (s : List ByteArray) (f : List aC) (p : List aB) (v : List aA) (ws : List ByteArray) : PC :=
  if gw ws 0 = fK then (if ws.length = 2 ∧ dT (gw ws 1) = true then aDD s f p v (gw ws 1) else (s, f, p, v, 3))
  else if gw ws 0 = jM then (if ws.length = 3 ∧ dT (gw ws 1) = true ∧ dT (gw ws 2) = true then aCR s f p v (gw ws 1) (gw ws 2) else (s, f, p, v, 3))
  else if gw ws 0 = dZ then (if ws.length = 4 ∧ dT (gw ws 1) = true ∧ (1 ≤ mY (gw ws 2) ∧ mY (gw ws 2) ≤ 1000) ∧ dT (gw ws 3) = true then oR s f p v ⟨gw ws 1, mY (gw ws 2), gw ws 3⟩ else (s, f, p, v, 3))
  else if gw ws 0 = fB then (if ws.length = 3 ∧ dT (gw ws 1) = true ∧ dT (gw ws 2) = true then oR s f p v ⟨gw ws 1, 0, gw ws 2⟩ else (s, f, p, v, 3))
  else if gw ws 0 = eT then (if ws.length = 5 ∧ dT (gw ws 1) = true ∧ dT (gw ws 2) = true ∧ dT (gw ws 3) = true ∧ dT (gw ws 4) = true then aCM s f p v (gw ws 1) (gw ws 2) (gw ws 3) (gw ws 4) else (s, f, p, v, 3))
  else (s, f, p, v, 2)
theorem nE {a b : ByteArray} (h : a ≠ b) : lt (mnS a b) (mxS a b) = true ∧ ((mnS a b = a ∧ mxS a b = b) ∨ (mnS a b = b ∧ mxS a b = a)) := by
  unfold mnS mxS
  rcases nC a b with c | c | c
  · have d := mM c
    unfold lt at c d ⊢
    rw [c, d]
    simp [c]
  · exact absurd c h
  · have d := mM c
    unfold lt at c d ⊢
    rw [c, d]
    simp [c]
theorem rX (a : ByteArray) : mnS a a = a ∧ mxS a a = a := by unfold mnS mxS; constructor <;> split <;> rfl
theorem ltT (x y z : ByteArray) (h : lt x y = true) (k : lt y z = true) : lt x z = true := lt_trans h k
theorem lU (x y z : aB) (h : eU x y = true) (k : eU y z = true) : eU x z = true := ltT _ _ _ h k
theorem lW (x y z : aA) (h : fC x y = true) (k : fC y z = true) : fC x z = true := ltT _ _ _ h k
theorem nS (x y z : aC) (h : gW x y = true) (k : gW y z = true) : gW x z = true := by
  unfold gW qZ at *
  simp only [Bool.or_eq_true, Bool.and_eq_true, decide_eq_true_eq] at *
  rcases h with h | ⟨h, h'⟩
  · rcases k with k | ⟨k, _⟩
    · exact .inl (lt_trans h k)
    · exact .inl (k ▸ h)
  · rcases k with k | ⟨k, k'⟩
    · exact .inl (h ▸ k)
    · exact .inr ⟨h.trans k, lt_trans h' k'⟩
theorem aDH (x y : aC) (h : ¬ (x.f0 = y.f0 ∧ x.f1 = y.f1)) : gW x y = true ∨ gW y x = true := by
  unfold gW qZ
  simp only [Bool.or_eq_true, Bool.and_eq_true, decide_eq_true_eq]
  rcases nC x.f0 y.f0 with c | c | c
  · exact .inl (.inl c)
  · rcases nC x.f1 y.f1 with d | d | d
    · exact .inl (.inr ⟨c, d⟩)
    · exact absurd ⟨c, d⟩ h
    · exact .inr (.inr ⟨c.symm, d⟩)
  · exact .inr (.inl c)
/-! ### a valid plant, with one more -/
structure Vd (s : List ByteArray) (f : List aC) (p : List aB) (v : List aA) : Prop where
  ls : s.length ≤ 8
  lf : f.length ≤ 12
  lp : p.length ≤ 14
  lv : v.length ≤ 18
  s1 : ∀ x ∈ s, dT x = true
  s2 : s.Pairwise fun x y => lt x y = true
  f1 : ∀ x ∈ f, oS s x = true
  f2 : f.Pairwise fun x y => gW x y = true
  p1 : ∀ x ∈ p, gP x = true
  p2 : p.Pairwise fun x y => eU x y = true
  v1 : ∀ x ∈ v, iH p x = true
  v2 : v.Pairwise fun x y => fC x y = true
theorem wA {s : List ByteArray} {f : List aC} {p : List aB} {v : List aA} : iR s f p v = true ↔ Vd s f p v := by
  constructor
  · intro h
    simp only [iR, jS, nP, kC, jB, Bool.and_eq_true, decide_eq_true_eq, List.all_eq_true] at h
    obtain ⟨⟨l1, l2⟩, ⟨⟨n1, n2⟩, f1, f2⟩, ⟨l3, p1, p2⟩, l4, v1, v2⟩ := h
    exact ⟨l1, l2, l3, l4, n1, mG ltT _ n2, f1, mG nS _ f2, p1, mG lU _ p2, v1, mG lW _ v2⟩
  · intro h
    simp only [iR, jS, nP, kC, jB, Bool.and_eq_true, decide_eq_true_eq, List.all_eq_true]
    exact ⟨⟨h.ls, h.lf⟩, ⟨⟨h.s1, pT _ h.s2⟩, h.f1, pT _ h.f2⟩, ⟨h.lp, h.p1, pT _ h.p2⟩, h.lv, h.v1, pT _ h.v2⟩
theorem aKA : Vd [] [] [] [] := wA.1 (by decide)
theorem aII {s : List ByteArray} {a : ByteArray} (h : ¬ iM s a = true) : ∀ y ∈ s, lt y a = true ∨ lt a y = true := fun y hy => by
  rcases nC y a with c | c | c
  · exact .inl c
  · exact absurd (iJ.2 (c ▸ hy)) h
  · exact .inr c
theorem uS {f : List aC} {a b : ByteArray} (hab : a ≠ b) (h : ¬ gY f a b = true) : ∀ y ∈ f, gW y (sG a b) = true ∨ gW (sG a b) y = true := fun y hy => by
  refine aDH _ _ (fun ⟨e1, e2⟩ => h ?_)
  unfold gY
  rw [List.any_eq_true]
  refine ⟨y, hy, ?_⟩
  unfold sG at e1 e2
  dsimp only at e1 e2
  simp only [Bool.or_eq_true, Bool.and_eq_true, decide_eq_true_eq]
  rcases (nE hab).2 with ⟨h1, h2⟩ | ⟨h1, h2⟩
  · exact .inl ⟨e1.trans h1, e2.trans h2⟩
  · exact .inr ⟨e1.trans h1, e2.trans h2⟩
theorem nH {p : List aB} {x : aB} (h : ¬ dU p x.f0 = true) : ∀ y ∈ p, eU y x = true ∨ eU x y = true := fun y hy => by
  rcases nC y.f0 x.f0 with c | c | c
  · exact .inl c
  · exact absurd (List.any_eq_true.2 ⟨y, hy, decide_eq_true c⟩) h
  · exact .inr c
theorem rA {v : List aA} {x : aA} (h : ¬ kE v x.f0 = true) : ∀ y ∈ v, fC y x = true ∨ fC x y = true := fun y hy => by
  rcases nC y.f0 x.f0 with c | c | c
  · exact .inl c
  · exact absurd (List.any_eq_true.2 ⟨y, hy, decide_eq_true c⟩) h
  · exact .inr c
theorem qE {p : List aB} (x : aB) {a : ByteArray} (h : dU p a = true) : dU (lY eU x p) a = true := by
  unfold dU at *
  rw [List.any_eq_true] at *
  obtain ⟨y, hy, e⟩ := h
  exact ⟨y, (kF _ _ _ _).2 (.inr hy), e⟩
theorem aKG {s : List ByteArray} {f : List aC} {p : List aB} {v : List aA} (h : Vd s f p v) (ws : List ByteArray) : Vd (put s f p v ws).1 (put s f p v ws).2.1 (put s f p v ws).2.2.1 (put s f p v ws).2.2.2.1 := by
  have hP : ∀ x : aB, gP x = true → Vd (oR s f p v x).1 (oR s f p v x).2.1 (oR s f p v x).2.2.1 (oR s f p v x).2.2.2.1 := fun x hx => by
    unfold oR
    split
    · exact h
    · rename_i c
      split
      · exact h
      · rename_i d
        refine ⟨h.ls, h.lf, by dsimp only; rw [qJ]; omega, h.lv, h.s1, h.s2, h.f1, h.f2, fun y hy => ?_, oC lU x p h.p2 (nH c), fun y hy => ?_, h.v2⟩
        · rcases (kF _ _ _ _).1 hy with rfl | hy
          · exact hx
          · exact h.p1 y hy
        · have := h.v1 y hy
          simp only [iH, Bool.and_eq_true] at this ⊢
          exact ⟨this.1, this.2.1, qE x this.2.2.1, qE x this.2.2.2.1, this.2.2.2.2⟩
  unfold put
  split
  · split
    · rename_i hn
      unfold aDD
      split
      · exact h
      · rename_i c
        split
        · exact h
        · rename_i d
          refine ⟨by dsimp only; rw [qJ]; omega, h.lf, h.lp, h.lv, fun y hy => ?_, oC ltT _ s h.s2 (aII c), fun y hy => ?_, h.f2, h.p1, h.p2, h.v1, h.v2⟩
          · rcases (kF _ _ _ _).1 hy with rfl | hy
            · exact hn.2
            · exact h.s1 y hy
          · have := h.f1 y hy
            simp only [oS, Bool.and_eq_true, iJ] at this ⊢
            exact ⟨this.1, (kF _ _ _ _).2 (.inr this.2.1), (kF _ _ _ _).2 (.inr this.2.2)⟩
    · exact h
  · split
    · split
      · rename_i hn
        unfold aCR
        split
        · exact h
        · rename_i hab
          split
          · exact h
          · rename_i c
            split
            · rename_i hh
              split
              · exact h
              · rename_i d
                refine ⟨h.ls, by dsimp only; rw [qJ]; omega, h.lp, h.lv, h.s1, h.s2, fun y hy => ?_, oC nS _ f h.f2 (uS hab c), h.p1, h.p2, h.v1, h.v2⟩
                rcases (kF _ _ _ _).1 hy with rfl | hy
                · obtain ⟨g, g2⟩ := nE hab
                  unfold oS sG
                  dsimp only
                  rw [g, Bool.true_and, Bool.and_eq_true]
                  rcases g2 with ⟨g1, g2⟩ | ⟨g1, g2⟩
                  · rw [g1, g2]; exact hh
                  · rw [g1, g2]; exact ⟨hh.2, hh.1⟩
                · exact h.f1 y hy
            · exact h
      · exact h
    · split
      · split
        · rename_i hn
          refine hP _ ?_
          unfold gP
          dsimp only
          rw [hn.2.1, hn.2.2.2, aFM (by omega)]; rfl
        · exact h
      · split
        · split
          · rename_i hn
            refine hP _ ?_
            unfold gP
            dsimp only
            rw [hn.2.1, hn.2.2, aFM (by omega)]; rfl
          · exact h
        · split
          · split
            · rename_i hn
              unfold aCM
              split
              · exact h
              · rename_i hbc
                split
                · exact h
                · rename_i c
                  split
                  · rename_i hh
                    split
                    · exact h
                    · rename_i d
                      refine ⟨h.ls, h.lf, h.lp, by dsimp only; rw [qJ]; omega, h.s1, h.s2, h.f1, h.f2, h.p1, h.p2, fun y hy => ?_, oC lW _ v h.v2 (rA (x := ⟨_, _, _, _⟩) c)⟩
                      rcases (kF _ _ _ _).1 hy with rfl | hy
                      · obtain ⟨g, g2⟩ := nE hbc
                        unfold iH
                        dsimp only
                        rw [g, hn.2.1, hn.2.2.2.2, Bool.true_and, Bool.true_and, Bool.and_true, Bool.and_eq_true]
                        rcases g2 with ⟨g1, g2⟩ | ⟨g1, g2⟩
                        · rw [g1, g2]; exact hh
                        · rw [g1, g2]; exact ⟨hh.2, hh.1⟩
                      · exact h.v1 y hy
                  · exact h
            · exact h
          · exact h
/-! ### a line put, by the program -/
theorem aKP (a b : ByteArray) : (a == b) = decide (a = b) := by
  cases a with | mk a => cases b with | mk b =>
  rw [Bool.eq_iff_iff, decide_eq_true_iff, ByteArray.mk.injEq]
  show (a == b) = true ↔ _
  exact beq_iff_eq
theorem wI {α : Type} [Inhabited α] {p : α → α → Bool} (hO : Go.Sort.SWO p) (ht : ∀ x y z, p x y = true → p y z = true → p x z = true) (hi : ∀ x, p x x = false) (x : α) (l : List α) (h2 : l.Pairwise fun a b => p a b = true) (hx : ∀ y ∈ l, p y x = true ∨ p x y = true) :
    kM p (l ++ [x]) = lY p x l := by
  obtain ⟨_, h, k⟩ := kY hO (l ++ [x])
  have hp := h.trans ((List.perm_append_singleton x l).trans (oF p x l).symm)
  have hw := oC ht x l h2 hx
  refine List.Perm.eq_of_pairwise (le := fun a b => p b a = false) (fun a b ha hb h1 h2 => ?_) k (hw.imp (fun {a b} q => ?_)) hp
  · rcases aFS hw a (hp.mem_iff.1 ha) b hb with q | q | q
    · rw [q] at h2; cases h2
    · exact q
    · rw [q] at h1; cases h1
  · cases c : p b a with
    | false => rfl
    | true => have := ht _ _ _ q c; rw [hi] at this; cases this
theorem tK : qF aC.f0 aC.f1 = gW := by
  funext x y
  unfold qF gW qZ lt
  rw [show ((x.f0).toList == (y.f0).toList) = decide (x.f0 = y.f0) by rw [Bool.eq_iff_iff, beq_iff_eq, decide_eq_true_iff, dF]]
theorem aEK : zK aB.f0 = eU := rfl
theorem aEA : zK aA.f0 = fC := rfl
theorem vE (x : aC) : gW x x = false := by unfold gW qZ; rw [pF, pF]; simp
theorem aEV {f : List aC} (hl : f.length ≤ 1000) (x : aC) (h2 : f.Pairwise fun a b => gW a b = true) (hx : ∀ y ∈ f, gW y x = true ∨ gW x y = true) : dB.f (f ++ [x]) = some (lY gW x f) := by
  unfold dB.f
  rw [if_pos (by rw [List.length_append]; simp; omega)]
  have h := wI (vW aC.f0 aC.f1) (tK ▸ nS) (tK ▸ vE) x f (tK ▸ h2) (tK ▸ hx)
  rw [h, tK]
theorem yE {f : List aB} (hl : f.length ≤ 1000) (x : aB) (h2 : f.Pairwise fun a b => eU a b = true) (hx : ∀ y ∈ f, eU y x = true ∨ eU x y = true) : cU.f (f ++ [x]) = some (lY eU x f) := by
  unfold cU.f
  rw [if_pos (by rw [List.length_append]; simp; omega), aEK]
  exact congrArg some (wI (aEK ▸ qV aB.f0) lU (fun x => pF _) x f h2 hx)
theorem aFH {f : List aA} (hl : f.length ≤ 1000) (x : aA) (h2 : f.Pairwise fun a b => fC a b = true) (hx : ∀ y ∈ f, fC y x = true ∨ fC x y = true) : dA.f (f ++ [x]) = some (lY fC x f) := by
  unfold dA.f
  rw [if_pos (by rw [List.length_append]; simp; omega), aEA]
  exact congrArg some (wI (aEA ▸ qV aA.f0) lW (fun x => pF _) x f h2 hx)
theorem pQ (x : ByteArray) : ∀ l : List ByteArray, (∀ y ∈ l, y ≠ x) → jO x l = lY lt x l
  | [], _ => rfl
  | y :: r, h => by
    unfold jO lY
    rw [pQ x r (fun z hz => h z (List.mem_cons_of_mem _ hz)), if_neg (h y (List.mem_cons_self ..))]
theorem rI (f : List aC) (a b : ByteArray) (hf : f.length ≤ 1000) : Ev (fun k => eH.f k (f.map jU) a b) (gY f a b) := by
  unfold eH.f gY
  have hl : (f.map jU).length = f.length := List.length_map ..
  refine eQ dG f (P := fun i r => Ev (fun k => eH.l0 k (f.map jU) a b (i : Int)) (r.any fun x => (decide (x.f0 = a) && decide (x.f1 = b)) || (decide (x.f0 = b) && decide (x.f1 = a))))
    (by refine Ev.step (fun k => by rw [eH.l0]) ?_; exact cB (by omega) (aZ rfl)) (fun i x r hi hx hm _ ih => ?_)
  refine Ev.step (fun k => by rw [eH.l0]) (aU (by omega) (aU (by omega) ?_))
  rw [dP hi (by omega), aJY, aGS jL dG _ f i hi, hx]
  simp only [jU, dF, Bool.and_true]
  refine gT (fun c => aZ ?_) (fun c => gT (fun d => aZ ?_) (fun d => gJ ih ?_))
  · rw [List.any_cons, c]; rfl
  · rw [List.any_cons, d]; simp
  · rw [List.any_cons, c, d]; rfl
def mP (x : ByteArray) : List aA → ByteArray × ByteArray × ByteArray × ByteArray × Bool
  | [] => ((⟨#[]⟩ : ByteArray), (⟨#[]⟩ : ByteArray), (⟨#[]⟩ : ByteArray), (⟨#[]⟩ : ByteArray), false)
  | y :: r => if y.f0 = x then (y.f0, y.f1, y.f2, y.f3, true) else mP x r
theorem rB (x : ByteArray) : ∀ l : List aA, (mP x l).2.2.2.2 = kE l x
  | [] => rfl
  | y :: r => by
    rw [show kE (y :: r) x = (decide (y.f0 = x) || kE r x) from rfl, ← rB x r, show mP x (y :: r) = if y.f0 = x then (y.f0, y.f1, y.f2, y.f3, true) else mP x r from rfl]
    by_cases c : y.f0 = x
    · rw [if_pos c, decide_eq_true c]; rfl
    · rw [if_neg c, decide_eq_false c]; rfl
theorem aGG (s : List ByteArray) (f : List aC) (p : List aB) (v : List aA) (x : ByteArray) (hv : v.length ≤ 1000) :
    Ev (fun k => cM.f k s f p v x) (mP x v) := by
  unfold cM.f
  refine eQ cW v (P := fun i r => Ev (fun k => cM.l0 k v x (i : Int)) (mP x r))
    (by refine Ev.step (fun k => by rw [cM.l0]) ?_; exact cB (by omega) (aZ rfl)) (fun i y r hi hx _ _ ih => ?_)
  refine Ev.step (fun k => by rw [cM.l0]) (aU (by omega) (aU (by omega) ?_))
  rw [dP hi (by omega), rdV, hx]
  unfold mP
  refine bL (fun c => aZ (by rw [if_pos (dF.1 c)])) (fun c => gJ ih (by rw [if_neg (fun e => c (dF.2 e))]))
/-- the code ahead of the plant -/
def rot (t : PC) : Int × List ByteArray × List aC × List aB × List aA := (t.2.2.2.2, t.1, t.2.1, t.2.2.1, t.2.2.2.1)
theorem vY {A B : Prop} [Decidable A] [Decidable B] {s : List ByteArray} {f : List aC} {p : List aB} {v : List aA} (h : A ↔ B) (x : PC) : (if A then rot x else (3, s, f, p, v)) = rot (if B then x else (s, f, p, v, 3)) := by
  by_cases q : A
  · rw [if_pos q, if_pos (h.1 q)]
  · rw [if_neg q, if_neg (fun z => q (h.2 z))]; rfl
theorem aIF {A B : Prop} [Decidable A] [Decidable B] (h : A ↔ B) (x y : PC) : rot (if A then x else y) = rot (if B then x else y) := by
  by_cases q : A
  · rw [if_pos q, if_pos (h.1 q)]
  · rw [if_neg q, if_neg (fun z => q (h.2 z))]
section
variable {s : List ByteArray} {f : List aC} {p : List aB} {v : List aA} (h : Vd s f p v)
theorem oM (w0 : ByteArray) (hw : w0 ≠ dZ) (us : List ByteArray) (hl : us.length ≤ 1000) (hz : ∀ w ∈ us, w.size ≤ 1000000) (n : Int) {R : Int × List ByteArray × List aC × List aB × List aA}
    (hE : Ev (fun k => cY.l0 k s f p v (w0 :: us) n (us.length : Int)) R) : Ev (fun k => cY.l0 k s f p v (w0 :: us) n 0) (if us.all dT = true then R else (3, s, f, p, v)) := by
  refine eQ ByteArray.empty us (P := fun i r => Ev (fun k => cY.l0 k s f p v (w0 :: us) n (i : Int)) (if r.all dT = true then R else (3, s, f, p, v))) ?_ (fun i x r hi hx hm _ ih => ?_)
  · exact gJ hE (by rw [List.all_nil, if_pos rfl])
  refine Ev.step (fun k => by rw [cY.l0]) ?_
  refine aU (by show (i : Int) < ((us.length + 1 - 1 : Nat) : Int); omega) (aU (by omega) (cB (fun e => hw (dF.1 e)) ?_))
  rw [show (w0 :: us).drop (1 : Int).toNat = us from rfl, fH, hx, dP hi (by omega)]
  refine Ev.bind (eV x (by have := hz x hm; omega)) (gT (fun c => gJ ih ?_) (fun c => aZ ?_))
  · rw [List.all_cons, c, Bool.true_and]
  · rw [List.all_cons, c, Bool.false_and, if_neg (by simp)]
include h
theorem aLK (a : ByteArray) : Ev (fun k => cY.l0 k s f p v [fK, a] 0 1) (rot (aDD s f p v a)) := by
  have hl := h.ls
  refine Ev.step (fun k => by rw [cY.l0]) ?_
  refine cB (show ¬ (1 : Int) < 1 by omega) (aU rfl (aU (show (1 : Int) < 2 by omega) ?_))
  rw [show aV ByteArray.empty [fK, a] 1 = a from rfl]
  unfold aDD
  refine Ev.bind (tC s a (by omega)) (gT (fun c => aZ ?_) (fun c => ?_))
  · rw [if_pos c]; rfl
  · rw [if_neg (show ¬ iM s a = true by rw [c]; simp)]
    refine bL (fun d => aZ ?_) (fun d => ?_)
    · rw [if_pos (by omega)]; rfl
    · rw [if_neg (show ¬ 8 ≤ s.length by omega)]
      refine Ev.bind (aHJ s [a] h.s2 (by simp; omega)) (aZ ?_)
      rw [show yN s [a] = jO a s from rfl, pQ a s (fun y hy e => by rw [iJ.2 (e ▸ hy)] at c; cases c)]; rfl
theorem aLL (a b : ByteArray) : Ev (fun k => cY.l0 k s f p v [jM, a, b] 0 2) (rot (aCR s f p v a b)) := by
  have hl := h.lf
  have hs := h.ls
  refine Ev.step (fun k => by rw [cY.l0]) ?_
  refine cB (show ¬ (2 : Int) < 2 by omega) (cB (fun e => absurd (show jM = fK from dF.1 e) (by decide)) (aU rfl (aU (show (1 : Int) < 3 by omega) (aU (show (2 : Int) < 3 by omega) ?_))))
  rw [show aV ByteArray.empty [jM, a, b] 1 = a from rfl, show aV ByteArray.empty [jM, a, b] 2 = b from rfl]
  unfold aCR
  by_cases hab : a = b
  · subst hab
    rw [if_pos rfl]
    exact aU (by rw [(rX a).1, (rX a).2]) (aZ rfl)
  rw [if_neg hab]
  obtain ⟨g, g2⟩ := nE hab
  have e1 : gY f (mnS a b) (mxS a b) = gY f a b := by
    rcases g2 with ⟨g1, g2⟩ | ⟨g1, g2⟩
    · rw [g1, g2]
    · rw [g1, g2]; unfold gY; congr 1; funext x; rw [Bool.or_comm]
  have e2 : (iM s (mnS a b) = true ∧ iM s (mxS a b) = true) ↔ (iM s a = true ∧ iM s b = true) := by
    rcases g2 with ⟨g1, g2⟩ | ⟨g1, g2⟩
    · rw [g1, g2]
    · rw [g1, g2, and_comm]
  refine cB (fun e => mV g (dF.1 e)) (Ev.bind (tA s f p v (by omega)) (Ev.bind (rI f _ _ (by omega)) ?_))
  rw [e1]
  refine gT (fun c => aZ ?_) (fun c => ?_)
  · rw [if_pos c]; rfl
  rw [if_neg (show ¬ gY f a b = true by rw [c]; simp)]
  refine Ev.bind (tC s _ (by omega)) (gT (fun c1 => Ev.bind (tC s _ (by omega)) (gT (fun c2 => ?_) (fun c2 => aZ ?_))) (fun c1 => aZ ?_))
  · rw [if_pos (show iM s a = true ∧ iM s b = true from e2.1 ⟨c1, c2⟩)]
    refine bL (fun d => aZ ?_) (fun d => aU (by omega) (pK (aEV (by omega) _ h.f2 ?_) (aZ ?_)))
    · rw [if_pos (by omega)]; rfl
    · exact uS hab (by rw [c]; simp)
    · rw [if_neg (by omega)]; rfl
  · rw [if_neg (fun q => by have := (e2.2 q).2; rw [c2] at this; cases this)]; rfl
  · rw [if_neg (fun q => by have := (e2.2 q).1; rw [c1] at this; cases this)]; rfl
theorem aLY (a b c : ByteArray) (n : Int) : Ev (fun k => cY.l0 k s f p v [dZ, a, b, c] n 3) (rot (oR s f p v ⟨a, n, c⟩)) := by
  have hl := h.lp
  refine Ev.step (fun k => by rw [cY.l0]) ?_
  refine cB (show ¬ (3 : Int) < 3 by omega) (cB (fun e => absurd (show dZ = fK from dF.1 e) (by decide)) (cB (fun e => absurd (show dZ = jM from dF.1 e) (by decide)) (aU rfl (aU (show (1 : Int) < 4 by omega) ?_))))
  rw [show aV ByteArray.empty [dZ, a, b, c] 1 = a from rfl, show wrap64 ((([dZ, a, b, c] : List ByteArray).length : Int) - 1) = 3 from w64 (x := 3) (by omega) (by omega), show aV ByteArray.empty [dZ, a, b, c] 3 = c from rfl]
  unfold oR
  refine Ev.bind (lZ s f p v a (by omega)) ?_
  rw [iL]
  refine gT (fun c1 => aZ ?_) (fun c1 => ?_)
  · rw [if_pos c1]; rfl
  rw [if_neg (show ¬ dU p a = true by rw [c1]; simp)]
  refine bL (fun d => aZ ?_) (fun d => aU (by omega) (aU (show (3 : Int) < 4 by omega) (aU (by omega) (pK (yE (by omega) _ h.p2 (nH (by dsimp only; rw [c1]; simp))) (aZ ?_)))))
  · rw [if_pos (by omega)]; rfl
  · rw [if_neg (by omega)]; rfl
theorem aLM (a b : ByteArray) : Ev (fun k => cY.l0 k s f p v [fB, a, b] 0 2) (rot (oR s f p v ⟨a, 0, b⟩)) := by
  have hl := h.lp
  refine Ev.step (fun k => by rw [cY.l0]) ?_
  refine cB (show ¬ (2 : Int) < 2 by omega) (cB (fun e => absurd (show fB = fK from dF.1 e) (by decide)) (cB (fun e => absurd (show fB = jM from dF.1 e) (by decide)) (cB (fun e => absurd (show fB = dZ from dF.1 e) (by decide)) (aU rfl (aU (show (1 : Int) < 3 by omega) ?_)))))
  rw [show aV ByteArray.empty [fB, a, b] 1 = a from rfl, show wrap64 ((([fB, a, b] : List ByteArray).length : Int) - 1) = 2 from w64 (x := 2) (by omega) (by omega), show aV ByteArray.empty [fB, a, b] 2 = b from rfl]
  unfold oR
  refine Ev.bind (lZ s f p v a (by omega)) ?_
  rw [iL]
  refine gT (fun c1 => aZ ?_) (fun c1 => ?_)
  · rw [if_pos c1]; rfl
  rw [if_neg (show ¬ dU p a = true by rw [c1]; simp)]
  refine bL (fun d => aZ ?_) (fun d => aU (by omega) (aU (show (2 : Int) < 3 by omega) (aU (by omega) (pK (yE (by omega) _ h.p2 (nH (by dsimp only; rw [c1]; simp))) (aZ ?_)))))
  · rw [if_pos (by omega)]; rfl
  · rw [if_neg (by omega)]; rfl
theorem aLP (a b c d : ByteArray) : Ev (fun k => cY.l0 k s f p v [eT, a, b, c, d] 0 4) (rot (aCM s f p v a b c d)) := by
  have hl := h.lv
  have hp := h.lp
  refine Ev.step (fun k => by rw [cY.l0]) ?_
  refine cB (show ¬ (4 : Int) < 4 by omega) (cB (fun e => absurd (show eT = fK from dF.1 e) (by decide)) (cB (fun e => absurd (show eT = jM from dF.1 e) (by decide)) (cB (fun e => absurd (show eT = dZ from dF.1 e) (by decide)) (cB (fun e => absurd (show eT = fB from dF.1 e) (by decide)) (aU rfl (aU (show (2 : Int) < 5 by omega) (aU (show (3 : Int) < 5 by omega) ?_)))))))
  rw [show aV ByteArray.empty [eT, a, b, c, d] 1 = a from rfl, show aV ByteArray.empty [eT, a, b, c, d] 2 = b from rfl, show aV ByteArray.empty [eT, a, b, c, d] 3 = c from rfl, show aV ByteArray.empty [eT, a, b, c, d] 4 = d from rfl]
  unfold aCM
  refine Ev.bind (lZ s f p v _ (by omega)) (Ev.bind (lZ s f p v _ (by omega)) (aU (show (1 : Int) < 5 by omega) (Ev.bind (aGG s f p v a (by omega)) ?_)))
  rw [iL, iL, rB]
  by_cases hab : b = c
  · subst hab
    rw [if_pos rfl]
    exact aU (by rw [(rX b).1, (rX b).2]) (aZ rfl)
  rw [if_neg hab]
  obtain ⟨g, g2⟩ := nE hab
  have e2 : (dU p (mnS b c) = true ∧ dU p (mxS b c) = true) ↔ (dU p b = true ∧ dU p c = true) := by
    rcases g2 with ⟨g1, g2⟩ | ⟨g1, g2⟩
    · rw [g1, g2]
    · rw [g1, g2, and_comm]
  refine cB (fun e => mV g (dF.1 e)) (gT (fun c0 => aZ ?_) (fun c0 => ?_))
  · rw [if_pos c0]; rfl
  rw [if_neg (show ¬ kE v a = true by rw [c0]; simp)]
  refine gT (fun c1 => gT (fun c2 => ?_) (fun c2 => aZ ?_)) (fun c1 => aZ ?_)
  · rw [if_pos (show dU p b = true ∧ dU p c = true from e2.1 ⟨c1, c2⟩)]
    refine bL (fun d => aZ ?_) (fun d => aU (show (4 : Int) < 5 by omega) (aU (by omega) (pK (aFH (by omega) _ h.v2 (rA (x := ⟨_, _, _, _⟩) (by dsimp only; rw [c0]; simp))) (aZ ?_))))
    · rw [if_pos (by omega)]; rfl
    · rw [if_neg (by omega)]; rfl
  · rw [if_neg (fun q => by have := (e2.2 q).2; rw [c2] at this; cases this)]; rfl
  · rw [if_neg (fun q => by have := (e2.2 q).1; rw [c1] at this; cases this)]; rfl
theorem aHF (a b c : ByteArray) (ha : a.size ≤ 1000000) (hc : c.size ≤ 1000000) : Ev (fun k => cY.l0 k s f p v [dZ, a, b, c] 0 0) (rot (if dT a = true ∧ (1 ≤ mY b ∧ mY b ≤ 1000) ∧ dT c = true then oR s f p v ⟨a, mY b, c⟩ else (s, f, p, v, 3))) := by
  refine Ev.step (fun k => by rw [cY.l0]) ?_
  refine aU (show (0 : Int) < 3 by omega) (aU (by omega) (aU rfl (cB (by omega) ?_)))
  rw [show aV ByteArray.empty (List.drop (1 : Int).toNat [dZ, a, b, c]) 0 = a from rfl, show wrap64 (0 + 1) = 1 from w64 (x := 1) (by omega) (by omega)]
  refine Ev.bind (eV a (by omega)) (gT (fun c1 => ?_) (fun c1 => aZ ?_))
  · refine Ev.step (fun k => by rw [cY.l0]) ?_
    refine aU (show (1 : Int) < 3 by omega) (aU (by omega) (aU rfl (aU rfl ?_)))
    rw [show aV ByteArray.empty (List.drop (1 : Int).toNat [dZ, a, b, c]) 1 = b from rfl, show wrap64 (1 + 1) = 2 from w64 (x := 2) (by omega) (by omega)]
    refine Ev.bind (aJQ b) (gT (fun c2 => ?_) (fun c2 => aZ ?_))
    · have hn := aBG.1 c2
      rw [aGT hn]
      refine bL (fun d => aZ ?_) (fun d => bL (fun d2 => aZ ?_) (fun d2 => ?_))
      · rw [if_neg (fun q => by omega)]; rfl
      · rw [if_neg (fun q => by omega)]; rfl
      · refine Ev.step (fun k => by rw [cY.l0]) ?_
        refine aU (show (2 : Int) < 3 by omega) (aU (by omega) (aU rfl (cB (by omega) ?_)))
        rw [show aV ByteArray.empty (List.drop (1 : Int).toNat [dZ, a, b, c]) 2 = c from rfl, show wrap64 (2 + 1) = 3 from w64 (x := 3) (by omega) (by omega)]
        refine Ev.bind (eV c (by omega)) (gT (fun c3 => ?_) (fun c3 => aZ ?_))
        · rw [if_pos ⟨c1, ⟨by omega, by omega⟩, c3⟩]
          exact aLY h a b c _
        · rw [if_neg (fun q => by rw [c3] at q; exact Bool.false_ne_true q.2.2)]; rfl
    · rw [if_neg (fun q => by have := aBG.2 (show 0 ≤ mY b by omega); rw [c2] at this; cases this)]; rfl
  · rw [if_neg (fun q => by rw [c1] at q; exact Bool.false_ne_true q.1)]; rfl
theorem aHO (ws : List ByteArray) (h1 : 1 ≤ ws.length) (h2 : ws.length ≤ 1000) (hz : ∀ w ∈ ws, w.size ≤ 1000000) : Ev (fun k => cY.f k s f p v ws) (rot (put s f p v ws)) := by
  cases ws with
  | nil => simp at h1
  | cons w r =>
  have hz' : ∀ x ∈ r, x.size ≤ 1000000 := fun x hx => hz x (List.mem_cons_of_mem _ hx)
  rw [List.length_cons] at h2
  unfold cY.f
  rw [show aV ByteArray.empty (w :: r) 0 = w from rfl]
  refine aU (by rw [List.length_cons]; omega) ?_
  unfold put
  rw [show gw (w :: r) 0 = w from rfl]
  have hl1 : (1 : Int) ≤ ((w :: r).length : Int) := by rw [List.length_cons]; omega
  by_cases c1 : w = fK
  · subst c1
    rw [if_pos rfl]
    refine aU (by decide) (bL (fun n => aU hl1 ?_) (fun n => aZ ?_))
    · have n : ((fK :: r).length : Int) = 2 := n
      match r, n with
      | [a], _ =>
        refine gJ (oM fK (by decide) [a] (by simp) hz' 0 (aLK h a)) ?_
        simp only [List.all_cons, List.all_nil, Bool.and_true]
        exact vY (B := [fK, a].length = 2 ∧ dT a = true) ⟨fun q => ⟨rfl, q⟩, fun z => z.2⟩ (aDD s f p v a)
    · have n : ¬ ((fK :: r).length : Int) = 2 := n
      rw [if_neg (fun q => n (by omega))]; rfl
  rw [if_neg c1]
  by_cases c2 : w = jM
  · subst c2
    rw [if_pos rfl]
    refine aU (by decide) (bL (fun n => aU hl1 ?_) (fun n => aZ ?_))
    · have n : ((jM :: r).length : Int) = 3 := n
      match r, n with
      | [a, b], _ =>
        refine gJ (oM jM (by decide) [a, b] (by simp) hz' 0 (aLL h a b)) ?_
        simp only [List.all_cons, List.all_nil, Bool.and_true]
        exact vY (B := [jM, a, b].length = 3 ∧ dT a = true ∧ dT b = true) ⟨fun q => ⟨rfl, by simpa using q⟩, fun z => by simpa using z.2⟩ (aCR s f p v a b)
    · have n : ¬ ((jM :: r).length : Int) = 3 := n
      rw [if_neg (fun q => n (by omega))]; rfl
  rw [if_neg c2]
  by_cases c3 : w = dZ
  · subst c3
    rw [if_pos rfl]
    refine aU (by decide) (bL (fun n => aU hl1 ?_) (fun n => aZ ?_))
    · have n : ((dZ :: r).length : Int) = 4 := n
      match r, n with
      | [a, b, c], _ =>
        refine gJ (aHF h a b c (hz' a (by simp)) (hz' c (by simp))) ?_
        exact aIF (B := [dZ, a, b, c].length = 4 ∧ dT a = true ∧ (1 ≤ mY b ∧ mY b ≤ 1000) ∧ dT c = true) ⟨fun q => ⟨rfl, q⟩, fun z => z.2⟩ (oR s f p v ⟨a, mY b, c⟩) (s, f, p, v, 3)
    · have n : ¬ ((dZ :: r).length : Int) = 4 := n
      rw [if_neg (fun q => n (by omega))]; rfl
  rw [if_neg c3]
  by_cases c4 : w = fB
  · subst c4
    rw [if_pos rfl]
    refine aU (by decide) (bL (fun n => aU hl1 ?_) (fun n => aZ ?_))
    · have n : ((fB :: r).length : Int) = 3 := n
      match r, n with
      | [a, b], _ =>
        refine gJ (oM fB (by decide) [a, b] (by simp) hz' 0 (aLM h a b)) ?_
        simp only [List.all_cons, List.all_nil, Bool.and_true]
        exact vY (B := [fB, a, b].length = 3 ∧ dT a = true ∧ dT b = true) ⟨fun q => ⟨rfl, by simpa using q⟩, fun z => by simpa using z.2⟩ (oR s f p v ⟨a, 0, b⟩)
    · have n : ¬ ((fB :: r).length : Int) = 3 := n
      rw [if_neg (fun q => n (by omega))]; rfl
  rw [if_neg c4]
  by_cases c5 : w = eT
  · subst c5
    rw [if_pos rfl]
    refine aU (by decide) (bL (fun n => aU hl1 ?_) (fun n => aZ ?_))
    · have n : ((eT :: r).length : Int) = 5 := n
      match r, n with
      | [a, b, c, d], _ =>
        refine gJ (oM eT (by decide) [a, b, c, d] (by simp) hz' 0 (aLP h a b c d)) ?_
        simp only [List.all_cons, List.all_nil, Bool.and_true]
        exact vY (B := [eT, a, b, c, d].length = 5 ∧ dT a = true ∧ dT b = true ∧ dT c = true ∧ dT d = true) ⟨fun q => ⟨rfl, by simpa using q⟩, fun z => by simpa using z.2⟩ (aCM s f p v a b c d)
    · have n : ¬ ((eT :: r).length : Int) = 5 := n
      rw [if_neg (fun q => n (by omega))]; rfl
  rw [if_neg c5]
  refine cB ?_ (aZ rfl)
  unfold mpH
  simp only [List.any_cons, List.any_nil, aKP, Bool.or_false, Bool.or_eq_true, decide_eq_true_eq]
  rintro (e | e | e | e | e)
  · exact c1 e
  · exact c2 e
  · exact c3 e
  · exact c4 e
  · exact c5 e
end
/-! ### a text, read -/
abbrev PR := List ByteArray × List aC × List aB × List aA × Int × Int
abbrev PS := List ByteArray × List aC × List aB × List aA
def VdS (t : PS) : Prop := Vd t.1 t.2.1 t.2.2.1 t.2.2.2
def kN (t : PS) (ws : List ByteArray) : PC := put t.1 t.2.1 t.2.2.1 t.2.2.2 ws
def stC (t : PC) : PS := (t.1, t.2.1, t.2.2.1, t.2.2.2.1)
def kL (s : ByteArray) : List ByteArray × Bool := tF (wsp (iW 35 s.data.toList ++ [32]) [] [])
def nM : List ByteArray → Int → PS → PR
  | [], _, t => (t.1, t.2.1, t.2.2.1, t.2.2.2, 0, 0)
  | l :: r, i, t =>
    if (kL l).2 = true then
      (if 0 < (kL l).1.length then
        (if (kN t (kL l).1).2.2.2.2 = 0 then nM r (i + 1) (stC (kN t (kL l).1)) else ([], [], [], [], i + 1, (kN t (kL l).1).2.2.2.2))
      else nM r (i + 1) t)
    else ([], [], [], [], i + 1, 1)
def tG (s : ByteArray) : PR :=
  if 10000 < s.size then ([], [], [], [], 0, 7) else if 200 < (mC [] s.data.toList).length then ([], [], [], [], 0, 7) else nM (mC [] s.data.toList) 0 ([], [], [], [])
theorem aID {t : PS} (h : VdS t) (ws : List ByteArray) : VdS (stC (kN t ws)) := aKG h ws
theorem vM : ∀ (bs cur : List UInt8) (out o : List ByteArray), cur.length ≤ 24 → (∀ w ∈ out, w.size ≤ 24) → wsp bs cur out = some o → ∀ w ∈ o, w.size ≤ 24
  | [], cur, out, o, _, ho, h => by injection h with h; subst h; exact ho
  | b :: l, cur, out, o, hc, ho, h => by
    rw [wsp] at h
    split at h
    · split at h
      · exact vM l cur out o hc ho h
      · refine vM l [] _ o (by simp) (fun w hw => ?_) h
        rcases List.mem_append.1 hw with hw | hw
        · exact ho w hw
        · rw [List.mem_singleton] at hw
          subst hw
          rw [pU]; exact hc
    · split at h
      · rename_i hv
        exact vM l _ out o (by simp; omega) ho h
      · cases h
theorem aCW (s : ByteArray) : (kL s).1.length ≤ 16 ∧ ∀ w ∈ (kL s).1, w.size ≤ 24 := by
  refine ⟨aDO _, ?_⟩
  unfold kL
  cases ho : wsp (iW 35 s.data.toList ++ [32]) [] [] with
  | none => intro w hw; simp [tF] at hw
  | some o =>
    have hg := vM _ [] [] o (by simp) (fun w hw => by cases hw) ho
    intro w hw
    unfold tF at hw
    simp only at hw
    split at hw
    · simp at hw
    · exact hg w hw
theorem wM (a : ByteArray) (ha : a.size ≤ 1048576) : Ev (fun k => cQ.f k a) (tG a) := by
  have h2 := xE a ha
  have hm := tR a.data.toList []
  unfold cQ.f tG
  generalize mC [] a.data.toList = ls at *
  refine Ev.bind h2 (bL (fun c => aZ (by rw [if_pos (by omega)])) (fun c => ?_))
  rw [if_neg (by omega)]
  refine bL (fun d => aZ (by rw [if_pos (by omega)])) (fun d => ?_)
  rw [if_neg (by omega)]
  have hz : ∀ x ∈ ls, x.size ≤ 1048576 := fun x hx => by have := hm x hx; rw [mT] at this; simp at this; omega
  have key := eQ ByteArray.empty ls (P := fun i r => ∀ t : PS, VdS t → Ev (fun k => cQ.l0 k (i : Int) t.1 t.2.1 t.2.2.1 t.2.2.2 ls) (nM r (i : Int) t))
    (fun t ht => by refine Ev.step (fun k => by rw [cQ.l0]) ?_; exact cB (by omega) (aZ rfl)) (fun i x r hi hx hm _ ih t ht => ?_)
  · exact key ([], [], [], []) aKA
  refine Ev.step (fun k => by rw [cQ.l0]) (aU (by omega) (aU (by omega) ?_))
  obtain ⟨w1, w2⟩ := aCW x
  have hw : Ev (fun k => fD.f k x) (kL x) := vU x (hz x hm)
  rw [fH, hx, dP hi (by omega)]
  unfold nM
  generalize kL x = W at *
  refine Ev.bind hw (gT (fun c1 => ?_) (fun c1 => aZ ?_))
  · rw [if_pos c1]
    refine bL (fun c2 => ?_) (fun c2 => ?_)
    · rw [if_pos (show 0 < W.1.length by omega)]
      refine Ev.bind (aHO ht W.1 (by omega) (by omega) (fun w hw => by have := w2 w hw; omega)) (bL (fun c3 => ?_) (fun c3 => aZ ?_))
      · rw [if_pos (show (kN t W.1).2.2.2.2 = 0 from c3)]
        exact ih (stC (kN t W.1)) (aID ht _)
      · rw [if_neg (show ¬ (kN t W.1).2.2.2.2 = 0 from c3)]; rfl
    · rw [if_neg (show ¬ 0 < W.1.length by omega)]
      exact ih t ht
  · rw [if_neg (by rw [c1]; simp)]; rfl
/-! ### what is written, read again -/
theorem mA (a b : ByteArray) : (a ++ b).data.toList = a.data.toList ++ b.data.toList := by simp [ByteArray.data_append]
def aIV (w : ByteArray) : Bool := decide (w.data.toList ≠ []) && (decide (w.data.toList.length ≤ 24) && w.data.toList.all fun b => decide ((33 ≤ b.toNat ∧ b.toNat ≤ 126) ∧ b ≠ 35))
theorem mB {w : ByteArray} (h : aIV w = true) : oX w.data.toList := by
  unfold aIV at h
  simp only [Bool.and_eq_true, decide_eq_true_eq, List.all_eq_true] at h
  exact ⟨h.1, h.2.1, h.2.2⟩
theorem uQ : ∀ (a cur r : List UInt8), (∀ x ∈ a, x ≠ 10) → mC cur (a ++ 10 :: r) = mkB (cur ++ a) :: mC [] r
  | [], cur, r, _ => by simp [mC]
  | x :: a, cur, r, h => by
    rw [List.cons_append, mC, if_neg (h x (List.mem_cons_self ..)), uQ a (cur ++ [x]) r (fun y hy => h y (List.mem_cons_of_mem _ hy))]
    simp
def iV (x : aC) : List ByteArray := [jM, x.f0, x.f1]
def jH (x : ByteArray) : List ByteArray := [fK, x]
def jC (x : aB) : List ByteArray := if x.f1 > 0 then [dZ, x.f0, lK x.f1, x.f2] else [fB, x.f0, x.f2]
def iD (x : aA) : List ByteArray := [eT, x.f0, x.f1, x.f2, x.f3]
theorem d32 : (⟨#[32]⟩ : ByteArray).data.toList = [32] := rfl
theorem d10 : (⟨#[10]⟩ : ByteArray).data.toList = [10] := rfl
theorem aEY (x : ByteArray) : (kG x).data.toList = jn (jH x) ++ [10] := by
  have e : (⟨#[115, 116, 117, 102, 102, 32]⟩ : ByteArray).data.toList = fK.data.toList ++ [32] := rfl
  simp only [kG, jH, jn, spc, mA, e, d10, List.append_assoc, List.cons_append, List.nil_append, List.append_nil]; rfl
theorem aEP (x : aC) : (jJ x).data.toList = jn (iV x) ++ [10] := by
  have e : (⟨#[102, 111, 101, 32]⟩ : ByteArray).data.toList = jM.data.toList ++ [32] := rfl
  simp only [jJ, iV, jn, spc, mA, e, d10, d32, List.append_assoc, List.cons_append, List.nil_append, List.append_nil]; rfl
theorem aGC (x : aB) : (iG x).data.toList = jn (jC x) ++ [10] := by
  have e : (⟨#[118, 101, 115, 115, 101, 108, 32]⟩ : ByteArray).data.toList = dZ.data.toList ++ [32] := rfl
  have e2 : (⟨#[106, 111, 105, 110, 116, 32]⟩ : ByteArray).data.toList = fB.data.toList ++ [32] := rfl
  unfold iG jC
  split
  · simp only [jn, spc, mA, e, d10, d32, List.append_assoc, List.cons_append, List.nil_append, List.append_nil]; rfl
  · simp only [jn, spc, mA, e2, d10, d32, List.append_assoc, List.cons_append, List.nil_append, List.append_nil]; rfl
theorem aEJ (x : aA) : (hU x).data.toList = jn (iD x) ++ [10] := by
  have e : (⟨#[118, 97, 108, 118, 101, 32]⟩ : ByteArray).data.toList = eT.data.toList ++ [32] := rfl
  simp only [hU, iD, jn, spc, mA, e, d10, d32, List.append_assoc, List.cons_append, List.nil_append, List.append_nil]; rfl
def lnL (W : List (List ByteArray)) : List UInt8 := (W.map fun ws => jn ws ++ [10]).flatten
theorem vV (a b : List (List ByteArray)) : lnL (a ++ b) = lnL a ++ lnL b := by unfold lnL; simp
theorem nY {α : Type} (g : α → ByteArray) (w : α → List ByteArray) (h : ∀ x, (g x).data.toList = jn (w x) ++ [10]) : ∀ (l : List α) (a : ByteArray), (cat g l a).data.toList = a.data.toList ++ lnL (l.map w)
  | [], a => by simp [cat, lnL]
  | x :: r, a => by
    rw [cat, nY g w h r, mA, h, List.map_cons]
    simp [lnL]
/-- words that may stand on a line -/
def mQ (ws : List ByteArray) : Prop := 1 ≤ ws.length ∧ ws.length ≤ 5 ∧ ∀ w ∈ ws, oX w.data.toList
theorem aAW : ∀ W : List (List ByteArray), (∀ ws ∈ W, mQ ws) → mC [] (lnL W) = W.map fun ws => mkB (jn ws)
  | [], _ => by simp [mC, lnL]
  | ws :: W, h => by
    have ih := aAW W (fun y hy => h y (List.mem_cons_of_mem _ hy))
    have hg := aJO ws (h ws (List.mem_cons_self ..)).2.2
    rw [show lnL (ws :: W) = jn ws ++ 10 :: lnL W by simp [lnL], uQ _ [] _ (fun y hy => (hg y hy).2), ih]
    rfl
theorem aBP : ∀ W : List (List ByteArray), (∀ ws ∈ W, mQ ws) → (lnL W).length ≤ 126 * W.length
  | [], _ => by simp [lnL]
  | ws :: W, h => by
    have ih := aBP W (fun y hy => h y (List.mem_cons_of_mem _ hy))
    obtain ⟨h1, h2, h3⟩ := h ws (List.mem_cons_self ..)
    have := aKR ws h3
    rw [show lnL (ws :: W) = jn ws ++ 10 :: lnL W by simp [lnL], List.length_append, List.length_cons, List.length_cons]
    omega
theorem aCS {ws : List ByteArray} (h : mQ ws) : kL (mkB (jn ws)) = (ws, true) := by
  obtain ⟨h1, h2, h3⟩ := h
  unfold kL
  rw [aEU, uT _ _ (fun y hy => (aJO _ h3 y hy).1), aJU _ (fun e => by rw [e] at h1; simp at h1) h3]
  unfold tF
  dsimp only
  rw [if_neg (by omega)]
theorem xA {α : Type} (g : α → List ByteArray) (st : List α → PS) (l : List α) (hg : ∀ x ∈ l, mQ (g x)) (step : ∀ a x b, l = a ++ x :: b → (kN (st a) (g x)).2.2.2.2 = 0 ∧ stC (kN (st a) (g x)) = st (a ++ [x])) (K : List ByteArray) :
    ∀ (r a : List α) (i : Int), a ++ r = l → ∃ j, nM ((r.map fun x => mkB (jn (g x))) ++ K) i (st a) = nM K j (st l)
  | [], a, i, h => by rw [List.append_nil] at h; subst h; exact ⟨i, rfl⟩
  | x :: r, a, i, h => by
    have hx := hg x (by rw [← h]; simp)
    obtain ⟨s1, s2⟩ := step a x r h.symm
    obtain ⟨j, ih⟩ := xA g st l hg step K r (a ++ [x]) (i + 1) (by rw [← h]; simp)
    refine ⟨j, ?_⟩
    rw [List.map_cons, List.cons_append, nM, aCS hx]
    dsimp only
    rw [if_pos rfl, if_pos (by have := hx.1; omega), if_pos s1, s2, ih]
theorem mZ {α : Type} (p : α → α → Bool) (x : α) : ∀ l : List α, (∀ y ∈ l, p y x = true) → lY p x l = l ++ [x]
  | [], _ => rfl
  | y :: r, h => by rw [lY, if_pos (h y (List.mem_cons_self ..)), mZ p x r (fun z hz => h z (List.mem_cons_of_mem _ hz))]; rfl
theorem jR {p : List aB} {a : ByteArray} : dU p a = true ↔ ∃ x ∈ p, x.f0 = a := by
  unfold dU; rw [List.any_eq_true]; simp only [decide_eq_true_eq]
theorem wE {p : List aA} {a : ByteArray} : kE p a = true ↔ ∃ x ∈ p, x.f0 = a := by
  unfold kE; rw [List.any_eq_true]; simp only [decide_eq_true_eq]
theorem nZ {α : Type} {q : α → α → Bool} {l a b : List α} {x : α} (h : l.Pairwise fun u v => q u v = true) (e : l = a ++ x :: b) : (∀ y ∈ a, q y x = true) ∧ a.length + 1 ≤ l.length ∧ x ∈ l := by
  subst e
  refine ⟨fun y hy => (List.pairwise_append.1 h).2.2 y hy x (List.mem_cons_self ..), by rw [List.length_append, List.length_cons]; omega, by simp⟩
section
variable {s : List ByteArray} {f : List aC} {p : List aB} {v : List aA} (h : Vd s f p v)
include h
theorem aLO (a : List ByteArray) (x : ByteArray) (b : List ByteArray) (e : s = a ++ x :: b) : (kN (a, [], [], []) (jH x)).2.2.2.2 = 0 ∧ stC (kN (a, [], [], []) (jH x)) = (a ++ [x], [], [], []) := by
  obtain ⟨c1, c2, c3⟩ := nZ h.s2 e
  have hl := h.ls
  have k : kN (a, [], [], []) (jH x) = (a ++ [x], [], [], [], 0) := by
    unfold kN put jH
    dsimp only
    rw [if_pos (show gw [fK, x] 0 = fK from rfl), if_pos (show [fK, x].length = 2 ∧ dT (gw [fK, x] 1) = true from ⟨rfl, h.s1 x c3⟩), show gw [fK, x] 1 = x from rfl]
    unfold aDD
    rw [if_neg (fun q => mV (c1 x (iJ.1 q)) rfl), if_neg (by omega), mZ lt x a c1]
  rw [k]; exact ⟨rfl, rfl⟩
theorem aLC (a : List aC) (x : aC) (b : List aC) (e : f = a ++ x :: b) : (kN (s, a, [], []) (iV x)).2.2.2.2 = 0 ∧ stC (kN (s, a, [], []) (iV x)) = (s, a ++ [x], [], []) := by
  obtain ⟨c1, c2, c3⟩ := nZ h.f2 e
  have hl := h.lf
  have hx := h.f1 x c3
  have ha : ∀ y ∈ a, oS s y = true := fun y hy => h.f1 y (by rw [e]; exact List.mem_append_left _ hy)
  simp only [oS, Bool.and_eq_true, iJ] at hx ha
  have hm : sG x.f0 x.f1 = x := by
    unfold sG mnS mxS
    have l1 := hx.1
    have l2 := mM l1
    unfold lt at l1 l2
    rw [l1, l2]; rfl
  have k : kN (s, a, [], []) (iV x) = (s, a ++ [x], [], [], 0) := by
    unfold kN put iV
    dsimp only
    rw [if_neg (show ¬ gw [jM, x.f0, x.f1] 0 = fK from (by decide : ¬ jM = fK)), if_pos (show gw [jM, x.f0, x.f1] 0 = jM from rfl),
      if_pos (show [jM, x.f0, x.f1].length = 3 ∧ dT (gw [jM, x.f0, x.f1] 1) = true ∧ dT (gw [jM, x.f0, x.f1] 2) = true from ⟨rfl, h.s1 _ hx.2.1, h.s1 _ hx.2.2⟩), show gw [jM, x.f0, x.f1] 1 = x.f0 from rfl, show gw [jM, x.f0, x.f1] 2 = x.f1 from rfl]
    unfold aCR
    rw [if_neg (mV hx.1), if_neg (fun q => ?_), if_pos ⟨iJ.2 hx.2.1, iJ.2 hx.2.2⟩, if_neg (by omega), hm, mZ gW x a c1]
    unfold gY at q
    rw [List.any_eq_true] at q
    obtain ⟨y, hy, q⟩ := q
    simp only [Bool.or_eq_true, Bool.and_eq_true, decide_eq_true_eq] at q
    rcases q with ⟨q1, q2⟩ | ⟨q1, q2⟩
    · have : y = x := by cases y; cases x; simp only at q1 q2; rw [q1, q2]
      have g := c1 y hy
      rw [this, vE] at g; cases g
    · have g := (ha y hy).1
      rw [q1, q2, mM hx.1] at g; cases g
  rw [k]; exact ⟨rfl, rfl⟩
theorem aLN (a : List aB) (x : aB) (b : List aB) (e : p = a ++ x :: b) : (kN (s, f, a, []) (jC x)).2.2.2.2 = 0 ∧ stC (kN (s, f, a, []) (jC x)) = (s, f, a ++ [x], []) := by
  obtain ⟨c1, c2, c3⟩ := nZ h.p2 e
  have hl := h.lp
  have hx := h.p1 x c3
  simp only [gP, Bool.and_eq_true] at hx
  have hb := tD hx.2.1
  have kP : oR s f a [] x = (s, f, a ++ [x], [], 0) := by
    unfold oR
    rw [if_neg (fun q => ?_), if_neg (by omega), mZ eU x a c1]
    obtain ⟨y, hy, q⟩ := jR.1 q
    exact mV (c1 y hy) q
  have k : kN (s, f, a, []) (jC x) = (s, f, a ++ [x], [], 0) := by
    unfold kN jC
    dsimp only
    by_cases c : x.f1 > 0
    · have hn := (aBI (n := x.f1) (by omega) (by omega)).1
      rw [if_pos c]
      unfold put
      rw [if_neg (show ¬ gw [dZ, x.f0, lK x.f1, x.f2] 0 = fK from (by decide : ¬ dZ = fK)), if_neg (show ¬ gw [dZ, x.f0, lK x.f1, x.f2] 0 = jM from (by decide : ¬ dZ = jM)), if_pos (show gw [dZ, x.f0, lK x.f1, x.f2] 0 = dZ from rfl),
        show gw [dZ, x.f0, lK x.f1, x.f2] 1 = x.f0 from rfl, show gw [dZ, x.f0, lK x.f1, x.f2] 2 = lK x.f1 from rfl, show gw [dZ, x.f0, lK x.f1, x.f2] 3 = x.f2 from rfl, hn,
        if_pos (show [dZ, x.f0, lK x.f1, x.f2].length = 4 ∧ dT x.f0 = true ∧ (1 ≤ x.f1 ∧ x.f1 ≤ 1000) ∧ dT x.f2 = true from ⟨rfl, hx.1, ⟨by omega, by omega⟩, hx.2.2⟩)]
      exact kP
    · have hn : (⟨x.f0, 0, x.f2⟩ : aB) = x := by
        have c0 : x.f1 = 0 := by omega
        cases x; simp only at c0; rw [c0]
      rw [if_neg c]
      unfold put
      rw [if_neg (show ¬ gw [fB, x.f0, x.f2] 0 = fK from (by decide : ¬ fB = fK)), if_neg (show ¬ gw [fB, x.f0, x.f2] 0 = jM from (by decide : ¬ fB = jM)), if_neg (show ¬ gw [fB, x.f0, x.f2] 0 = dZ from (by decide : ¬ fB = dZ)), if_pos (show gw [fB, x.f0, x.f2] 0 = fB from rfl),
        show gw [fB, x.f0, x.f2] 1 = x.f0 from rfl, show gw [fB, x.f0, x.f2] 2 = x.f2 from rfl,
        if_pos (show [fB, x.f0, x.f2].length = 3 ∧ dT x.f0 = true ∧ dT x.f2 = true from ⟨rfl, hx.1, hx.2.2⟩), hn]
      exact kP
  rw [k]; exact ⟨rfl, rfl⟩
theorem aLQ (a : List aA) (x : aA) (b : List aA) (e : v = a ++ x :: b) : (kN (s, f, p, a) (iD x)).2.2.2.2 = 0 ∧ stC (kN (s, f, p, a) (iD x)) = (s, f, p, a ++ [x]) := by
  obtain ⟨c1, c2, c3⟩ := nZ h.v2 e
  have hl := h.lv
  have hx := h.v1 x c3
  simp only [iH, Bool.and_eq_true] at hx
  obtain ⟨x0, x1, x2, x3, x4⟩ := hx
  have hpl := fun y hy => (Bool.and_eq_true .. ▸ h.p1 y hy : dT y.f0 = true ∧ _).1
  have n1 : dT x.f1 = true := by obtain ⟨y, hy, q⟩ := jR.1 x2; exact q ▸ hpl y hy
  have n2 : dT x.f2 = true := by obtain ⟨y, hy, q⟩ := jR.1 x3; exact q ▸ hpl y hy
  have hm : (⟨x.f0, mnS x.f1 x.f2, mxS x.f1 x.f2, x.f3⟩ : aA) = x := by
    unfold mnS mxS
    have l2 := mM x1
    unfold lt at x1 l2
    rw [x1, l2]; rfl
  have k : kN (s, f, p, a) (iD x) = (s, f, p, a ++ [x], 0) := by
    unfold kN put iD
    dsimp only
    rw [if_neg (show ¬ gw [eT, x.f0, x.f1, x.f2, x.f3] 0 = fK from (by decide : ¬ eT = fK)), if_neg (show ¬ gw [eT, x.f0, x.f1, x.f2, x.f3] 0 = jM from (by decide : ¬ eT = jM)), if_neg (show ¬ gw [eT, x.f0, x.f1, x.f2, x.f3] 0 = dZ from (by decide : ¬ eT = dZ)),
      if_neg (show ¬ gw [eT, x.f0, x.f1, x.f2, x.f3] 0 = fB from (by decide : ¬ eT = fB)), if_pos (show gw [eT, x.f0, x.f1, x.f2, x.f3] 0 = eT from rfl),
      show gw [eT, x.f0, x.f1, x.f2, x.f3] 1 = x.f0 from rfl, show gw [eT, x.f0, x.f1, x.f2, x.f3] 2 = x.f1 from rfl, show gw [eT, x.f0, x.f1, x.f2, x.f3] 3 = x.f2 from rfl, show gw [eT, x.f0, x.f1, x.f2, x.f3] 4 = x.f3 from rfl,
      if_pos (show [eT, x.f0, x.f1, x.f2, x.f3].length = 5 ∧ dT x.f0 = true ∧ dT x.f1 = true ∧ dT x.f2 = true ∧ dT x.f3 = true from ⟨rfl, x0, n1, n2, x4⟩)]
    unfold aCM
    rw [if_neg (mV x1), if_neg (fun q => ?_), if_pos ⟨x2, x3⟩, if_neg (by omega), hm, mZ fC x a c1]
    obtain ⟨y, hy, q⟩ := wE.1 q
    exact mV (c1 y hy) q
  rw [k]; exact ⟨rfl, rfl⟩
theorem okS : ∀ x ∈ s, mQ (jH x) := fun x hx => ⟨by simp [jH], by simp [jH], fun w hw => by
  simp only [jH, List.mem_cons, List.mem_nil_iff, or_false] at hw
  rcases hw with rfl | rfl
  · exact mB (by decide)
  · exact gV (h.s1 w hx)⟩
theorem okF : ∀ x ∈ f, mQ (iV x) := fun x hx => ⟨by simp [iV], by simp [iV], fun w hw => by
  have hx := h.f1 x hx
  simp only [oS, Bool.and_eq_true, iJ] at hx
  simp only [iV, List.mem_cons, List.mem_nil_iff, or_false] at hw
  rcases hw with rfl | rfl | rfl
  · exact mB (by decide)
  · exact gV (h.s1 _ hx.2.1)
  · exact gV (h.s1 _ hx.2.2)⟩
theorem okP : ∀ x ∈ p, mQ (jC x) := fun x hx => by
  have hx := h.p1 x hx
  simp only [gP, Bool.and_eq_true] at hx
  have hb := tD hx.2.1
  unfold jC
  split
  · refine ⟨by simp, by simp, fun w hw => ?_⟩
    simp only [List.mem_cons, List.mem_nil_iff, or_false] at hw
    rcases hw with rfl | rfl | rfl | rfl
    · exact mB (by decide)
    · exact gV hx.1
    · exact (aBI (by omega) (by omega)).2
    · exact gV hx.2.2
  · refine ⟨by simp, by simp, fun w hw => ?_⟩
    simp only [List.mem_cons, List.mem_nil_iff, or_false] at hw
    rcases hw with rfl | rfl | rfl
    · exact mB (by decide)
    · exact gV hx.1
    · exact gV hx.2.2
theorem okV : ∀ x ∈ v, mQ (iD x) := fun x hx => ⟨by simp [iD], by simp [iD], fun w hw => by
  have hx := h.v1 x hx
  simp only [iH, Bool.and_eq_true] at hx
  obtain ⟨x0, x1, x2, x3, x4⟩ := hx
  have hpl := fun y hy => (Bool.and_eq_true .. ▸ h.p1 y hy : dT y.f0 = true ∧ _).1
  have n1 : dT x.f1 = true := by obtain ⟨y, hy, q⟩ := jR.1 x2; exact q ▸ hpl y hy
  have n2 : dT x.f2 = true := by obtain ⟨y, hy, q⟩ := jR.1 x3; exact q ▸ hpl y hy
  simp only [iD, List.mem_cons, List.mem_nil_iff, or_false] at hw
  rcases hw with rfl | rfl | rfl | rfl | rfl
  · exact mB (by decide)
  · exact gV x0
  · exact gV n1
  · exact gV n2
  · exact gV x4⟩
theorem aAF : tG (mE s f p v) = (s, f, p, v, 0, 0) := by
  have hd : (mE s f p v).data.toList = lnL (s.map jH ++ (f.map iV ++ (p.map jC ++ v.map iD))) := by
    unfold mE
    rw [nY hU iD aEJ, nY iG jC aGC, nY jJ iV aEP, nY kG jH aEY, vV, vV, vV]
    simp
  have hok : ∀ ws ∈ s.map jH ++ (f.map iV ++ (p.map jC ++ v.map iD)), mQ ws := fun ws hw => by
    simp only [List.mem_append, List.mem_map] at hw
    rcases hw with ⟨x, hx, rfl⟩ | ⟨x, hx, rfl⟩ | ⟨x, hx, rfl⟩ | ⟨x, hx, rfl⟩
    · exact okS h x hx
    · exact okF h x hx
    · exact okP h x hx
    · exact okV h x hx
  have hlen : (s.map jH ++ (f.map iV ++ (p.map jC ++ v.map iD))).length ≤ 52 := by
    have := h.ls; have := h.lf; have := h.lp; have := h.lv
    simp only [List.length_append, List.length_map]; omega
  have hsz := aBP _ hok
  rw [← hd, mT] at hsz
  unfold tG
  rw [if_neg (by omega), hd, aAW _ hok, if_neg (by rw [List.length_map]; omega)]
  simp only [List.map_append, List.map_map]
  obtain ⟨j1, e1⟩ := xA jH (fun a => (a, [], [], [])) s (okS h) (aLO h) (((f.map fun x => mkB (jn (iV x))) ++ ((p.map fun x => mkB (jn (jC x))) ++ (v.map fun x => mkB (jn (iD x)))))) s [] 0 rfl
  obtain ⟨j2, e2⟩ := xA iV (fun a => (s, a, [], [])) f (okF h) (aLC h) ((p.map fun x => mkB (jn (jC x))) ++ (v.map fun x => mkB (jn (iD x)))) f [] j1 rfl
  obtain ⟨j3, e3⟩ := xA jC (fun a => (s, f, a, [])) p (okP h) (aLN h) (v.map fun x => mkB (jn (iD x))) p [] j2 rfl
  obtain ⟨j4, e4⟩ := xA iD (fun a => (s, f, p, a)) v (okV h) (aLQ h) [] v [] j3 rfl
  rw [List.append_nil] at e4
  exact e1.trans (e2.trans (e3.trans e4))
end
/-! ### plants, compared and printed -/
theorem zI (l : List ByteArray) (hl : l.length ≤ 140737488351232) : Ev (fun k => dO.f k l l) true := by
  unfold dO.f
  refine aU rfl ?_
  refine eQ ByteArray.empty l (P := fun i r => Ev (fun k => dO.l0 k l l (i : Int)) true)
    (by refine Ev.step (fun k => by rw [dO.l0]) ?_; exact cB (by omega) (aZ rfl)) (fun i x r hi hx hm _ ih => ?_)
  refine Ev.step (fun k => by rw [dO.l0]) (aU (by omega) (aU (by omega) (aU (by omega) (aU rfl ?_))))
  rw [dP hi (by omega)]
  exact ih
theorem zQ (s : List ByteArray) (f : List aC) (p : List aB) (v : List aA) (hs : s.length ≤ 1000000) (hf : f.length ≤ 1000000) (hp : p.length ≤ 1000000) (hv : v.length ≤ 1000000) :
    Ev (fun k => bE.f k s f p v s f p v) true := by
  have L2 : Ev (fun k => bE.l2 k v v 0) true := by
    refine eQ cW v (P := fun i r => Ev (fun k => bE.l2 k v v (i : Int)) true)
      (by refine Ev.step (fun k => by rw [bE.l2]) ?_; exact cB (by omega) (aZ rfl)) (fun i x r hi hx hm _ ih => ?_)
    refine Ev.step (fun k => by rw [bE.l2]) (aU (by omega) (aU (by omega) (aU (by omega) (aU (by simp) ?_))))
    rw [dP hi (by omega)]
    exact ih
  have L1 : Ev (fun k => bE.l1 k p v p v 0) true := by
    refine eQ cV p (P := fun i r => Ev (fun k => bE.l1 k p v p v (i : Int)) true)
      (by refine Ev.step (fun k => by rw [bE.l1]) ?_; exact cB (by omega) L2) (fun i x r hi hx hm _ ih => ?_)
    refine Ev.step (fun k => by rw [bE.l1]) (aU (by omega) (aU (by omega) (aU (by omega) (aU (by simp) ?_))))
    rw [dP hi (by omega)]
    exact ih
  have L0 : Ev (fun k => bE.l0 k f p v f p v 0) true := by
    refine eQ dG f (P := fun i r => Ev (fun k => bE.l0 k f p v f p v (i : Int)) true)
      (by refine Ev.step (fun k => by rw [bE.l0]) ?_; exact cB (by omega) L1) (fun i x r hi hx hm _ ih => ?_)
    refine Ev.step (fun k => by rw [bE.l0]) (aU (by omega) (aU (by omega) (aU (by omega) (aU (by simp) ?_))))
    rw [dP hi (by omega)]
    exact ih
  unfold bE.f
  exact Ev.bind (zI s (by omega)) (aU rfl (aU rfl (aU rfl (aU rfl L0))))
theorem aGB {m : Nat} (hm : m ≤ 100) {s : List ByteArray} {f : List aC} {p : List aB} {v : List aA} (h : PD m s f p v) : SzP s f p v := by
  have := h.ls; have := h.lf; have := h.lp; have := h.lv
  refine ⟨by omega, by omega, by omega, by omega, fun x hx => by have := h.s1 x hx; omega, fun x hx => by have := h.f1 x hx; omega, fun x hx => by have := h.p1 x hx; omega, fun x hx => by have := h.v1 x hx; omega⟩
def mI (s : List ByteArray) (f : List aC) (p : List aB) (v : List aA) : ByteArray := if iR s f p v = true then mE s f p v else (⟨#[]⟩ : ByteArray)
theorem vK {s : List ByteArray} {f : List aC} {p : List aB} {v : List aA} (z : SzP s f p v) : Ev (fun k => aR.f k s f p v) (mI s f p v) := by
  have hI := mS _ _ _ _ z
  have hv := @aGF s f p v
  unfold aR.f mI
  generalize iR s f p v = b at *
  refine Ev.bind hI ?_
  cases b
  · exact cB (by simp) (aZ rfl)
  · exact aU rfl (aLS _ _ _ _ (hv rfl) _ (by rw [z0]; omega))
theorem zM {s : List ByteArray} {f : List aC} {p : List aB} {v : List aA} : (mI s f p v).size ≤ 1048576 := by
  unfold mI
  split
  · rename_i h
    have hp := aGF h
    have hd := wA.1 h
    have := hd.ls; have := hd.lf; have := hd.lp; have := hd.lv
    have h1 := nB kG 100 s (⟨#[]⟩ : ByteArray) (fun x hx => by have := hp.s x hx; unfold kG; simp only [ByteArray.size_append, zs, zn]; omega)
    have h2 := nB jJ 100 f (cat kG s (⟨#[]⟩ : ByteArray)) (fun x hx => by have := hp.f x hx; unfold jJ; simp only [ByteArray.size_append, zf, z1, zn]; omega)
    have h3 := nB iG 20000 p (cat jJ f (cat kG s (⟨#[]⟩ : ByteArray))) (fun x hx => pL (hp.p x hx))
    have h4 := nB hU 100 v (cat iG p (cat jJ f (cat kG s (⟨#[]⟩ : ByteArray)))) (fun x hx => by have := (hp.v x hx).a0; have := (hp.v x hx).a1; have := (hp.v x hx).a2; have := (hp.v x hx).a3; unfold hU; simp only [ByteArray.size_append, zv, z1, zn]; omega)
    rw [z0] at h1
    unfold mE
    omega
  · rw [z0]; omega
theorem vP {m : Nat} (hm : m ≤ 100) {s : List ByteArray} {f : List aC} {p : List aB} {v : List aA} (h : PD m s f p v) : Ev (fun k => aQ.f k s f p v) (mI s f p v) := by
  have hS := mO s f p v (by have := h.ls; omega) (by have := h.lf; omega) (by have := h.lp; omega) (by have := h.lv; omega)
  have hv := @aGF s f p v
  unfold aQ.f mI
  generalize iR s f p v = b at *
  refine Ev.bind hS ?_
  cases b
  · exact cB (by simp) (aZ rfl)
  · exact aU rfl (aMB _ _ _ _ (hv rfl) _ (by rw [z0]; omega))
theorem vZ (x : List Int) (h : ∀ z ∈ x, (Lit.int .u8 z).wf = true) : ExP (fun k => eO.f k x) (fun t => PD 1 t.1 t.2.1 t.2.2.1 t.2.2.2) := by
  unfold eO.f
  obtain ⟨b, hb, e⟩ := aBQ x (xN h)
  refine dI e ?_
  dsimp only
  refine dX (xB hb) (fun t ht => dC ht.1)
abbrev TF := List ByteArray × List aC × List aB × List aA × ByteArray × ByteArray
def QF (t : TF) : Prop := PD 1 t.1 t.2.1 t.2.2.1 t.2.2.2.1
theorem wP (x : List Int) (h : ∀ z ∈ x, (Lit.int .u8 z).wf = true) : ExP (fun k => cL.f k x) QF := by
  unfold cL.f
  obtain ⟨b, hb, e⟩ := aBQ x (xN h)
  refine dI e ?_
  dsimp only
  refine dX (xB hb) (fun t ht => ?_)
  obtain ⟨t1, t2, t3, t4⟩ := ht
  have J : ∀ q : Int, 0 ≤ q → q ≤ 300010 → ExP (fun k => cL.j0 k b q t) QF := fun q q0 q1 => by
    refine cE (fun k => by rw [cL.j0]) ?_
    refine jA hb q0 (by omega) (by decide) (by decide) (fun w hw => kW hw (by decide)) (fun w _ => ?_)
    refine jA hb (by dsimp only; omega) (by dsimp only; omega) (by decide) (by decide) (fun w hw => kW hw (by decide)) (fun u _ => dC t1)
  rw [t2]
  have hl := t1.lf
  refine cC (fun c => gM hb t3 (by omega) (by omega) (fun a a0 a1 => cC (fun _ => gM hb (by dsimp only; omega) (by dsimp only; omega) (by omega) (fun d d0 d1 => bF d0 (bF (d1 (by omega)) (gM hb (by dsimp only; omega) (by dsimp only; omega) (by omega) (fun g _ _ => cC (fun _ => dC t1) (fun _ => dC t1)))))) (fun _ => J _ (by dsimp only; omega) (by dsimp only; omega)))) (fun _ => J _ (by omega) (by omega))
theorem xZ (f : List aC) (a b : ByteArray) : gY f b a = gY f a b := by
  unfold gY; congr 1; funext x; rw [Bool.or_comm]
theorem wT {s : List ByteArray} {f : List aC} {p : List aB} {v : List aA} (a : ByteArray) (h : iR s f p v = true) : gY f a a = false := by
  have hd := wA.1 h
  cases c : gY f a a with
  | false => rfl
  | true =>
    unfold gY at c
    rw [List.any_eq_true] at c
    obtain ⟨y, hy, q⟩ := c
    simp only [Bool.or_self, Bool.and_eq_true, decide_eq_true_eq] at q
    have hx := hd.f1 y hy
    simp only [oS, Bool.and_eq_true] at hx
    have g := hx.1
    rw [q.1, q.2, pF] at g; cases g
theorem yG (s : List ByteArray) (f : List aC) (p : List aB) (v : List aA) (a b : ByteArray) (hf : f.length ≤ 1000) : Ev (fun k => cN.f k s f p v a b) (gY f a b) := by
  unfold cN.f gY
  refine eQ dG f (P := fun i r => Ev (fun k => cN.l0 k f a b (i : Int)) (r.any fun x => (decide (x.f0 = a) && decide (x.f1 = b)) || (decide (x.f0 = b) && decide (x.f1 = a))))
    (by refine Ev.step (fun k => by rw [cN.l0]) ?_; exact cB (by omega) (aZ rfl)) (fun i x r hi hx hm _ ih => ?_)
  refine Ev.step (fun k => by rw [cN.l0]) (aU (by omega) (aU (by omega) ?_))
  rw [dP hi (by omega), rdF, hx]
  simp only [dF]
  rw [List.any_cons]
  have hno : ∀ c : Bool, c = false → Ev (fun k => cN.l0 k f a b ((i + 1 : Nat) : Int)) (c || r.any fun x => (decide (x.f0 = a) && decide (x.f1 = b)) || (decide (x.f0 = b) && decide (x.f1 = a))) := fun c hc => by subst hc; exact ih
  refine bL (fun c1 => bL (fun c2 => aZ ?_) (fun c2 => bL (fun c3 => bL (fun c4 => aZ ?_) (fun c4 => hno _ ?_)) (fun c3 => hno _ ?_))) (fun c1 => bL (fun c3 => bL (fun c4 => aZ ?_) (fun c4 => hno _ ?_)) (fun c3 => hno _ ?_))
  · simp [c1, c2]
  · simp [c3, c4]
  · rw [decide_eq_false c2, decide_eq_false c4]; simp
  · rw [decide_eq_false c2, decide_eq_false c3]; simp
  · simp [c3, c4]
  · rw [decide_eq_false c1, decide_eq_false c4]; simp
  · rw [decide_eq_false c1, decide_eq_false c3]; simp
theorem FnPlantPrint : ∀ (x0 : List Int) (x1 : List Int), ((x0.length ≤ 9223372036854775807 ∧ x0.length * 1 ≤ 140737488351232) ∧ ∀ z ∈ x0, (Lit.int .u8 z).wf = true) → ((x1.length ≤ 9223372036854775807 ∧ x1.length * 1 ≤ 140737488351232) ∧ ∀ z ∈ x1, (Lit.int .u8 z).wf = true) → ∃ k, cX.f k x0 x1 = some true := by
  intro x0 x1 h0 h1
  obtain ⟨_, k0⟩ := h0
  obtain ⟨_, k1⟩ := h1
  obtain ⟨⟨s, f, p, v⟩, hd, hp⟩ := vZ x0 k0
  obtain ⟨⟨s', f', p', v', a, b⟩, hd', hp'⟩ := wP x1 k1
  dsimp only at hp
  have hp' : PD 1 s' f' p' v' := hp'
  have z := aGB (by omega) hp
  have z' := aGB (by omega) hp'
  have eS := mO s f p v (by have := hp.ls; omega) (by have := hp.lf; omega) (by have := hp.lp; omega) (by have := hp.lv; omega)
  have eI := mS _ _ _ _ z
  have eS' := mO s' f' p' v' (by have := hp'.ls; omega) (by have := hp'.lf; omega) (by have := hp'.lp; omega) (by have := hp'.lv; omega)
  have eI' := mS _ _ _ _ z'
  have hlf := hp'.lf
  have pS := vP (by omega) hp
  have pI := vK z
  have eP := wM (mI s f p v) zM
  have eW := zQ s f p v (by have := hp.ls; omega) (by have := hp.lf; omega) (by have := hp.lp; omega) (by have := hp.lv; omega)
  have fI : ∀ c d, Ev (fun k => eB.f k s' f' p' v' c d) (iR s' f' p' v' && gY f' c d) := fun c d => by
    unfold eB.f
    refine Ev.bind eI' (gT (fun q => ?_) (fun q => aZ ?_))
    · rw [q]
      exact Ev.bind (tA s' f' p' v' (by omega)) (Ev.bind (rI f' c d (by omega)) (aZ rfl))
    · rw [q]; rfl
  have fS : ∀ c d, Ev (fun k => gI.f k s' f' p' v' c d) (iR s' f' p' v' && gY f' c d) := fun c d => by
    unfold gI.f
    refine Ev.bind eS' (gT (fun q => ?_) (fun q => aZ ?_))
    · rw [q]
      exact Ev.bind (yG s' f' p' v' c d (by omega)) (aZ rfl)
    · rw [q]; rfl
  have J : Ev (fun k => cX.j0 k x1) true := by
    refine Ev.step (fun k => by rw [cX.j0]) ?_
    refine Ev.bind hd' ?_
    dsimp only
    refine Ev.bind (fI a b) (Ev.bind (fS a b) (aU (by simp) (Ev.bind (fI a b) (Ev.bind (fI b a) (aU (by rw [xZ f' a b]; simp) (Ev.bind (fI a a) (aZ ?_)))))))
    cases q : iR s' f' p' v' with
    | false => rfl
    | true => rw [wT a q]; rfl
  refine Ev.rounds ?_
  unfold cX.f
  refine bL (fun _ => aZ rfl) (fun _ => bL (fun _ => aZ rfl) (fun _ => Ev.bind hd ?_))
  dsimp only
  refine Ev.bind pI (Ev.bind pS (aU rfl (Ev.bind eI (Ev.bind eS (cB (by simp) (Ev.bind eP (Ev.bind eS (gT (fun c => ?_) (fun _ => J)))))))))
  have hE : tG (mI s f p v) = (s, f, p, v, 0, 0) := by unfold mI; rw [if_pos c]; exact aAF (wA.1 c)
  rw [hE]
  exact aU rfl (Ev.bind eW (aU rfl J))
end Go.Proofs.YtnobkcplpbkigaaGreatDoor.Pure
