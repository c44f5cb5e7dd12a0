import Derived.Test.YtjhkgbfmigfmfaaZFnPlantGuards0
namespace Go.Proofs.Ytjhkgbfmigfmfaa.Pure
open Go Go.RowKit Go.Aw Go.Proofs.Ytjhkgbfmigfmfaa.GV
set_option linter.unusedVariables false
set_option linter.unusedSimpArgs false
/-! ### general words -/
theorem aU {α : Type} {c : Prop} {d : Decidable c} {g f : Nat → Option α} {r : α} (h : c) (k : Ev g r) : Ev (fun n => @ite _ c d (g n) (f n)) r := Ev.congr (fun _ => if_pos h) k
theorem cJ {α : Type} {c : Prop} {d : Decidable c} {g f : Nat → Option α} {r : α} (h : ¬ c) (k : Ev f r) : Ev (fun n => @ite _ c d (g n) (f n)) r := Ev.congr (fun _ => if_neg h) k
theorem bI {α : Type} {a r : α} (h : a = r) : Ev (fun _ => some a) r := h ▸ Ev.now a
theorem fQ {α : Type} {g : Nat → Option α} {a r : α} (k : Ev g a) (h : a = r) : Ev g r := h ▸ k
theorem cB {α : Type} {c : Prop} {d : Decidable c} {g f : Nat → Option α} {r : α} (h : c → Ev g r) (k : ¬ c → Ev f r) : Ev (fun n => @ite _ c d (g n) (f n)) r := by
  by_cases q : c
  · exact aU q (h q)
  · exact cJ q (k q)
theorem w64 {x : Int} (h0 : -9223372036854775808 ≤ x) (h1 : x ≤ 9223372036854775807) : wrap64 x = x := by unfold wrap64; omega
theorem dU {i n : Nat} (h : i < n) (hn : n ≤ 9223372036854775807) : wrap64 ((i : Int) + 1) = ((i + 1 : Nat) : Int) := by unfold wrap64; omega
theorem qN {i : Nat} (h : ¬ i = 0) (hi : i ≤ 9223372036854775807) : wrap64 ((i : Int) - 1) = ((i - 1 : Nat) : Int) := by unfold wrap64; omega
theorem jB {α : Type} (d : α) (xs : List α) (i : Nat) (h : i < xs.length) : xs.getD i d = xs[i] := by
  rw [List.getD_eq_getElem?_getD, List.getElem?_eq_getElem h]; rfl
theorem iO {α : Type} (d : α) (xs : List α) (i : Nat) (h : i < xs.length) : xs.getD i d ∈ xs := by
  rw [jB d xs i h]; exact List.getElem_mem h
theorem wY {α : Type} (d : α) (xs : List α) (i j : Nat) (v : α) (h : i < xs.length) : (xs.set i v).getD j d = if j = i then v else xs.getD j d := by
  rw [List.getD_eq_getElem?_getD, List.getD_eq_getElem?_getD, List.getElem?_set]
  by_cases e : i = j
  · subst e; simp [h]
  · rw [if_neg e, if_neg (fun q => e q.symm)]
theorem dX {α : Type} (d : α) (xs : List α) (i : Nat) : bE d xs (i : Int) = xs.getD i d := by simp [bE]
theorem aGZ (xs : List Int) (i : Nat) : rd xs (i : Int) = xs.getD i 0 := by simp [rd]
/-- a list told from its end: what is left from place i on -/
theorem fN {α : Type} (d : α) (l : List α) {P : Nat → List α → Prop} (h0 : P l.length []) (hs : ∀ i x r, i < l.length → l.getD i d = x → x ∈ l → l.drop (i + 1) = r → P (i + 1) r → P i (x :: r)) : P 0 l := by
  have key : ∀ (n i : Nat), i + n = l.length → P i (l.drop i) := fun n => by
    induction n with
    | zero =>
      intro i hi
      have e : i = l.length := by omega
      subst e; rw [List.drop_length]; exact h0
    | succ n ih =>
      intro i hi
      have hlt : i < l.length := by omega
      have e : l.drop i = l.getD i d :: l.drop (i + 1) := by rw [List.drop_eq_getElem_cons hlt, jB d l i hlt]
      rw [e]
      exact hs i _ _ hlt rfl (iO d l i hlt) rfl (ih (i + 1) (by omega))
  simpa using key l.length 0 (by omega)
/-- the element ahead of place i -/
def ahead {α : Type} (d : α) (l : List α) (i : Nat) : Option α := if i = 0 then none else some (l.getD (i - 1) d)
theorem jU {α : Type} (d : α) (l : List α) : ahead d l 0 = none := rfl
theorem jV {α : Type} (d : α) (l : List α) (i : Nat) : ahead d l (i + 1) = some (l.getD i d) := by simp [ahead]
theorem kI {α : Type} (d : α) (l : List α) (i : Nat) (h : ¬ i = 0) : ahead d l i = some (l.getD (i - 1) d) := if_neg h
/-! ### the order of bytes -/
theorem pX : ∀ x : List UInt8, Op.bytesLess x x = false
  | [] => rfl
  | a :: x => by simp [Op.bytesLess, pX x]
theorem nQ : ∀ x y : List UInt8, Op.bytesLess x y = true → Op.bytesLess y x = false
  | [], [], _ => rfl
  | [], _ :: _, _ => rfl
  | _ :: _, [], h => by simp [Op.bytesLess] at h
  | a :: x, b :: y, h => by
    simp only [Op.bytesLess, Bool.or_eq_true, Bool.and_eq_true, decide_eq_true_eq, beq_iff_eq] at h
    simp only [Op.bytesLess, Bool.or_eq_false_iff, Bool.and_eq_false_iff, decide_eq_false_iff_not, beq_eq_false_iff_ne]
    rcases h with h | ⟨rfl, h⟩
    · exact ⟨UInt8.lt_asymm h, .inl (fun e => by subst e; exact UInt8.lt_irrefl _ h)⟩
    · exact ⟨UInt8.lt_irrefl _, .inr (nQ x y h)⟩
theorem sH : ∀ x y : List UInt8, Op.bytesLess x y = true ∨ x = y ∨ Op.bytesLess y x = true
  | [], [] => .inr (.inl rfl)
  | [], _ :: _ => .inl rfl
  | _ :: _, [] => .inr (.inr rfl)
  | a :: x, b :: y => by
    simp only [Op.bytesLess, Bool.or_eq_true, Bool.and_eq_true, decide_eq_true_eq, beq_iff_eq, List.cons.injEq]
    rcases UInt8.lt_or_lt_of_ne (a := a) (b := b) |> fun f => (Classical.em (a = b)).imp id f with rfl | h | h
    · rcases sH x y with q | rfl | q
      · exact .inl (.inr ⟨rfl, q⟩)
      · exact .inr (.inl ⟨rfl, rfl⟩)
      · exact .inr (.inr (.inr ⟨rfl, q⟩))
    · exact .inl (.inl h)
    · exact .inr (.inr (.inl h))
theorem vY : ∀ x y z : List UInt8, Op.bytesLess x y = true → Op.bytesLess y z = true → Op.bytesLess x z = true
  | [], _, _ :: _, _, _ => rfl
  | [], [], [], h, _ => h
  | [], _ :: _, [], _, h => by simp [Op.bytesLess] at h
  | _ :: _, [], _, h, _ => by simp [Op.bytesLess] at h
  | _ :: _, _ :: _, [], _, h => by simp [Op.bytesLess] at h
  | a :: x, b :: y, c :: z, h, k => by
    simp only [Op.bytesLess, Bool.or_eq_true, Bool.and_eq_true, decide_eq_true_eq, beq_iff_eq] at h k ⊢
    rcases h with h | ⟨rfl, h⟩
    · rcases k with k | ⟨rfl, k⟩
      · exact .inl (UInt8.lt_trans h k)
      · exact .inl h
    · rcases k with k | ⟨rfl, k⟩
      · exact .inl k
      · exact .inr ⟨rfl, vY x y z h k⟩
theorem yS {a b : ByteArray} (h : a.toList = b.toList) : a = b := by
  apply ByteArray.ext
  apply Array.ext'
  simpa [ByteArray.toList_eq] using h
theorem cR {a b : ByteArray} : a.toList = b.toList ↔ a = b := ⟨yS, fun h => h ▸ rfl⟩
/-- a text ahead of another -/
def lt (a b : ByteArray) : Bool := Op.bytesLess a.toList b.toList
theorem aCF (a : ByteArray) : lt a a = false := pX _
theorem kZ {a b : ByteArray} (h : lt a b = true) : lt b a = false := nQ _ _ h
theorem lt_trans {a b c : ByteArray} (h : lt a b = true) (k : lt b c = true) : lt a c = true := vY _ _ _ h k
theorem vR (a b : ByteArray) : lt a b = true ∨ a = b ∨ lt b a = true := (sH a.toList b.toList).imp id (·.imp yS id)
theorem rS {a b : ByteArray} (h : lt a b = true) : a ≠ b := fun e => by rw [e, aCF] at h; cases h
/-- pair by pair: the first, then the second -/
def vV (a0 a1 b0 b1 : ByteArray) : Bool := lt a0 b0 || (decide (a0 = b0) && lt a1 b1)
/-! ### names -/
theorem gH {α : Type} {b : Bool} {g f : Nat → Option α} {r : α} (h : b = true → Ev g r) (k : b = false → Ev f r) : Ev (fun n => if b = true then g n else f n) r := by
  cases b
  · exact cJ (by simp) (k rfl)
  · exact aU rfl (h rfl)
def okc (c : Int) : Bool := (decide (97 ≤ c) && decide (c ≤ 122)) || ((decide (48 ≤ c) && decide (c ≤ 57)) || decide (c = 45))
theorem aGC {c : Int} (h : 97 ≤ c ∧ c ≤ 122 ∨ 48 ≤ c ∧ c ≤ 57 ∨ c = 45) : okc c = true := by simp [okc]; omega
theorem aGI {c : Int} (h : ¬ (97 ≤ c ∧ c ≤ 122 ∨ 48 ≤ c ∧ c ≤ 57 ∨ c = 45)) : okc c = false := by
  rw [← Bool.not_eq_true]; intro q; apply h; simp [okc] at q; omega
def mC (s : ByteArray) (i : Nat) : Bool := decide (∀ j, j < s.size → i ≤ j → okc (bt s (j : Int)) = true)
theorem pD (s : ByteArray) (i : Nat) (h : i < s.size) : mC s i = (okc (bt s (i : Int)) && mC s (i + 1)) := by
  unfold mC
  rw [Bool.eq_iff_iff, Bool.and_eq_true, decide_eq_true_iff, decide_eq_true_iff]
  refine ⟨fun q => ⟨q i h (Nat.le_refl _), fun j hj hi => q j hj (by omega)⟩, fun q j hj hi => ?_⟩
  by_cases e : j = i
  · rw [e]; exact q.1
  · exact q.2 j hj (by omega)
theorem qS (s : ByteArray) : mC s s.size = true := by
  unfold mC
  rw [decide_eq_true_iff]
  intro j hj hi; omega
def kD (s : ByteArray) : Bool := decide (1 ≤ s.size ∧ s.size ≤ 8) && mC s 0
/-- a walk over the places of a text -/
theorem oZ (n : Nat) {P : Nat → Prop} (h0 : P n) (hs : ∀ i, i < n → P (i + 1) → P i) : P 0 := by
  have key : ∀ (m i : Nat), i + m = n → P i := fun m => by
    induction m with
    | zero => intro i hi; have e : i = n := by omega
              subst e; exact h0
    | succ m ih => intro i hi; exact hs i (by omega) (ih (i + 1) (by omega))
  exact key n 0 (by omega)
/-- each before the next -/
def cZ {α : Type} (p : α → α → Bool) : Option α → List α → Bool
  | _, [] => true
  | none, x :: r => cZ p (some x) r
  | some y, x :: r => p y x && cZ p (some x) r
def lI (l : List ByteArray) : Bool := l.all kD && cZ lt none l
def dZ (l : List ByteArray) (s : ByteArray) : Bool := l.any fun x => decide (x = s)
theorem eK {l : List ByteArray} {s : ByteArray} : dZ l s = true ↔ s ∈ l := by
  unfold dZ
  rw [List.any_eq_true]
  exact ⟨fun ⟨x, h, e⟩ => by simp at e; exact e ▸ h, fun h => ⟨s, h, by simp⟩⟩
def inB (a b c : Int) : Bool := decide (b ≤ a ∧ a ≤ c)
theorem aIN {a b c : Int} (h : b ≤ a ∧ a ≤ c) : inB a b c = true := decide_eq_true h
theorem aIO {a b c : Int} (h : ¬ (b ≤ a ∧ a ≤ c)) : inB a b c = false := decide_eq_false h
theorem pQ (a b c : Int) : Ev (fun _ => gF.f a b c) (inB a b c) := by
  unfold gF.f inB
  refine cB (fun h => bI (decide_eq_decide.2 (by omega))) (fun h => bI ?_)
  symm; apply decide_eq_false; omega
theorem gK (s : ByteArray) : Ev (fun k => aX.f k s) (kD s) := by
  unfold aX.f kD
  refine Ev.bind (pQ _ _ _) (gH (fun h => ?_) (fun h => bI ?_))
  · have hs : 1 ≤ s.size ∧ s.size ≤ 8 := by have : inB _ _ _ = true := h; unfold inB at this; have := of_decide_eq_true this; omega
    rw [decide_eq_true hs, Bool.true_and]
    refine oZ s.size (P := fun i => Ev (fun k => aX.l0 k s (i : Int)) (mC s i))
      (by refine Ev.step (fun k => by rw [aX.l0]) ?_; exact cJ (by omega) (bI (qS s).symm)) (fun i hi ih => ?_)
    refine Ev.step (fun k => by rw [aX.l0]) (aU (by omega) (aU (by omega) ?_))
    rw [dU hi (by omega), pD s i hi]
    generalize bt s (i : Int) = c
    repeat' (first | (refine cB (fun _ => ?_) (fun _ => ?_)) | (rw [aGC (by omega), Bool.true_and]; exact ih) | (rw [aGI (by omega)]; exact bI rfl))
  · have hs : ¬ (1 ≤ s.size ∧ s.size ≤ 8) := fun q => by have : inB _ _ _ = false := h; unfold inB at this; have := of_decide_eq_false this; omega
    rw [decide_eq_false hs]; rfl
theorem iN (l : List ByteArray) (s : ByteArray) (hn : l.length ≤ 140737488351232) : Ev (fun k => cG.f k l s) (dZ l s) := by
  unfold cG.f dZ
  refine fN ByteArray.empty l (P := fun i r => Ev (fun k => cG.l0 k l s (i : Int)) (r.any fun x => decide (x = s)))
    (by refine Ev.step (fun k => by rw [cG.l0]) ?_; exact cJ (by omega) (bI rfl)) (fun i x r hi hx _ _ ih => ?_)
  refine Ev.step (fun k => by rw [cG.l0]) (aU (by omega) (aU (by omega) ?_))
  rw [dU hi (by omega), dX, hx]
  refine cB (fun c => bI ?_) (fun c => fQ ih ?_)
  · simp [cR.1 c]
  · simp [show ¬ x = s from fun e => c (cR.2 e)]
theorem gQ (s : ByteArray) (hn : s.size ≤ 140737488351232) : Ev (fun k => cN.f k s) (kD s) := by
  unfold cN.f kD
  refine oZ s.size (P := fun i => Ev (fun k => cN.l0 k s (i : Int)) (decide (1 ≤ s.size ∧ s.size ≤ 8) && mC s i))
    (by
      refine Ev.step (fun k => by rw [cN.l0]) (cJ (by omega) ?_)
      rw [qS, Bool.and_true]
      refine cB (fun h => bI (decide_eq_decide.2 (by omega))) (fun h => bI ?_)
      symm; apply decide_eq_false; omega) (fun i hi ih => ?_)
  refine Ev.step (fun k => by rw [cN.l0]) (aU (by omega) (aU (by omega) ?_))
  rw [dU hi (by omega), pD s i hi]
  generalize bt s (i : Int) = c
  repeat' (first | (refine cB (fun _ => ?_) (fun _ => ?_)) | (rw [aGC (by omega), Bool.true_and]; exact ih) | (rw [aGI (by omega), Bool.false_and, Bool.and_false]; exact bI rfl))
theorem zD {α : Type} (p : α → α → Bool) (x : α) (r : List α) : cZ p none (x :: r) = cZ p (some x) r := rfl
theorem aBH (l : List ByteArray) (hn : l.length ≤ 140737488351232) : Ev (fun k => eV.f k l) (cZ lt none l) := by
  unfold eV.f
  have key : ∀ r i, l.drop (i + 1) = r → i < l.length → Ev (fun k => eV.l0 k l ((i + 1 : Nat) : Int)) (cZ lt (some (l.getD i ByteArray.empty)) r) := fun r => by
    induction r with
    | nil =>
      intro i hd hi
      have : l.length ≤ i + 1 := List.drop_eq_nil_iff.1 hd
      refine Ev.step (fun k => by rw [eV.l0]) ?_
      exact cJ (by omega) (bI rfl)
    | cons x r ih =>
      intro i hd hi
      have hlt : i + 1 < l.length := by
        refine Nat.lt_of_not_le fun hle => ?_
        rw [List.drop_eq_nil_iff.2 hle] at hd; cases hd
      have e := List.drop_eq_getElem_cons hlt
      rw [hd] at e; injection e with e1 e2
      have hx : l.getD (i + 1) ByteArray.empty = x := by rw [jB _ l _ hlt]; exact e1.symm
      refine Ev.step (fun k => by rw [eV.l0]) (aU (by omega) ?_)
      have hw : wrap64 (((i + 1 : Nat) : Int) - 1) = ((i : Nat) : Int) := by unfold wrap64; omega
      rw [hw, dX, dX, hx, dU hlt (by omega)]
      refine aU (by omega) (aU (by omega) (aU (by omega) (gH (fun c => ?_) (fun c => bI ?_))))
      · have c : lt (l.getD i ByteArray.empty) x = true := c
        have := ih (i + 1) e2.symm hlt
        rw [hx] at this
        simp only [cZ, c, Bool.true_and]; exact this
      · have c : lt (l.getD i ByteArray.empty) x = false := c
        simp only [cZ, c, Bool.false_and]
  cases l with
  | nil =>
    refine Ev.step (fun k => by rw [eV.l0]) ?_
    exact cJ (show ¬ (1 : Int) < ((0 : Nat) : Int) by omega) (bI rfl)
  | cons x r =>
    rw [zD]
    exact key r 0 rfl (by simp)
theorem aED (l : List ByteArray) (hn : l.length ≤ 140737488351232) (h : ∀ x ∈ l, x.size ≤ 140737488351232) : Ev (fun k => fG.f k l) (lI l) := by
  unfold fG.f lI
  refine fN ByteArray.empty l (P := fun i r => Ev (fun k => fG.l0 k l (i : Int)) (r.all kD && cZ lt none l))
    (by refine Ev.step (fun k => by rw [fG.l0]) ?_; exact cJ (by omega) (Ev.bind (aBH l hn) (bI rfl))) (fun i x r hi hx hm _ ih => ?_)
  refine Ev.step (fun k => by rw [fG.l0]) (aU (by omega) (aU (by omega) ?_))
  rw [dU hi (by omega), dX, hx]
  refine Ev.bind (gQ x (h x hm)) (gH (fun c => ?_) (fun c => bI ?_))
  · simpa [c] using ih
  · simp [c]
theorem mF (l : List ByteArray) (s : ByteArray) (hn : l.length ≤ 140737488351232) : Ev (fun k => eX.f k l s) (dZ l s) := by
  have key : ∃ v : Int, (decide (v ≥ 0) = dZ l s) ∧ Ev (fun k => bK.f k l s) v := by
    unfold bK.f dZ
    refine fN ByteArray.empty l (P := fun i r => ∃ v : Int, (decide (v ≥ 0) = r.any fun x => decide (x = s)) ∧ Ev (fun k => bK.l0 k l s (i : Int)) v)
      ⟨-1, rfl, Ev.step (fun k => by rw [bK.l0]) (cJ (by omega) (bI rfl))⟩ (fun i x r hi hx _ _ ih => ?_)
    obtain ⟨v, hv, he⟩ := ih
    by_cases c : x = s
    · refine ⟨(i : Int), by simp [c], Ev.step (fun k => by rw [bK.l0]) ?_⟩
      rw [dX, hx]
      exact aU (by omega) (aU (by omega) (aU (by rw [c]) (bI rfl)))
    · refine ⟨v, by simpa [c] using hv, Ev.step (fun k => by rw [bK.l0]) ?_⟩
      rw [dX, hx, dU hi (by omega)]
      exact aU (by omega) (aU (by omega) (cJ (fun q => c (yS q).symm) he))
  obtain ⟨v, hv, he⟩ := key
  unfold eX.f fC.f
  exact Ev.bind (Ev.bind he (bI hv)) (bI rfl)
/-! ### plants: what a valid one is -/
theorem rdF (l : List aF) (i : Nat) : bV l (i : Int) = l.getD i fR := by unfold bV; rw [Int.toNat_natCast]
theorem rdP (l : List aB) (i : Nat) : aO l (i : Int) = l.getD i dQ := by unfold aO; rw [Int.toNat_natCast]
theorem rdV (l : List aA) (i : Nat) : aH l (i : Int) = l.getD i cH := by unfold aH; rw [Int.toNat_natCast]
def sP (x y : aF) : Bool := vV x.f0 x.f1 y.f0 y.f1
def xG (s : List ByteArray) (x : aF) : Bool := lt x.f0 x.f1 && (dZ s x.f0 && dZ s x.f1)
def qU (s : List ByteArray) (f : List aF) : Bool := f.all (xG s) && cZ sP none f
def jQ (x y : aB) : Bool := lt x.f0 y.f0
def jR (x : aB) : Bool := kD x.f0 && (inB x.f1 0 1000 && kD x.f2)
def lY (p : List aB) : Bool := p.all jR && cZ jQ none p
def dP (p : List aB) (x : ByteArray) : Bool := p.any fun y => decide (y.f0 = x)
def iL (x y : aA) : Bool := lt x.f0 y.f0
def jW (p : List aB) (x : aA) : Bool := kD x.f0 && (lt x.f1 x.f2 && (dP p x.f1 && (dP p x.f2 && kD x.f3)))
def kB (p : List aB) (v : List aA) : Bool := v.all (jW p) && cZ iL none v
def fT (s : List ByteArray) (f : List aF) (p : List aB) (v : List aA) : Bool :=
  (decide (s.length ≤ 8) && decide (f.length ≤ 12)) && ((lI s && qU s f) && ((decide (p.length ≤ 14) && lY p) && (decide (v.length ≤ 18) && kB p v)))
theorem kM (a0 a1 b0 b1 : ByteArray) : Ev (fun _ => fU.f a0 a1 b0 b1) (vV a0 a1 b0 b1) := by
  unfold fU.f
  repeat' (first
    | with_reducible refine aU (by omega) ?_
    | with_reducible refine cJ (by omega) ?_
    | with_reducible refine gH (fun c => ?_) (fun c => ?_)
    | with_reducible refine cB (fun c => ?_) (fun c => ?_))
  all_goals (first
    | (with_reducible refine bI ?_; simp_all [cZ, lt, cR, vV]; done)
    | (with_reducible refine fQ (ih) ?_; simp_all [cZ, lt, cR, vV]; done))
theorem yG (s : List ByteArray) (f : List aF) (hs : s.length ≤ 140737488351232) (hf : f.length ≤ 140737488351232) : Ev (fun k => bO.l1 k s f 0) (qU s f) := by
  refine fN fR f (P := fun i r => Ev (fun k => bO.l1 k s f (i : Int)) (r.all (xG s) && cZ sP (ahead fR f i) r))
    (by refine Ev.step (fun k => by rw [bO.l1]) ?_; exact cJ (by omega) (bI rfl)) (fun i x r hi hx _ _ ih => ?_)
  refine Ev.step (fun k => by rw [bO.l1]) (aU (by omega) (aU (by omega) ?_))
  rw [dU hi (by omega), rdF, hx]
  rw [jV, hx] at ih
  clear hx
  by_cases z : i = 0
  · subst z
    rw [jU]
    repeat' (first
      | with_reducible refine Ev.bind (iN _ _ hs) ?_
      | with_reducible refine aU (by omega) ?_
      | with_reducible refine cJ (by omega) ?_
      | with_reducible refine gH (fun c => ?_) (fun c => ?_)
      | with_reducible refine cB (fun c => ?_) (fun c => ?_))
    all_goals (first
      | (with_reducible refine bI ?_; simp_all [cZ, lt, cR, xG, sP]; done)
      | (with_reducible refine fQ (ih) ?_; simp_all [cZ, lt, cR, xG, sP]; done))
  · rw [qN z (by omega), rdF, kI _ _ _ z]
    generalize f.getD (i - 1) fR = y
    repeat' (first
      | with_reducible refine Ev.bind (iN _ _ hs) ?_
      | with_reducible refine Ev.bind (kM _ _ _ _) ?_
      | with_reducible refine aU (by omega) ?_
      | with_reducible refine cJ (by omega) ?_
      | with_reducible refine gH (fun c => ?_) (fun c => ?_)
      | with_reducible refine cB (fun c => ?_) (fun c => ?_))
    all_goals (first
      | (with_reducible refine bI ?_; simp_all [cZ, lt, cR, xG, sP]; done)
      | (with_reducible refine fQ (ih) ?_; simp_all [cZ, lt, cR, xG, sP]; done))
theorem wU (s : List ByteArray) (f : List aF) (p : List aB) (v : List aA) (hs : s.length ≤ 140737488351232) (hf : f.length ≤ 140737488351232) :
    Ev (fun k => bO.f k s f p v) ((decide (s.length ≤ 8) && decide (f.length ≤ 12)) && (lI s && qU s f)) := by
  have L1 := yG s f hs hf
  generalize qU s f = T at L1 ⊢
  have L0 : Ev (fun k => bO.l0 k s f 0) (lI s && T) := by
    refine fN ByteArray.empty s (P := fun i r => Ev (fun k => bO.l0 k s f (i : Int)) ((r.all kD && cZ lt (ahead ByteArray.empty s i) r) && T))
      (by refine Ev.step (fun k => by rw [bO.l0]) ?_; exact cJ (by omega) L1) (fun i x r hi hx _ _ ih => ?_)
    refine Ev.step (fun k => by rw [bO.l0]) (aU (by omega) (aU (by omega) ?_))
    rw [dU hi (by omega), dX, hx]
    rw [jV, hx] at ih
    clear hx L1
    by_cases z : i = 0
    · subst z
      rw [jU]
      repeat' (first
        | with_reducible refine Ev.bind (gK _) ?_
        | with_reducible refine aU (by omega) ?_
        | with_reducible refine cJ (by omega) ?_
        | with_reducible refine gH (fun c => ?_) (fun c => ?_)
        | with_reducible refine cB (fun c => ?_) (fun c => ?_))
      all_goals (first
        | (with_reducible refine bI ?_; simp_all [cZ, lt, cR]; done)
        | (with_reducible refine fQ (ih) ?_; simp_all [cZ, lt, cR]; done))
    · rw [qN z (by omega), dX, kI _ _ _ z]
      generalize s.getD (i - 1) ByteArray.empty = y
      repeat' (first
        | with_reducible refine Ev.bind (gK _) ?_
        | with_reducible refine aU (by omega) ?_
        | with_reducible refine cJ (by omega) ?_
        | with_reducible refine gH (fun c => ?_) (fun c => ?_)
        | with_reducible refine cB (fun c => ?_) (fun c => ?_))
      all_goals (first
        | (with_reducible refine bI ?_; simp_all [cZ, lt, cR]; done)
        | (with_reducible refine fQ (ih) ?_; simp_all [cZ, lt, cR]; done))
  unfold bO.f
  refine cB (fun c => bI ?_) (fun c => cB (fun d => bI ?_) (fun d => fQ L0 ?_))
  · rw [decide_eq_false (by omega : ¬ s.length ≤ 8)]; rfl
  · rw [decide_eq_false (by omega : ¬ f.length ≤ 12), Bool.and_false]; rfl
  · rw [decide_eq_true (by omega : s.length ≤ 8), decide_eq_true (by omega : f.length ≤ 12)]; rfl
theorem wD (s : List ByteArray) (f : List aF) (p : List aB) (v : List aA) (hp : p.length ≤ 140737488351232) :
    Ev (fun k => dD.f k s f p v) (decide (p.length ≤ 14) && lY p) := by
  unfold dD.f
  refine cB (fun c => bI (by rw [decide_eq_false (by omega : ¬ p.length ≤ 14)]; rfl)) (fun c => ?_)
  rw [decide_eq_true (by omega : p.length ≤ 14), Bool.true_and]
  refine fN dQ p (P := fun i r => Ev (fun k => dD.l0 k p (i : Int)) (r.all jR && cZ jQ (ahead dQ p i) r))
    (by refine Ev.step (fun k => by rw [dD.l0]) ?_; exact cJ (by omega) (bI rfl)) (fun i x r hi hx _ _ ih => ?_)
  refine Ev.step (fun k => by rw [dD.l0]) (aU (by omega) (aU (by omega) ?_))
  rw [dU hi (by omega), rdP, hx]
  rw [jV, hx] at ih
  clear hx
  by_cases z : i = 0
  · subst z
    rw [jU]
    repeat' (first
      | with_reducible refine Ev.bind (gK _) ?_
      | with_reducible refine Ev.bind (pQ _ _ _) ?_
      | with_reducible refine aU (by omega) ?_
      | with_reducible refine cJ (by omega) ?_
      | with_reducible refine gH (fun c => ?_) (fun c => ?_)
      | with_reducible refine cB (fun c => ?_) (fun c => ?_))
    all_goals (first
      | (with_reducible refine bI ?_; simp_all [cZ, lt, cR, jR, jQ]; done)
      | (with_reducible refine fQ (ih) ?_; simp_all [cZ, lt, cR, jR, jQ]; done))
  · rw [qN z (by omega), rdP, kI _ _ _ z]
    generalize p.getD (i - 1) dQ = y
    repeat' (first
      | with_reducible refine Ev.bind (gK _) ?_
      | with_reducible refine Ev.bind (pQ _ _ _) ?_
      | with_reducible refine aU (by omega) ?_
      | with_reducible refine cJ (by omega) ?_
      | with_reducible refine gH (fun c => ?_) (fun c => ?_)
      | with_reducible refine cB (fun c => ?_) (fun c => ?_))
    all_goals (first
      | (with_reducible refine bI ?_; simp_all [cZ, lt, cR, jR, jQ]; done)
      | (with_reducible refine fQ (ih) ?_; simp_all [cZ, lt, cR, jR, jQ]; done))
/-- where a place lies, -1 if there is none -/
def jC (x : ByteArray) : List aB → Int → Int
  | [], _ => -1
  | y :: r, i => if y.f0 = x then i else jC x r (i + 1)
theorem qP (x : ByteArray) : ∀ (r : List aB) (i : Int), 0 ≤ i → (decide (jC x r i < 0) = !dP r x) ∧ (dP r x = true → i ≤ jC x r i)
  | [], i, h => ⟨rfl, fun h => by simp [dP] at h⟩
  | y :: r, i, h => by
    obtain ⟨h1, h2⟩ := qP x r (i + 1) (by omega)
    rw [show jC x (y :: r) i = if y.f0 = x then i else jC x r (i + 1) from rfl, show dP (y :: r) x = (decide (y.f0 = x) || dP r x) from rfl]
    by_cases c : y.f0 = x
    · rw [if_pos c, decide_eq_true c, Bool.true_or]
      exact ⟨decide_eq_false (by omega), fun _ => Int.le_refl _⟩
    · rw [if_neg c, decide_eq_false c, Bool.false_or]
      exact ⟨h1, fun q => by have := h2 q; omega⟩
theorem lH (s : List ByteArray) (f : List aF) (p : List aB) (v : List aA) (x : ByteArray) (hp : p.length ≤ 140737488351232) :
    Ev (fun k => cO.f k s f p v x) (jC x p 0) := by
  unfold cO.f
  refine fN dQ p (P := fun i r => Ev (fun k => cO.l0 k p x (i : Int)) (jC x r (i : Int)))
    (by refine Ev.step (fun k => by rw [cO.l0]) ?_; exact cJ (by omega) (bI rfl)) (fun i y r hi hx _ _ ih => ?_)
  refine Ev.step (fun k => by rw [cO.l0]) (aU (by omega) (aU (by omega) ?_))
  rw [dU hi (by omega), rdP, hx]
  unfold jC
  refine cB (fun c => bI (by rw [if_pos (cR.1 c)])) (fun c => fQ ih (by rw [if_neg (fun e => c (cR.2 e))]; push_cast; rfl))
theorem kP (x : ByteArray) (p : List aB) : (jC x p 0 < 0) ↔ dP p x = false := by
  have := (qP x p 0 (Int.le_refl _)).1
  cases h : dP p x <;> rw [h] at this <;> simpa using this
theorem wN (s : List ByteArray) (f : List aF) (p : List aB) (v : List aA) (hp : p.length ≤ 140737488351232) (hv : v.length ≤ 140737488351232) :
    Ev (fun k => dC.f k s f p v) (decide (v.length ≤ 18) && kB p v) := by
  unfold dC.f
  refine cB (fun c => bI (by rw [decide_eq_false (by omega : ¬ v.length ≤ 18)]; rfl)) (fun c => ?_)
  rw [decide_eq_true (by omega : v.length ≤ 18), Bool.true_and]
  refine fN cH v (P := fun i r => Ev (fun k => dC.l0 k s f p v (i : Int)) (r.all (jW p) && cZ iL (ahead cH v i) r))
    (by refine Ev.step (fun k => by rw [dC.l0]) ?_; exact cJ (by omega) (bI rfl)) (fun i x r hi hx _ _ ih => ?_)
  refine Ev.step (fun k => by rw [dC.l0]) (aU (by omega) (aU (by omega) ?_))
  rw [dU hi (by omega), rdV, hx]
  rw [jV, hx] at ih
  clear hx
  by_cases z : i = 0
  · subst z
    rw [jU]
    repeat' (first
      | with_reducible refine Ev.bind (gK _) ?_
      | with_reducible refine Ev.bind (lH _ _ _ _ _ hp) ?_
      | with_reducible refine aU (by omega) ?_
      | with_reducible refine cJ (by omega) ?_
      | with_reducible refine gH (fun c => ?_) (fun c => ?_)
      | with_reducible refine cB (fun c => ?_) (fun c => ?_))
    all_goals (first
      | (with_reducible refine bI ?_; simp_all [cZ, lt, cR, jW, iL, kP]; done)
      | (with_reducible refine fQ (ih) ?_; simp_all [cZ, lt, cR, jW, iL, kP]; done))
  · rw [qN z (by omega), rdV, kI _ _ _ z]
    generalize v.getD (i - 1) cH = y
    repeat' (first
      | with_reducible refine Ev.bind (gK _) ?_
      | with_reducible refine Ev.bind (lH _ _ _ _ _ hp) ?_
      | with_reducible refine aU (by omega) ?_
      | with_reducible refine cJ (by omega) ?_
      | with_reducible refine gH (fun c => ?_) (fun c => ?_)
      | with_reducible refine cB (fun c => ?_) (fun c => ?_))
    all_goals (first
      | (with_reducible refine bI ?_; simp_all [cZ, lt, cR, jW, iL, kP]; done)
      | (with_reducible refine fQ (ih) ?_; simp_all [cZ, lt, cR, jW, iL, kP]; done))
theorem kY (s : List ByteArray) (f : List aF) (p : List aB) (v : List aA) (hs : s.length ≤ 140737488351232) (hf : f.length ≤ 140737488351232) (hp : p.length ≤ 140737488351232) (hv : v.length ≤ 140737488351232) :
    Ev (fun k => eZ.f k s f p v) (fT s f p v) := by
  unfold eZ.f fT
  have e1 := wU s f p v hs hf
  have e2 := wD s f p v hp
  have e3 := wN s f p v hp hv
  rw [← Bool.and_assoc]
  generalize ((decide (s.length ≤ 8) && decide (f.length ≤ 12)) && (lI s && qU s f)) = b1 at e1 ⊢
  generalize (decide (p.length ≤ 14) && lY p) = b2 at e2 ⊢
  generalize (decide (v.length ≤ 18) && kB p v) = b3 at e3 ⊢
  repeat' (first
    | with_reducible refine Ev.bind (e1) ?_
    | with_reducible refine Ev.bind (e2) ?_
    | with_reducible refine Ev.bind (e3) ?_
    | with_reducible refine aU (by omega) ?_
    | with_reducible refine cJ (by omega) ?_
    | with_reducible refine gH (fun c => ?_) (fun c => ?_)
    | with_reducible refine cB (fun c => ?_) (fun c => ?_))
  all_goals (first
    | (with_reducible refine bI ?_; simp_all [cZ, lt, cR]; done)
    | (with_reducible refine fQ (ih) ?_; simp_all [cZ, lt, cR]; done))
/-! ### plants: what the program says of them -/
def mG (x : aF) : dE := ⟨x.f0, x.f1⟩
theorem aII (l : List dE) (i : Nat) : dK l (i : Int) = l.getD i kL := by unfold dK; rw [Int.toNat_natCast]
theorem aCW (s : List ByteArray) (f : List aF) (p : List aB) (v : List aA) (hf : f.length ≤ 4398046511104) :
    Ev (fun k => cV.f k s f p v) (f.map mG) := by
  unfold cV.f
  have key := fN fR f (P := fun i r => ∀ acc : List dE, acc.length = i → Ev (fun k => cV.l0 k f acc (i : Int)) (acc ++ r.map mG))
    (fun acc h => by refine Ev.step (fun k => by rw [cV.l0]) ?_; exact cJ (by omega) (bI (by simp))) (fun i x r hi hx _ _ ih acc h => ?_)
  · simpa using key [] rfl
  refine Ev.step (fun k => by rw [cV.l0]) (aU (by omega) (aU (by omega) (aU (by omega) ?_)))
  rw [dU hi (by omega), rdF, hx]
  refine fQ (ih _ (by simp [h])) (by simp [mG])
def oF (x y : dE) : Bool := vV x.f0 x.f1 y.f0 y.f1
def qI (x : dE) : Bool := kD x.f0 && (kD x.f1 && lt x.f0 x.f1)
def vE (l : List dE) : Bool := l.all qI && cZ oF none l
theorem aEY {a0 a1 b0 b1 : ByteArray} (h : Op.bytesLess b0.toList a0.toList = false) : vV a0 a1 b0 b1 = (decide (a0 = b0 → Op.bytesLess a1.toList b1.toList = true)) := by
  unfold vV
  rcases vR a0 b0 with c | c | c
  · rw [c, decide_eq_true (fun e => absurd e (rS c))]; rfl
  · subst c; rw [aCF, decide_eq_true rfl]
    cases q : Op.bytesLess a1.toList b1.toList <;> simp [lt, q]
  · have : Op.bytesLess b0.toList a0.toList = true := c
    rw [h] at this; cases this
theorem aFR {a0 a1 b0 b1 : ByteArray} (h : Op.bytesLess b0.toList a0.toList = true) : vV a0 a1 b0 b1 = false := by
  unfold vV
  rw [kZ h, decide_eq_false (fun e => rS h e.symm)]; rfl
theorem aBI (l : List dE) (a : Int) (hn : l.length ≤ 140737488351232) (h : ∀ x ∈ l, x.f0.size ≤ 140737488351232 ∧ x.f1.size ≤ 140737488351232) :
    Ev (fun k => eQ.f k l a) (vE l && decide ((l.length : Int) ≤ a)) := by
  unfold eQ.f
  refine fN kL l (P := fun i r => Ev (fun k => eQ.l0 k l a (i : Int)) ((r.all qI && cZ oF (ahead kL l i) r) && decide ((l.length : Int) ≤ a)))
    (by refine Ev.step (fun k => by rw [eQ.l0]) ?_; exact cJ (by omega) (bI rfl)) (fun i x r hi hx hm _ ih => ?_)
  refine Ev.step (fun k => by rw [eQ.l0]) (aU (by omega) (aU (by omega) ?_))
  obtain ⟨q0, q1⟩ := h x hm
  rw [dU hi (by omega), aII, hx]
  rw [jV, hx] at ih
  generalize decide ((l.length : Int) ≤ a) = D at ih ⊢
  clear hx h hm
  by_cases z : i = 0
  · subst z
    rw [jU]
    repeat' (first
      | with_reducible refine Ev.bind (gQ _ q0) ?_
      | with_reducible refine Ev.bind (gQ _ q1) ?_
      | with_reducible refine aU (by omega) ?_
      | with_reducible refine cJ (by omega) ?_
      | with_reducible refine gH (fun c => ?_) (fun c => ?_)
      | with_reducible refine cB (fun c => ?_) (fun c => ?_))
    all_goals (first
      | (with_reducible refine bI ?_; simp_all [cZ, lt, cR, qI, oF]; done)
      | (with_reducible refine fQ (ih) ?_; simp_all [cZ, lt, cR, qI, oF]; done))
  · rw [qN z (by omega), aII, kI _ _ _ z]
    generalize l.getD (i - 1) kL = y
    have hb := @aEY y.f0 y.f1 x.f0 x.f1
    have hc := @aFR y.f0 y.f1 x.f0 x.f1
    repeat' (first
      | with_reducible refine Ev.bind (gQ _ q0) ?_
      | with_reducible refine Ev.bind (gQ _ q1) ?_
      | with_reducible refine aU (by omega) ?_
      | with_reducible refine cJ (by omega) ?_
      | with_reducible refine gH (fun c => ?_) (fun c => ?_)
      | with_reducible refine cB (fun c => ?_) (fun c => ?_))
    all_goals (first
      | (with_reducible refine bI ?_; simp_all [cZ, lt, cR, qI, oF]; done)
      | (with_reducible refine fQ (ih) ?_; simp_all [cZ, lt, cR, qI, oF]; done))
/-- the first place of a name -/
def gA (x : ByteArray) : List aB → ByteArray × Int × ByteArray × Bool
  | [] => ((⟨#[]⟩ : ByteArray), 0, (⟨#[]⟩ : ByteArray), false)
  | y :: r => if y.f0 = x then (y.f0, y.f1, y.f2, true) else gA x r
theorem kQ (x : ByteArray) : ∀ l : List aB, (gA x l).2.2.2 = dP l x
  | [] => rfl
  | y :: r => by
    rw [show dP (y :: r) x = (decide (y.f0 = x) || dP r x) from rfl, ← kQ x r, show gA x (y :: r) = if y.f0 = x then (y.f0, y.f1, y.f2, true) else gA x r from rfl]
    by_cases c : y.f0 = x
    · rw [if_pos c, decide_eq_true c]; rfl
    · rw [if_neg c, decide_eq_false c]; rfl
theorem pB (s : List ByteArray) (f : List aF) (p : List aB) (v : List aA) (x : ByteArray) (hp : p.length ≤ 140737488351232) :
    Ev (fun k => cF.f k s f p v x) (gA x p) := by
  unfold cF.f
  refine fN dQ p (P := fun i r => Ev (fun k => cF.l0 k p x (i : Int)) (gA x r))
    (by refine Ev.step (fun k => by rw [cF.l0]) ?_; exact cJ (by omega) (bI rfl)) (fun i y r hi hx _ _ ih => ?_)
  refine Ev.step (fun k => by rw [cF.l0]) (aU (by omega) (aU (by omega) ?_))
  rw [dU hi (by omega), rdP, hx]
  unfold gA
  refine cB (fun c => bI (by rw [if_pos (cR.1 c)])) (fun c => fQ ih (by rw [if_neg (fun e => c (cR.2 e))]))
theorem tJ (s : List ByteArray) (f : List aF) (p : List aB) (v : List aA) (hp : p.length ≤ 140737488351232) (hv : v.length ≤ 140737488351232)
    (hz : ∀ x ∈ v, x.f0.size ≤ 140737488351232 ∧ x.f3.size ≤ 140737488351232) : Ev (fun k => aQ.l2 k s f p v 0) (kB p v) := by
  refine fN cH v (P := fun i r => Ev (fun k => aQ.l2 k s f p v (i : Int)) (r.all (jW p) && cZ iL (ahead cH v i) r))
    (by refine Ev.step (fun k => by rw [aQ.l2]) ?_; exact cJ (by omega) (bI rfl)) (fun i x r hi hx hm _ ih => ?_)
  obtain ⟨q0, q1⟩ := hz x hm
  rw [jV, hx] at ih
  have j0 : ∀ (b : Bool) (R : Bool), R = (!b && (r.all (jW p) && cZ iL (some x) r)) → Ev (fun k => aQ.j0 k s f p v (i : Int) b) R := fun b R hR => by
    subst hR
    refine Ev.step (fun k => by rw [aQ.j0]) ?_
    rw [dU hi (by omega)]
    cases b
    · exact cJ (by simp) ih
    · exact aU rfl (bI rfl)
  refine Ev.step (fun k => by rw [aQ.l2]) (aU (by omega) (aU (by omega) ?_))
  rw [rdV, hx]
  refine Ev.bind (pB s f p v _ hp) (Ev.bind (pB s f p v _ hp) ?_)
  rw [kQ, kQ]
  clear hx hz hm
  by_cases z : i = 0
  · subst z
    rw [jU]
    repeat' (first | with_reducible refine Ev.bind (gQ _ q0) ?_ | with_reducible refine Ev.bind (gQ _ q1) ?_ | with_reducible refine aU (by omega) ?_ | with_reducible refine cJ (by omega) ?_ | with_reducible refine gH (fun c => ?_) (fun c => ?_))
    all_goals (with_reducible refine j0 _ _ ?_; simp_all [cZ, jW, lt])
  · rw [qN z (by omega), rdV, kI _ _ _ z]
    generalize v.getD (i - 1) cH = y
    repeat' (first | with_reducible refine Ev.bind (gQ _ q0) ?_ | with_reducible refine Ev.bind (gQ _ q1) ?_ | with_reducible refine aU (by omega) ?_ | with_reducible refine cJ (by omega) ?_ | with_reducible refine gH (fun c => ?_) (fun c => ?_))
    all_goals (with_reducible refine j0 _ _ ?_; first | (simp_all [cZ, jW, iL, lt]; done) | (simp_all [cZ, jW, iL, lt, Bool.and_left_comm]; done))
theorem tR (s : List ByteArray) (f : List aF) (p : List aB) (v : List aA) (hp : p.length ≤ 140737488351232) (hv : v.length ≤ 140737488351232)
    (hz : ∀ x ∈ v, x.f0.size ≤ 140737488351232 ∧ x.f3.size ≤ 140737488351232) (hy : ∀ x ∈ p, x.f0.size ≤ 140737488351232 ∧ x.f2.size ≤ 140737488351232) : Ev (fun k => aQ.l1 k s f p v 0) (lY p && kB p v) := by
  have L2 := tJ s f p v hp hv hz
  generalize kB p v = T at L2 ⊢
  refine fN dQ p (P := fun i r => Ev (fun k => aQ.l1 k s f p v (i : Int)) ((r.all jR && cZ jQ (ahead dQ p i) r) && T))
    (by refine Ev.step (fun k => by rw [aQ.l1]) ?_; exact cJ (by omega) L2) (fun i x r hi hx hm _ ih => ?_)
  refine Ev.step (fun k => by rw [aQ.l1]) (aU (by omega) (aU (by omega) ?_))
  obtain ⟨q0, q1⟩ := hy x hm
  rw [dU hi (by omega), rdP, hx]
  rw [jV, hx] at ih
  clear hx hz hy hm L2
  by_cases d : 0 ≤ x.f1 ∧ x.f1 ≤ 1000
  · have hd := aIN d
    by_cases z : i = 0
    · subst z
      rw [jU]
      repeat' (first
        | with_reducible refine Ev.bind (gQ _ q0) ?_
        | with_reducible refine Ev.bind (gQ _ q1) ?_
        | with_reducible refine aU (by omega) ?_
        | with_reducible refine cJ (by omega) ?_
        | with_reducible refine gH (fun c => ?_) (fun c => ?_)
        | with_reducible refine cB (fun c => ?_) (fun c => ?_))
      all_goals (first
        | (with_reducible refine bI ?_; simp_all [cZ, lt, cR, jR, jQ]; done)
        | (with_reducible refine fQ (ih) ?_; simp_all [cZ, lt, cR, jR, jQ]; done))
    · rw [qN z (by omega), rdP, kI _ _ _ z]
      generalize p.getD (i - 1) dQ = y
      repeat' (first
        | with_reducible refine Ev.bind (gQ _ q0) ?_
        | with_reducible refine Ev.bind (gQ _ q1) ?_
        | with_reducible refine aU (by omega) ?_
        | with_reducible refine cJ (by omega) ?_
        | with_reducible refine gH (fun c => ?_) (fun c => ?_)
        | with_reducible refine cB (fun c => ?_) (fun c => ?_))
      all_goals (first
        | (with_reducible refine bI ?_; simp_all [cZ, lt, cR, jR, jQ]; done)
        | (with_reducible refine fQ (ih) ?_; simp_all [cZ, lt, cR, jR, jQ]; done))
  · have hd := aIO d
    refine Ev.bind (gQ _ q0) (gH (fun c => cB (fun c1 => bI ?_) (fun c1 => aU (by omega) (bI ?_))) (fun c => bI ?_))
    all_goals simp_all [jR]
theorem tO (s : List ByteArray) (f : List aF) (p : List aB) (v : List aA) (hs : s.length ≤ 140737488351232) (hf : f.length ≤ 140737488351232) (hp : p.length ≤ 140737488351232) (hv : v.length ≤ 140737488351232)
    (hz : ∀ x ∈ v, x.f0.size ≤ 140737488351232 ∧ x.f3.size ≤ 140737488351232) (hy : ∀ x ∈ p, x.f0.size ≤ 140737488351232 ∧ x.f2.size ≤ 140737488351232) :
    Ev (fun k => aQ.l0 k s f p v 0) (f.all (fun x => dZ s x.f0 && dZ s x.f1) && (lY p && kB p v)) := by
  have L1 := tR s f p v hp hv hz hy
  generalize (lY p && kB p v) = T at L1 ⊢
  refine fN fR f (P := fun i r => Ev (fun k => aQ.l0 k s f p v (i : Int)) (r.all (fun x => dZ s x.f0 && dZ s x.f1) && T))
    (by refine Ev.step (fun k => by rw [aQ.l0]) ?_; exact cJ (by omega) L1) (fun i x r hi hx hm _ ih => ?_)
  refine Ev.step (fun k => by rw [aQ.l0]) (aU (by omega) (aU (by omega) ?_))
  rw [dU hi (by omega), rdF, hx]
  clear hx hz hy hm L1
  repeat' (first
    | with_reducible refine Ev.bind (mF _ _ hs) ?_
    | with_reducible refine aU (by omega) ?_
    | with_reducible refine cJ (by omega) ?_
    | with_reducible refine gH (fun c => ?_) (fun c => ?_)
    | with_reducible refine cB (fun c => ?_) (fun c => ?_))
  all_goals (first
    | (with_reducible refine bI ?_; simp_all [cZ, lt, cR]; done)
    | (with_reducible refine fQ (ih) ?_; simp_all [cZ, lt, cR]; done))
theorem tZ {s : List ByteArray} {x : ByteArray} (hn : lI s = true) (h : dZ s x = true) : kD x = true := by
  unfold lI at hn
  rw [Bool.and_eq_true] at hn
  exact List.all_eq_true.1 hn.1 x (eK.1 h)
theorem qH {α β : Type} {p : α → α → Bool} {q : β → β → Bool} (g : α → β) (h : ∀ x y, q (g x) (g y) = p x y) : ∀ (r : List α) (o : Option α), cZ q (o.map g) (r.map g) = cZ p o r
  | [], o => by cases o <;> rfl
  | x :: r, none => qH g h r (some x)
  | x :: r, some y => by
    show (q (g y) (g x) && cZ q (some (g x)) (r.map g)) = (p y x && cZ p (some x) r)
    rw [h]; congr 1; exact qH g h r (some x)
theorem xO (s : List ByteArray) (hn : lI s = true) : ∀ f : List aF, ((f.map mG).all qI && f.all (fun x => dZ s x.f0 && dZ s x.f1)) = f.all (xG s)
  | [] => rfl
  | x :: r => by
    rw [List.map_cons, List.all_cons, List.all_cons, List.all_cons, ← xO s hn r]
    have h0 := @tZ s x.f0 hn
    have h1 := @tZ s x.f1 hn
    unfold qI xG mG
    simp only
    generalize kD x.f0 = a0 at *
    generalize kD x.f1 = a1 at *
    generalize dZ s x.f0 = b0 at *
    generalize dZ s x.f1 = b1 at *
    generalize lt x.f0 x.f1 = c at *
    generalize List.all (List.map _ _) _ = d at *
    generalize List.all _ _ = d2 at *
    revert a0 a1 b0 b1 c d d2
    decide
theorem aBT (s : List ByteArray) (f : List aF) (hn : lI s = true) : (vE (f.map mG) && f.all (fun x => dZ s x.f0 && dZ s x.f1)) = qU s f := by
  unfold vE qU
  rw [show cZ oF none (f.map mG) = cZ sP none f from qH mG (fun _ _ => rfl) f none]
  rw [← xO s hn f]
  generalize List.all (List.map _ _) _ = d at *
  generalize List.all _ _ = d2 at *
  generalize cZ _ _ _ = d3 at *
  revert d d2 d3
  decide
structure SzP (s : List ByteArray) (f : List aF) (p : List aB) (v : List aA) : Prop where
  hs : s.length ≤ 140737488351232
  hf : f.length ≤ 4398046511104
  hp : p.length ≤ 140737488351232
  hv : v.length ≤ 140737488351232
  s1 : ∀ x ∈ s, x.size ≤ 140737488351232
  f1 : ∀ x ∈ f, x.f0.size ≤ 140737488351232 ∧ x.f1.size ≤ 140737488351232
  p1 : ∀ x ∈ p, x.f0.size ≤ 140737488351232 ∧ x.f2.size ≤ 140737488351232
  v1 : ∀ x ∈ v, x.f0.size ≤ 140737488351232 ∧ x.f3.size ≤ 140737488351232
theorem pC (s : List ByteArray) (f : List aF) (p : List aB) (v : List aA) (z : SzP s f p v) :
    Ev (fun k => aQ.f k s f p v) (fT s f p v) := by
  unfold aQ.f fT
  have hf := z.hf
  have e0 := tO s f p v z.hs (by omega) z.hp z.hv z.v1 z.p1
  have eN := aED s z.hs z.s1
  have eF := aBI (f.map mG) 12 (by rw [List.length_map]; omega) (fun x hx => by obtain ⟨y, hy, rfl⟩ := List.mem_map.1 hx; exact z.f1 y hy)
  have eP := aCW s f p v hf
  have hsame := aBT s f
  rw [List.length_map, show decide ((f.length : Int) ≤ 12) = decide (f.length ≤ 12) from decide_eq_decide.2 (by omega)] at eF
  generalize vE (f.map mG) = b1 at eF hsame
  generalize f.all (fun x => dZ s x.f0 && dZ s x.f1) = b2 at e0 hsame
  generalize qU s f = b3 at hsame ⊢
  generalize lY p = b4 at e0 ⊢
  generalize kB p v = b5 at e0 ⊢
  generalize lI s = b6 at eN hsame ⊢
  generalize decide (f.length ≤ 12) = b7 at eF ⊢
  refine cB (fun c => bI ?_) (fun c => Ev.bind eN (gH (fun c6 => ?_) (fun c6 => bI ?_)))
  · rw [decide_eq_false (by omega : ¬ s.length ≤ 8)]; rfl
  · subst c6
    have hsame := hsame rfl
    subst hsame
    rw [decide_eq_true (by omega : s.length ≤ 8)]
    refine Ev.bind eP (Ev.bind eF (gH (fun c1 => ?_) (fun c1 => bI ?_)))
    · rw [Bool.and_eq_true] at c1
      obtain ⟨rfl, rfl⟩ := c1
      refine cB (fun d => bI ?_) (fun d => cB (fun d2 => bI ?_) (fun d2 => fQ e0 ?_))
      · rw [decide_eq_false (by omega : ¬ p.length ≤ 14)]; simp
      · rw [decide_eq_false (by omega : ¬ v.length ≤ 18)]; simp
      · rw [decide_eq_true (by omega : p.length ≤ 14), decide_eq_true (by omega : v.length ≤ 18)]; simp
    · clear e0 eN eF
      generalize decide (p.length ≤ 14) = d1
      generalize decide (v.length ≤ 18) = d2
      revert b1 b2 b4 b5 b7 d1 d2
      decide
  · subst c6; simp
/-! ### lists that rise -/
def fF (l : List ByteArray) : Prop := l.Pairwise fun x y => lt x y = true
theorem rP {α : Type} {p : α → α → Bool} (ht : ∀ x y z, p x y = true → p y z = true → p x z = true) : ∀ (r : List α) (y : α), cZ p (some y) r = true → (∀ x ∈ r, p y x = true) ∧ r.Pairwise fun x y => p x y = true
  | [], _, _ => ⟨fun x h => (by cases h), List.Pairwise.nil⟩
  | x :: r, y, h => by
    have h : (p y x && cZ p (some x) r) = true := h
    rw [Bool.and_eq_true] at h
    obtain ⟨g1, g2⟩ := rP ht r x h.2
    refine ⟨fun z hz => ?_, List.pairwise_cons.2 ⟨g1, g2⟩⟩
    rcases List.mem_cons.1 hz with rfl | hz
    · exact h.1
    · exact ht _ _ _ h.1 (g1 z hz)
theorem sN {α : Type} {p : α → α → Bool} (ht : ∀ x y z, p x y = true → p y z = true → p x z = true) (l : List α) (h : cZ p none l = true) : l.Pairwise fun x y => p x y = true := by
  cases l with
  | nil => exact List.Pairwise.nil
  | cons x r =>
    have h : cZ p (some x) r = true := h
    obtain ⟨g1, g2⟩ := rP ht r x h
    exact List.pairwise_cons.2 ⟨g1, g2⟩
theorem lQ : ∀ (l m : List ByteArray), fF l → fF m → (∀ x, x ∈ l ↔ x ∈ m) → l = m
  | [], [], _, _, _ => rfl
  | [], y :: m, _, _, h => by have := (h y).2 (List.mem_cons_self ..); cases this
  | x :: l, [], _, _, h => by have := (h x).1 (List.mem_cons_self ..); cases this
  | x :: l, y :: m, hl, hm, h => by
    obtain ⟨l1, l2⟩ := List.pairwise_cons.1 hl
    obtain ⟨m1, m2⟩ := List.pairwise_cons.1 hm
    have e : x = y := by
      rcases List.mem_cons.1 ((h x).1 (List.mem_cons_self ..)) with e | hx
      · exact e
      · rcases List.mem_cons.1 ((h y).2 (List.mem_cons_self ..)) with e | hy
        · exact e.symm
        · have := kZ (l1 y hy); rw [m1 x hx] at this; cases this
    subst e
    congr 1
    refine lQ l m l2 m2 (fun z => ⟨fun hz => ?_, fun hz => ?_⟩)
    · rcases List.mem_cons.1 ((h z).1 (List.mem_cons_of_mem _ hz)) with e | hz'
      · subst e; exact absurd rfl (rS (l1 z hz))
      · exact hz'
    · rcases List.mem_cons.1 ((h z).2 (List.mem_cons_of_mem _ hz)) with e | hz'
      · subst e; exact absurd rfl (rS (m1 z hz))
      · exact hz'
def dJ (x : ByteArray) : List ByteArray → List ByteArray
  | [] => [x]
  | y :: r => if lt y x = true then y :: dJ x r else if y = x then y :: r else x :: y :: r
theorem gL (x z : ByteArray) : ∀ l : List ByteArray, z ∈ dJ x l ↔ z = x ∨ z ∈ l
  | [] => by simp [dJ]
  | y :: r => by
    have ih := gL x z r
    unfold dJ
    split
    · rw [List.mem_cons, ih, List.mem_cons]
      constructor
      · rintro (h | h | h)
        · exact .inr (.inl h)
        · exact .inl h
        · exact .inr (.inr h)
      · rintro (h | h | h)
        · exact .inr (.inl h)
        · exact .inl h
        · exact .inr (.inr h)
    · split
      · rename_i e
        subst e
        rw [List.mem_cons]
        exact ⟨fun h => .inr h, fun h => h.elim .inl id⟩
      · rw [List.mem_cons]
theorem jG (x : ByteArray) : ∀ l : List ByteArray, fF l → fF (dJ x l)
  | [], _ => List.pairwise_singleton _ _
  | y :: r, h => by
    obtain ⟨h1, h2⟩ := List.pairwise_cons.1 h
    unfold dJ
    split
    · rename_i c
      refine List.pairwise_cons.2 ⟨fun z hz => ?_, jG x r h2⟩
      rcases (gL x z r).1 hz with rfl | hz
      · exact c
      · exact h1 z hz
    · rename_i c
      split
      · exact h
      · rename_i e
        have hlt : lt x y = true := by
          rcases vR x y with q | q | q
          · exact q
          · exact absurd q.symm e
          · exact absurd q c
        refine List.pairwise_cons.2 ⟨fun z hz => ?_, h⟩
        rcases List.mem_cons.1 hz with rfl | hz
        · exact hlt
        · exact lt_trans hlt (h1 z hz)
theorem mA (x : ByteArray) : ∀ l : List ByteArray, (dJ x l).length ≤ l.length + 1
  | [] => by simp [dJ]
  | y :: r => by
    have := mA x r
    unfold dJ
    split
    · simp; omega
    · split <;> simp
theorem nG (l : List ByteArray) (x : ByteArray) (hn : l.length ≤ 1000000) : Ev (fun k => dG.f k l x) (dJ x l) := by
  unfold dG.f
  refine fQ (fN ByteArray.empty l (P := fun i r => l.drop i = r → Ev (fun k => dG.l0 k l x (i : Int)) (l.take i ++ dJ x r)) (fun _ => ?_) (fun i y r hi hy _ hr ih hd => ?_) rfl) (by simp)
  · refine Ev.step (fun k => by rw [dG.l0]) ?_
    refine cJ (by omega) (aU (by omega) (aU (by omega) (aU (by rw [Int.toNat_natCast]; omega) (aU (by rw [Int.toNat_natCast]; omega) (aU (by rw [Int.toNat_natCast]; omega) (bI ?_))))))
    simp [dJ]
  · refine Ev.step (fun k => by rw [dG.l0]) (aU (by omega) (aU (by omega) ?_))
    rw [dX, hy, dU hi (by omega), Int.toNat_natCast]
    have ht : l.take (i + 1) = l.take i ++ [y] := by rw [List.take_succ_eq_append_getElem hi, ← jB ByteArray.empty l i hi, hy]
    refine gH (fun c => fQ (ih hr) ?_) (fun c => cB (fun e => bI ?_) (fun e => ?_))
    · have c : lt y x = true := c
      rw [ht, show dJ x (y :: r) = y :: dJ x r from if_pos c]; simp
    · have c : lt y x = false := c
      rw [show dJ x (y :: r) = if lt y x = true then y :: dJ x r else if y = x then y :: r else x :: y :: r from rfl, c, if_neg (by simp), if_pos (cR.1 e), ← hd, List.take_append_drop]
    · have c : lt y x = false := c
      refine aU (by omega) (aU (by omega) (aU (by omega) (aU (by omega) (bI ?_))))
      rw [show dJ x (y :: r) = if lt y x = true then y :: dJ x r else if y = x then y :: r else x :: y :: r from rfl, c, if_neg (by simp), if_neg (fun q => e (cR.2 q)), ← hd]
      simp
/-! ### sets of texts: rising lists -/
theorem lC {l : List ByteArray} (h : fF l) : l.Nodup := List.Pairwise.imp (fun h => rS h) h
theorem aDF (a : List ByteArray) (h : a.length ≤ 4611686018427387903) (hn : a.Nodup) : ∃ r, Ev (fun _ => sort_Strings.f a) r ∧ fF r ∧ ∀ x, x ∈ r ↔ x ∈ a := by
  have e : lO a = some (qW a) := by unfold lO; rw [if_pos (by omega)]
  refine ⟨qW a, ?_, aCD e hn, aBX e⟩
  unfold sort_Strings.f
  rw [e]
  exact Ev.now _
/-- a set, and more put into it -/
def qG (a b : List ByteArray) : List ByteArray := b.foldl (fun l x => dJ x l) a
theorem lX : ∀ (b a : List ByteArray), fF a → fF (qG a b)
  | [], _, h => h
  | x :: b, a, h => lX b _ (jG x a h)
theorem pK (z : ByteArray) : ∀ (b a : List ByteArray), z ∈ qG a b ↔ z ∈ a ∨ z ∈ b
  | [], a => by simp [qG]
  | x :: b, a => by
    rw [show qG a (x :: b) = qG (dJ x a) b from rfl, pK z b, gL, List.mem_cons]
    constructor
    · rintro ((h | h) | h)
      · exact .inr (.inl h)
      · exact .inl h
      · exact .inr (.inr h)
    · rintro (h | h | h)
      · exact .inl (.inr h)
      · exact .inl (.inl h)
      · exact .inr h
theorem oK : fF [] := List.Pairwise.nil
theorem aFT {a b c : List ByteArray} (hc : fF c) (ha : fF a) (h : ∀ x, x ∈ c ↔ x ∈ a ∨ x ∈ b) : c = qG a b :=
  lQ _ _ hc (lX b a ha) (fun x => by rw [h, pK])
theorem aCS (a b : List ByteArray) (ha : a.Nodup) (h : a.length + b.length ≤ 8796093022207) : ∃ r, Ev (fun k => dS.f k a b) r ∧ fF r ∧ ∀ x, x ∈ r ↔ x ∈ a ∨ x ∈ b := by
  have key := fN ByteArray.empty b (P := fun i d => i + d.length = b.length → ∀ acc : List ByteArray, acc.Nodup → acc.length ≤ a.length + i → ∃ r, Ev (fun k => dS.l0 k a b acc (i : Int)) r ∧ fF r ∧ ∀ x, x ∈ r ↔ x ∈ acc ∨ x ∈ d)
    (fun _ acc hnd hacc => by
      obtain ⟨r, h1, h2, h3⟩ := aDF acc (by omega) hnd
      refine ⟨r, Ev.step (fun k => by rw [dS.l0]) (cJ (by omega) (Ev.bind h1 (bI rfl))), h2, fun x => by rw [h3]; simp⟩)
    (fun i y d hi hy hm hd ih hl acc hnd hacc => by
      rw [List.length_cons] at hl
      have hh := mF acc y (by omega)
      cases c : dZ acc y with
      | true =>
        rw [c] at hh
        obtain ⟨r, h1, h2, h3⟩ := ih (by omega) acc hnd (by omega)
        refine ⟨r, Ev.step (fun k => by rw [dS.l0]) (aU (by omega) (aU (by omega) ?_)), h2, fun x => ?_⟩
        · rw [dU hi (by omega), dX, hy]
          exact Ev.bind hh (aU rfl h1)
        · rw [h3, List.mem_cons]
          have := eK.1 c
          constructor
          · rintro (q | q)
            · exact .inl q
            · exact .inr (.inr q)
          · rintro (q | q | q)
            · exact .inl q
            · exact .inl (q ▸ this)
            · exact .inr q
      | false =>
        rw [c] at hh
        have hni : y ∉ acc := fun q => by rw [eK.2 q] at c; cases c
        obtain ⟨r, h1, h2, h3⟩ := ih (by omega) (acc ++ [y]) (List.nodup_append.2 ⟨hnd, by simp, fun u hu v hv e => by rw [List.mem_singleton] at hv; subst hv; exact hni (e ▸ hu)⟩) (by rw [List.length_append, List.length_singleton]; omega)
        refine ⟨r, Ev.step (fun k => by rw [dS.l0]) (aU (by omega) (aU (by omega) ?_)), h2, fun x => ?_⟩
        · rw [dU hi (by omega), dX, hy]
          exact Ev.bind hh (cJ (by simp) (aU (by omega) h1))
        · rw [h3, List.mem_cons, List.mem_append, List.mem_singleton, or_assoc])
  obtain ⟨r, h1, h2, h3⟩ := key (by omega) a ha (by omega)
  refine ⟨r, ?_, h2, h3⟩
  unfold dS.f
  exact aU (by omega) h1
theorem aAJ (a b : List ByteArray) (ha : fF a) (h : a.length + b.length ≤ 8796093022207) : Ev (fun k => dS.f k a b) (qG a b) := by
  obtain ⟨r, h1, h2, h3⟩ := aCS a b (lC ha) h
  exact aFT h2 ha h3 ▸ h1
/-! ### routes -/
def kH (c : Nat → Bool) (n i : Nat) : Bool := decide (∀ j, j < n → i ≤ j → c j = true)
theorem mX (c : Nat → Bool) (n i : Nat) (h : n ≤ i) : kH c n i = true := by unfold kH; rw [decide_eq_true_iff]; intro j h1 h2; omega
theorem mK (c : Nat → Bool) (n i : Nat) (h : i < n) : kH c n i = (c i && kH c n (i + 1)) := by
  unfold kH
  rw [Bool.eq_iff_iff, Bool.and_eq_true, decide_eq_true_iff, decide_eq_true_iff]
  refine ⟨fun q => ⟨q i h (Nat.le_refl _), fun j hj hi => q j hj (by omega)⟩, fun q j hj hi => ?_⟩
  by_cases e : j = i
  · rw [e]; exact q.1
  · exact q.2 j hj (by omega)
theorem lM {c : Nat → Bool} {n : Nat} : kH c n 0 = true ↔ ∀ j, j < n → c j = true := by
  unfold kH; rw [decide_eq_true_iff]; exact ⟨fun h j hj => h j hj (Nat.zero_le _), fun h j hj _ => h j hj⟩
/-- what a place can hold, -1 if it is not there -/
def iR (p : List aB) (x : ByteArray) : Int := if dP p x = true then (gA x p).2.1 else -1
theorem rZ (x : ByteArray) : ∀ (r : List aB) (i : Nat), dP r x = true → ∃ j : Nat, jC x r (i : Int) = ((i + j : Nat) : Int) ∧ j < r.length ∧ (r.getD j dQ).f1 = (gA x r).2.1
  | [], i, h => by cases h
  | y :: r, i, h => by
    rw [show jC x (y :: r) i = if y.f0 = x then (i : Int) else jC x r (i + 1) from rfl, show gA x (y :: r) = if y.f0 = x then (y.f0, y.f1, y.f2, true) else gA x r from rfl]
    by_cases c : y.f0 = x
    · rw [if_pos c, if_pos c]
      exact ⟨0, rfl, by simp, rfl⟩
    · rw [if_neg c, if_neg c]
      rw [show dP (y :: r) x = (decide (y.f0 = x) || dP r x) from rfl, decide_eq_false c, Bool.false_or] at h
      obtain ⟨j, h1, h2, h3⟩ := rZ x r (i + 1) h
      refine ⟨j + 1, ?_, by simp; omega, by simpa using h3⟩
      have : jC x r ((i : Int) + 1) = ((i + 1 + j : Nat) : Int) := by rw [← h1]; push_cast; rfl
      rw [this]; congr 1; omega
theorem oS (s : List ByteArray) (f : List aF) (p : List aB) (v : List aA) (x : ByteArray) (hp : p.length ≤ 140737488351232) :
    Ev (fun k => fI.f k s f p v x) (iR p x) := by
  unfold fI.f iR
  refine Ev.bind (lH s f p v x hp) ?_
  cases h : dP p x with
  | false => exact aU ((kP x p).2 h) (bI rfl)
  | true =>
    obtain ⟨j, h1, h2, h3⟩ := rZ x p 0 h
    rw [Nat.zero_add] at h1
    have h1 : jC x p 0 = (j : Int) := h1
    rw [h1]
    refine cJ (by omega) (aU (by omega) (aU (by omega) (bI ?_)))
    rw [rdP, h3]; rfl
def gV (y : aA) (x : ByteArray) : ByteArray := if y.f1 = x then y.f2 else if y.f2 = x then y.f1 else (⟨#[]⟩ : ByteArray)
theorem sZ (y : aA) (x : ByteArray) : Ev (fun _ => gZ.f y.f0 y.f1 y.f2 y.f3 x) (gV y x) := by
  unfold gZ.f gV
  refine cB (fun c => bI (by rw [if_pos (cR.1 c)])) (fun c => cB (fun d => bI ?_) (fun d => bI ?_))
  · rw [if_neg (fun e => c (cR.2 e)), if_pos (cR.1 d)]
  · rw [if_neg (fun e => c (cR.2 e)), if_neg (fun e => d (cR.2 e))]
/-- the first valve of a name -/
def gG (x : ByteArray) (v : List aA) : Option aA := v.find? fun y => decide (y.f0 = x)
theorem yX (s : List ByteArray) (f : List aF) (p : List aB) (v : List aA) (x : ByteArray) (hv : v.length ≤ 140737488351232) :
    ∃ q : Int, Ev (fun k => cY.f k s f p v x) q ∧ (match gG x v with | none => q = -1 | some y => ∃ j : Nat, q = (j : Int) ∧ j < v.length ∧ v.getD j cH = y) := by
  unfold cY.f gG
  refine fN cH v (P := fun i r => ∃ q : Int, Ev (fun k => cY.l0 k v x (i : Int)) q ∧ (match r.find? fun y => decide (y.f0 = x) with | none => q = -1 | some y => ∃ j : Nat, q = (j : Int) ∧ j < v.length ∧ v.getD j cH = y))
    ⟨-1, (by refine Ev.step (fun k => by rw [cY.l0]) ?_; exact cJ (by omega) (bI rfl)), rfl⟩ (fun i y r hi hx _ _ ih => ?_)
  by_cases c : y.f0 = x
  · refine ⟨(i : Int), ?_, ?_⟩
    · refine Ev.step (fun k => by rw [cY.l0]) (aU (by omega) (aU (by omega) ?_))
      rw [rdV, hx]
      exact aU (cR.2 c) (bI rfl)
    · rw [List.find?_cons, decide_eq_true c]; exact ⟨i, rfl, hi, hx⟩
  · obtain ⟨q, h1, h2⟩ := ih
    refine ⟨q, ?_, ?_⟩
    · refine Ev.step (fun k => by rw [cY.l0]) (aU (by omega) (aU (by omega) ?_))
      rw [rdV, hx, dU hi (by omega)]
      exact cJ (fun e => c (cR.1 e)) h1
    · rw [List.find?_cons, decide_eq_false c]; exact h2
def sD (v : List aA) (w a b : ByteArray) : Bool := match gG w v with | none => false | some y => decide (gV y a = b)
theorem zC (s : List ByteArray) (f : List aF) (p : List aB) (v : List aA) (w a b : ByteArray) (hv : v.length ≤ 140737488351232) :
    Ev (fun k => iU.f k s f p v w a b) (sD v w a b) := by
  unfold iU.f sD
  obtain ⟨q, h1, h2⟩ := yX s f p v w hv
  refine Ev.bind h1 ?_
  cases h : gG w v with
  | none =>
    rw [h] at h2
    exact cJ (by rw [h2]; decide) (bI rfl)
  | some y =>
    rw [h] at h2
    obtain ⟨j, rfl, hj, hy⟩ := h2
    refine aU (by omega) (aU (by omega) (aU (by omega) ?_))
    rw [rdV, hy]
    refine Ev.bind (sZ y a) (bI ?_)
    exact decide_eq_decide.2 cR
def cS (p : List aB) (v : List aA) (P V : List ByteArray) (j : Nat) : Bool :=
  decide (0 ≤ iR p (P.getD j ByteArray.empty)) && (!dZ (P.take j) (P.getD j ByteArray.empty) && (!(decide (0 < j) && (decide (j < P.length - 1) && decide (0 < iR p (P.getD j ByteArray.empty)))) && (decide (j = 0) || sD v (V.getD (j - 1) ByteArray.empty) (P.getD (j - 1) ByteArray.empty) (P.getD j ByteArray.empty))))
def vS (p : List aB) (v : List aA) (P V : List ByteArray) : Bool :=
  decide (2 ≤ P.length ∧ V.length = P.length - 1) && (decide (1 ≤ iR p (P.getD 0 ByteArray.empty)) && (decide (1 ≤ iR p (P.getD (P.length - 1) ByteArray.empty)) && kH (cS p v P V) P.length 0))
theorem pE (s : List ByteArray) (f : List aF) (p : List aB) (v : List aA) (P V : List ByteArray) (hp : p.length ≤ 140737488351232) (hv : v.length ≤ 140737488351232) (hP : P.length ≤ 140737488351232) :
    Ev (fun k => bZ.f k s f p v P V) (vS p v P V) := by
  unfold bZ.f vS
  have hc := fun x => oS s f p v x hp
  refine cB (fun c => bI (by rw [decide_eq_false (by omega)]; rfl)) (fun c => ?_)
  have hw : wrap64 ((P.length : Int) - 1) = ((P.length - 1 : Nat) : Int) := by unfold wrap64; omega
  rw [hw]
  refine cB (fun d => ?_) (fun d => bI (by rw [decide_eq_false (by omega)]; rfl))
  rw [decide_eq_true (by omega : 2 ≤ P.length ∧ V.length = P.length - 1), Bool.true_and]
  refine aU (by omega) ?_
  rw [show bE ByteArray.empty P 0 = P.getD 0 ByteArray.empty from dX _ P 0, dX]
  refine Ev.bind (hc _) (cB (fun c1 => bI (by rw [decide_eq_false (by omega)]; rfl)) (fun c1 => ?_))
  rw [decide_eq_true (by omega : 1 ≤ iR p (P.getD 0 ByteArray.empty)), Bool.true_and]
  refine aU (by omega) (aU (by omega) (Ev.bind (hc _) (cB (fun c2 => bI (by rw [decide_eq_false (by omega)]; rfl)) (fun c2 => ?_))))
  rw [decide_eq_true (by omega : 1 ≤ iR p (P.getD (P.length - 1) ByteArray.empty)), Bool.true_and]
  refine oZ P.length (P := fun i => Ev (fun k => bZ.l0 k s f p v P V (i : Int)) (kH (cS p v P V) P.length i))
    (by refine Ev.step (fun k => by rw [bZ.l0]) ?_; exact cJ (by omega) (bI (mX _ _ _ (Nat.le_refl _)).symm)) (fun i hi ih => ?_)
  rw [mK _ _ _ hi]
  generalize kH (cS p v P V) P.length (i + 1) = R at ih ⊢
  have j0 : ∀ T : Bool, T = ((decide (i = 0) || sD v (V.getD (i - 1) ByteArray.empty) (P.getD (i - 1) ByteArray.empty) (P.getD i ByteArray.empty)) && R) → Ev (fun k => bZ.j0 k s f p v P V (i : Int)) T := fun T hT => by
    subst hT
    refine Ev.step (fun k => by rw [bZ.j0]) ?_
    rw [dU hi (by omega)]
    by_cases z : i = 0
    · rw [decide_eq_true z]; exact cJ (by omega) (fQ ih (by simp))
    · rw [decide_eq_false z, qN z (by omega), dX, dX, dX]
      refine aU (by omega) (aU (by omega) (aU (by omega) (aU (by omega) (aU (by omega) (Ev.bind (zC s f p v _ _ _ hv) (gH (fun e => fQ ih ?_) (fun e => bI ?_)))))))
      · rw [e]; rfl
      · rw [e]; rfl
  refine Ev.step (fun k => by rw [bZ.l0]) (aU (by omega) (aU (by omega) ?_))
  rw [dX, hw, Int.toNat_natCast]
  unfold cS
  generalize hcap : iR p (P.getD i ByteArray.empty) = C
  have hcx := hc (P.getD i ByteArray.empty)
  rw [hcap] at hcx
  refine Ev.bind hcx (cB (fun c3 => bI (by rw [decide_eq_false (by omega)]; rfl)) (fun c3 => aU (by omega) (Ev.bind (iN _ _ (by rw [List.length_take]; omega)) (gH (fun c4 => bI (by rw [c4]; simp)) (fun c4 => ?_)))))
  rw [decide_eq_true (by omega : 0 ≤ C), c4]
  refine cB (fun c5 => cB (fun c6 => Ev.bind hcx (cB (fun c7 => bI ?_) (fun c7 => j0 _ ?_))) (fun c6 => j0 _ ?_)) (fun c5 => j0 _ ?_)
  · rw [decide_eq_true (by omega : 0 < i), decide_eq_true (by omega : i < P.length - 1), decide_eq_true (by omega : 0 < C)]; rfl
  · rw [decide_eq_false (by omega : ¬ 0 < C)]; simp
  · rw [decide_eq_false (by omega : ¬ i < P.length - 1)]; simp
  · rw [decide_eq_false (by omega : ¬ 0 < i)]; simp
theorem aDS (s : List ByteArray) (f : List aF) (p : List aB) (v : List aA) (x : ByteArray) (hv : v.length ≤ 140737488351232) :
    Ev (fun k => cX.f k s f p v x) (match gG x v with | some y => (y.f0, y.f1, y.f2, y.f3, true) | none => ((⟨#[]⟩ : ByteArray), (⟨#[]⟩ : ByteArray), (⟨#[]⟩ : ByteArray), (⟨#[]⟩ : ByteArray), false)) := by
  unfold cX.f gG
  refine fN cH v (P := fun i r => Ev (fun k => cX.l0 k v x (i : Int)) (match r.find? fun y => decide (y.f0 = x) with | some y => (y.f0, y.f1, y.f2, y.f3, true) | none => ((⟨#[]⟩ : ByteArray), (⟨#[]⟩ : ByteArray), (⟨#[]⟩ : ByteArray), (⟨#[]⟩ : ByteArray), false)))
    (by refine Ev.step (fun k => by rw [cX.l0]) ?_; exact cJ (by omega) (bI rfl)) (fun i y r hi hx _ _ ih => ?_)
  refine Ev.step (fun k => by rw [cX.l0]) (aU (by omega) (aU (by omega) ?_))
  rw [rdV, hx, dU hi (by omega), List.find?_cons]
  refine cB (fun c => bI ?_) (fun c => fQ ih ?_)
  · rw [decide_eq_true (cR.1 c)]
  · rw [decide_eq_false (fun e => c (cR.2 e))]
def sE (v : List aA) (w a b : ByteArray) : Bool := match gG w v with | none => false | some y => decide (y.f1 = mnS a b) && decide (y.f2 = mxS a b)
def cI (p : List aB) (P : List ByteArray) (j : Nat) : Bool :=
  dP p (P.getD j ByteArray.empty) && ((decide ((gA (P.getD j ByteArray.empty) p).2.1 > 0) == (decide (j = 0) || decide (j = P.length - 1))) && !dZ (P.take j) (P.getD j ByteArray.empty))
def dI (v : List aA) (P V : List ByteArray) (j : Nat) : Bool := sE v (V.getD j ByteArray.empty) (P.getD j ByteArray.empty) (P.getD (j + 1) ByteArray.empty)
def fZ (p : List aB) (v : List aA) (P V : List ByteArray) : Bool :=
  decide (2 ≤ P.length ∧ V.length = P.length - 1) && (kH (cI p P) P.length 0 && kH (dI v P V) V.length 0)
theorem sO (s : List ByteArray) (f : List aF) (p : List aB) (v : List aA) (P V : List ByteArray) (hp : p.length ≤ 140737488351232) (hv : v.length ≤ 140737488351232) (hP : P.length ≤ 140737488351232) :
    Ev (fun k => cE.f k s f p v P V) (fZ p v P V) := by
  unfold cE.f fZ
  refine cB (fun c => bI (by rw [decide_eq_false (by omega)]; rfl)) (fun c => ?_)
  have hw : wrap64 ((P.length : Int) - 1) = ((P.length - 1 : Nat) : Int) := by unfold wrap64; omega
  rw [hw]
  refine cB (fun d => ?_) (fun d => bI (by rw [decide_eq_false (by omega)]; rfl))
  rw [decide_eq_true (by omega : 2 ≤ P.length ∧ V.length = P.length - 1), Bool.true_and]
  have L1 : Ev (fun k => cE.l1 k s f p v P V 0) (kH (dI v P V) V.length 0) := by
    refine oZ V.length (P := fun i => Ev (fun k => cE.l1 k s f p v P V (i : Int)) (kH (dI v P V) V.length i))
      (by refine Ev.step (fun k => by rw [cE.l1]) ?_; exact cJ (by omega) (bI (mX _ _ _ (Nat.le_refl _)).symm)) (fun i hi ih => ?_)
    rw [mK _ _ _ hi]
    refine Ev.step (fun k => by rw [cE.l1]) (aU (by omega) (aU (by omega) ?_))
    rw [dU hi (by omega), dX, dX, dX]
    refine Ev.bind (aDS s f p v _ hv) (aU (by omega) (aU (by omega) (aU (by omega) ?_)))
    generalize kH (dI v P V) V.length (i + 1) = R at ih ⊢
    unfold dI sE
    generalize P.getD i ByteArray.empty = a
    generalize P.getD (i + 1) ByteArray.empty = b
    cases h : gG (V.getD i ByteArray.empty) v with
    | none => exact cJ (by simp) (bI rfl)
    | some y =>
      refine aU rfl (cB (fun c1 => cB (fun c2 => fQ ih ?_) (fun c2 => bI ?_)) (fun c1 => bI ?_))
      · simp only [decide_eq_true (show y.f1 = mnS a b from cR.1 c1), decide_eq_true (show y.f2 = mxS a b from cR.1 c2), Bool.true_and]
      · simp only [decide_eq_false (show ¬ y.f2 = mxS a b from fun e => c2 (cR.2 e)), Bool.and_false, Bool.false_and]
      · simp only [decide_eq_false (show ¬ y.f1 = mnS a b from fun e => c1 (cR.2 e)), Bool.false_and]
  generalize kH (dI v P V) V.length 0 = T at L1 ⊢
  refine oZ P.length (P := fun i => Ev (fun k => cE.l0 k s f p v P V (i : Int)) (kH (cI p P) P.length i && T))
    (by refine Ev.step (fun k => by rw [cE.l0]) ?_; exact cJ (by omega) (fQ L1 (by rw [mX _ _ _ (Nat.le_refl _)]; rfl))) (fun i hi ih => ?_)
  rw [mK _ _ _ hi]
  generalize kH (cI p P) P.length (i + 1) = R at ih ⊢
  refine Ev.step (fun k => by rw [cE.l0]) (aU (by omega) (aU (by omega) ?_))
  rw [dU hi (by omega), dX, hw, Int.toNat_natCast]
  have hh := mF (P.take i) (P.getD i ByteArray.empty) (by rw [List.length_take]; omega)
  refine Ev.bind (pB s f p v _ hp) ?_
  unfold cI
  rw [kQ]
  generalize (gA (P.getD i ByteArray.empty) p).2.1 = C
  generalize dZ (P.take i) (P.getD i ByteArray.empty) = H at hh ⊢
  cases hq : dP p (P.getD i ByteArray.empty) with
  | false => exact cJ (by simp) (bI rfl)
  | true =>
    refine aU rfl (cB (fun c1 => ?_) (fun c1 => ?_))
    · rw [decide_eq_true (by omega : i = 0)]
      refine gH (fun c2 => bI ?_) (fun c2 => aU (by omega) (Ev.bind hh (gH (fun c3 => bI ?_) (fun c3 => fQ ih ?_))))
      all_goals (first | (simp_all; done) | (simp_all; intro h; omega))
    · rw [decide_eq_false (by omega : ¬ i = 0), show decide ((i : Int) = ((P.length - 1 : Nat) : Int)) = decide (i = P.length - 1) from decide_eq_decide.2 (by omega)]
      generalize decide (i = P.length - 1) = D
      refine gH (fun c2 => bI ?_) (fun c2 => aU (by omega) (Ev.bind hh (gH (fun c3 => bI ?_) (fun c3 => fQ ih ?_))))
      all_goals (clear ih hh L1; generalize decide (C > 0) = E at *; subst_vars; first | (revert E D R T; decide) | (revert E D R T H; decide) | simp_all)
/-! ### the two say the same of routes -/
theorem jY {s : List ByteArray} {f : List aF} {p : List aB} {v : List aA} (h : fT s f p v = true) :
    (∀ y ∈ p, jR y = true) ∧ cZ jQ none p = true ∧ (∀ y ∈ v, jW p y = true) ∧ cZ iL none v = true := by
  simp only [fT, lY, kB, Bool.and_eq_true, List.all_eq_true] at h
  exact ⟨h.2.2.1.2.1, h.2.2.1.2.2, h.2.2.2.2.1, h.2.2.2.2.2⟩
theorem aCL {x : ByteArray} (h : kD x = true) : x ≠ (⟨#[]⟩ : ByteArray) := fun e => by
  subst e
  simp [kD, ByteArray.size] at h
theorem mR {p : List aB} {x : ByteArray} (h : dP p x = true) : ∃ y ∈ p, y.f0 = x := by
  unfold dP at h
  rw [List.any_eq_true] at h
  obtain ⟨y, h1, h2⟩ := h
  exact ⟨y, h1, of_decide_eq_true h2⟩
theorem qR (x : ByteArray) : ∀ p : List aB, dP p x = true → ∃ y ∈ p, y.f0 = x ∧ (gA x p).2.1 = y.f1
  | [], h => by cases h
  | y :: r, h => by
    rw [show gA x (y :: r) = if y.f0 = x then (y.f0, y.f1, y.f2, true) else gA x r from rfl]
    by_cases c : y.f0 = x
    · rw [if_pos c]; exact ⟨y, List.mem_cons_self .., c, rfl⟩
    · rw [if_neg c]
      rw [show dP (y :: r) x = (decide (y.f0 = x) || dP r x) from rfl, decide_eq_false c, Bool.false_or] at h
      obtain ⟨z, h1, h2⟩ := qR x r h
      exact ⟨z, List.mem_cons_of_mem _ h1, h2⟩
theorem uT {s : List ByteArray} {f : List aF} {p : List aB} {v : List aA} (h : fT s f p v = true) (x : ByteArray) : (0 ≤ iR p x ↔ dP p x = true) ∧ (dP p x = true → iR p x = (gA x p).2.1 ∧ 0 ≤ (gA x p).2.1) := by
  have hp := (jY h).1
  have key : dP p x = true → iR p x = (gA x p).2.1 ∧ 0 ≤ (gA x p).2.1 := fun q => by
    obtain ⟨y, h1, _, h3⟩ := qR x p q
    have := hp y h1
    simp only [jR, inB, Bool.and_eq_true, decide_eq_true_eq] at this
    exact ⟨by unfold iR; rw [if_pos q], by rw [h3]; exact this.2.1.1⟩
  refine ⟨⟨fun q => ?_, fun q => by rw [(key q).1]; exact (key q).2⟩, key⟩
  cases c : dP p x with
  | true => rfl
  | false => unfold iR at q; rw [c, if_neg (by simp)] at q; omega
theorem sX {s : List ByteArray} {f : List aF} {p : List aB} {v : List aA} (h : fT s f p v = true) (w a b : ByteArray) (hb : dP p b = true) (hab : a ≠ b) : sD v w a b = sE v w a b := by
  obtain ⟨hp, _, hv, _⟩ := jY h
  unfold sD sE
  cases q : gG w v with
  | none => rfl
  | some y =>
    have hy := hv y (List.mem_of_find?_eq_some q)
    simp only [jW, Bool.and_eq_true] at hy
    have hlt := hy.2.1
    obtain ⟨z, hz1, hz2⟩ := mR hb
    have hzn := hp z hz1
    simp only [jR, Bool.and_eq_true] at hzn
    have hbn := aCL (hz2 ▸ hzn.1)
    rw [Bool.eq_iff_iff]
    simp only [Bool.and_eq_true, decide_eq_true_iff]
    simp only [gV, mnS, mxS]
    rcases vR a b with c | c | c
    · have c' : Op.bytesLess a.toList b.toList = true := c
      have d : Op.bytesLess b.toList a.toList = false := kZ c
      simp only [c', d, Bool.false_eq_true, ↓reduceIte]
      constructor
      · intro e
        by_cases e1 : y.f1 = a
        · rw [if_pos e1] at e; exact ⟨e1, e⟩
        · rw [if_neg e1] at e
          by_cases e2 : y.f2 = a
          · rw [if_pos e2] at e
            rw [e, e2] at hlt; rw [kZ c] at hlt; cases hlt
          · rw [if_neg e2] at e; exact absurd e.symm hbn
      · rintro ⟨e1, e2⟩
        rw [if_pos e1]; exact e2
    · exact absurd c hab
    · have c' : Op.bytesLess b.toList a.toList = true := c
      have d : Op.bytesLess a.toList b.toList = false := kZ c
      simp only [c', d, Bool.false_eq_true, ↓reduceIte]
      constructor
      · intro e
        by_cases e1 : y.f1 = a
        · rw [if_pos e1] at e
          rw [e, e1] at hlt; rw [kZ c] at hlt; cases hlt
        · rw [if_neg e1] at e
          by_cases e2 : y.f2 = a
          · rw [if_pos e2] at e; exact ⟨e, e2⟩
          · rw [if_neg e2] at e; exact absurd e.symm hbn
      · rintro ⟨e1, e2⟩
        rw [if_neg (fun q => by rw [e1] at q; exact hab q.symm), if_pos e2]; exact e1
theorem oU {P : List ByteArray} {i j : Nat} (hij : i < j) (hj : j ≤ P.length) : P.getD i ByteArray.empty ∈ P.take j := by
  rw [jB _ P i (by omega)]
  have : (P.take j)[i]'(by rw [List.length_take]; omega) = P[i] := List.getElem_take
  rw [← this]; exact List.getElem_mem _
theorem rT {s : List ByteArray} {f : List aF} {p : List aB} {v : List aA} (h : fT s f p v = true) (P V : List ByteArray) : vS p v P V = fZ p v P V := by
  unfold vS fZ
  by_cases d : 2 ≤ P.length ∧ V.length = P.length - 1
  rotate_left
  · rw [decide_eq_false d]; rfl
  rw [decide_eq_true d, Bool.true_and, Bool.true_and]
  obtain ⟨d1, d2⟩ := d
  rw [Bool.eq_iff_iff]
  simp only [Bool.and_eq_true, lM, decide_eq_true_eq]
  have cap := uT h
  constructor
  · rintro ⟨c0, cn, hS⟩
    have hS' : ∀ j, j < P.length → 0 ≤ iR p (P.getD j ByteArray.empty) ∧ dZ (P.take j) (P.getD j ByteArray.empty) = false ∧ (0 < j → j < P.length - 1 → ¬ 0 < iR p (P.getD j ByteArray.empty)) ∧ (j ≠ 0 → sD v (V.getD (j - 1) ByteArray.empty) (P.getD (j - 1) ByteArray.empty) (P.getD j ByteArray.empty) = true) := fun j hj => by
      have := hS j hj
      simp only [cS, Bool.and_eq_true, Bool.not_eq_true', Bool.and_eq_false_iff, decide_eq_true_eq, decide_eq_false_iff_not, Bool.or_eq_true] at this
      exact ⟨this.1, this.2.1, fun a b => by rcases this.2.2.1 with q | q | q <;> first | exact q | omega, fun a => this.2.2.2.resolve_left a⟩
    refine ⟨fun j hj => ?_, fun j hj => ?_⟩
    · obtain ⟨g1, g2, g3, _⟩ := hS' j hj
      have hp := (cap _).1.1 g1
      obtain ⟨k1, k2⟩ := (cap _).2 hp
      unfold cI
      rw [hp, g2, ← k1, Bool.true_and, Bool.not_false, Bool.and_true, beq_iff_eq]
      by_cases z : j = 0
      · subst z; rw [decide_eq_true rfl, Bool.true_or]; exact decide_eq_true (by omega)
      by_cases z2 : j = P.length - 1
      · rw [decide_eq_true z2, Bool.or_true, z2]; exact decide_eq_true (by omega)
      · rw [decide_eq_false z, decide_eq_false z2, Bool.false_or]; exact decide_eq_false (g3 (by omega) (by omega))
    · have g := (hS' (j + 1) (by omega)).2.2.2 (by omega)
      rw [Nat.add_sub_cancel] at g
      unfold dI
      rw [← sX h _ _ _ ((cap _).1.1 (hS' (j + 1) (by omega)).1) (fun e => ?_)]
      · exact g
      · have q := (hS' (j + 1) (by omega)).2.1
        rw [← Bool.not_eq_true, eK] at q
        apply q; rw [← e]
        exact oU (by omega) (by omega)
  · rintro ⟨hI, hD⟩
    have hI' : ∀ j, j < P.length → dP p (P.getD j ByteArray.empty) = true ∧ (0 < iR p (P.getD j ByteArray.empty) ↔ j = 0 ∨ j = P.length - 1) ∧ dZ (P.take j) (P.getD j ByteArray.empty) = false := fun j hj => by
      have := hI j hj
      simp only [cI, Bool.and_eq_true, Bool.not_eq_true', beq_iff_eq] at this
      obtain ⟨k1, k2⟩ := (cap _).2 this.1
      refine ⟨this.1, ?_, this.2.2⟩
      rw [k1]
      have e := this.2.1
      rw [Bool.eq_iff_iff, decide_eq_true_iff, Bool.or_eq_true, decide_eq_true_iff, decide_eq_true_iff] at e
      exact e
    refine ⟨?_, ?_, fun j hj => ?_⟩
    · have := (hI' 0 (by omega)).2.1.2 (.inl rfl); omega
    · have := (hI' (P.length - 1) (by omega)).2.1.2 (.inr rfl); omega
    · obtain ⟨g1, g2, g3⟩ := hI' j hj
      unfold cS
      simp only [Bool.and_eq_true, Bool.not_eq_true', Bool.and_eq_false_iff, decide_eq_true_eq, decide_eq_false_iff_not, Bool.or_eq_true]
      refine ⟨(cap _).1.2 g1, g3, ?_, ?_⟩
      · by_cases z : j = 0
        · left; omega
        by_cases z2 : j < P.length - 1
        · right; right; intro q; rcases g2.1 q with q | q <;> omega
        · right; left; exact z2
      · by_cases z : j = 0
        · exact .inl z
        · right
          have g := hD (j - 1) (by omega)
          unfold dI at g
          rw [show j - 1 + 1 = j by omega] at g
          rw [sX h _ _ _ g1 (fun e => ?_)]
          · exact g
          · rw [← Bool.not_eq_true, eK] at g3
            apply g3; rw [← e]
            exact oU (by omega) (by omega)
/-! ### lists without doubles -/
theorem lG : ∀ (l m : List ByteArray), l.Nodup → l ⊆ m → l.length ≤ m.length
  | [], m, _, _ => Nat.zero_le _
  | x :: l, m, h, hs => by
    obtain ⟨h1, h2⟩ := List.nodup_cons.1 h
    obtain ⟨s, r, rfl⟩ := List.append_of_mem (hs (List.mem_cons_self ..))
    have := lG l (s ++ r) h2 (fun z hz => by
      have hz2 := hs (List.mem_cons_of_mem _ hz)
      rcases List.mem_append.1 hz2 with q | q
      · exact List.mem_append_left _ q
      · rcases List.mem_cons.1 q with q | q
        · rw [q] at hz; exact absurd hz h1
        · exact List.mem_append_right _ q)
    rw [List.length_append] at this
    rw [List.length_append, List.length_cons, List.length_cons]; omega
/-! ### numbers, written -/
def vP (u : Nat) : List UInt8 := if h : u < 10 then [UInt8.ofNat (48 + u)] else vP (u / 10) ++ [UInt8.ofNat (48 + u % 10)]
termination_by u
decreasing_by omega
theorem uI {n : Nat} (h : n < 10) : vP n = [UInt8.ofNat (48 + n)] := by rw [vP, dif_pos h]
theorem zX {n : Nat} (h : ¬ n < 10) : vP n = vP (n / 10) ++ [UInt8.ofNat (48 + n % 10)] := by rw [vP, dif_neg h]
theorem vG : ∀ (m n : Nat), n ≤ m → (vP n).length ≤ n + 1
  | m, n, h => by
    by_cases c : n < 10
    · rw [uI c]; simp
    · rw [zX c]
      have := vG (n / 10) (n / 10) (Nat.le_refl _)
      simp; omega
termination_by m n => n
decreasing_by omega
def aCR (n : Int) : ByteArray := ⟨(vP n.toNat).toArray⟩
theorem aAV {n : Int} (h0 : 0 ≤ n) (h : n ≤ 10000) : (aCR n).size ≤ 10001 := by
  have := vG n.toNat n.toNat (Nat.le_refl _)
  show (vP n.toNat).toArray.size ≤ 10001
  rw [List.size_toArray]; omega
theorem dig (d : Int) (h0 : 0 ≤ d) (h1 : d < 10) : UInt8.ofNat (IntKind.wrap .u8 (wrap64 (48 + d))).toNat = UInt8.ofNat (48 + d.toNat) := by
  have : d = 0 ∨ d = 1 ∨ d = 2 ∨ d = 3 ∨ d = 4 ∨ d = 5 ∨ d = 6 ∨ d = 7 ∨ d = 8 ∨ d = 9 := by omega
  rcases this with rfl | rfl | rfl | rfl | rfl | rfl | rfl | rfl | rfl | rfl <;> decide +kernel
theorem aHL (a b : List UInt8) : (⟨a.toArray⟩ : ByteArray) ++ ⟨b.toArray⟩ = ⟨(a ++ b).toArray⟩ := by
  apply ByteArray.ext
  simp [ByteArray.data_append]
theorem gU : ∀ (m : Nat) (n : Int), 0 ≤ n → n ≤ 10000 → n.toNat ≤ m → Ev (fun k => cQ.f k n) (aCR n)
  | m, n, h0, h1, hm => by
    refine Ev.step (fun k => by rw [cQ.f]) ?_
    by_cases c : n < 10
    · refine aU c (bI ?_)
      unfold aCR
      rw [uI (by omega), dig n h0 c]
    · have e1 : wrap64 (Int.tdiv n 10) = n / 10 := by rw [Int.tdiv_eq_ediv_of_nonneg h0]; exact w64 (by omega) (by omega)
      have e2 : Int.tmod n 10 = n % 10 := Int.tmod_eq_emod_of_nonneg h0
      rw [e1, e2, dig (n % 10) (by omega) (by omega)]
      have hs := aAV (n := n / 10) (by omega) (by omega)
      refine cJ c (Ev.bind (gU (n / 10).toNat (n / 10) (by omega) (by omega) (Nat.le_refl _)) (aU ?_ (bI ?_)))
      · have : (⟨#[UInt8.ofNat (48 + (n % 10).toNat)]⟩ : ByteArray).size = 1 := rfl
        rw [this]; omega
      · unfold aCR
        rw [zX (n := n.toNat) (by omega), show (n / 10).toNat = n.toNat / 10 by omega, show (n % 10).toNat = n.toNat % 10 by omega]
        exact aHL _ _
termination_by m n => n.toNat
decreasing_by omega
/-! ### numbers drawn -/
theorem aEL (a b : Nat) (ha : a < 2 ^ 62) (hb : b < 2 ^ 62) : yD .i64 (a : Int) (b : Int) = ((a ^^^ b : Nat) : Int) := by
  have hx : a ^^^ b < 2 ^ 62 := Nat.xor_lt_two_pow ha hb
  have ha' : a % 2 ^ IntKind.i64.bits = a := Nat.mod_eq_of_lt (Nat.lt_trans ha (by decide))
  have hb' : b % 2 ^ IntKind.i64.bits = b := Nat.mod_eq_of_lt (Nat.lt_trans hb (by decide))
  have e : yD .i64 (a : Int) (b : Int) = IntKind.i64.wrap ((a ^^^ b : Nat) : Int) := by
    simp only [yD, BitVec.ofInt_natCast, BitVec.toNat_xor, BitVec.toNat_ofNat, ha', hb']
  rw [e, IntKind.wrap_i64]
  generalize a ^^^ b = n at hx ⊢
  have : (2 : Nat) ^ 62 = 4611686018427387904 := by decide
  omega
theorem yL {a b : Int} (h0 : 0 ≤ a) (h1 : a ≤ 1000000000000000) (h2 : 0 ≤ b) (h3 : b ≤ 1000000000000000) : 0 ≤ yD .i64 a b := by
  obtain ⟨m, rfl⟩ : ∃ m : Nat, a = (m : Int) := ⟨a.toNat, by omega⟩
  obtain ⟨n, rfl⟩ : ∃ n : Nat, b = (n : Int) := ⟨b.toNat, by omega⟩
  rw [aEL m n (by have : (2 : Nat) ^ 62 = 4611686018427387904 := by decide
                  omega) (by have : (2 : Nat) ^ 62 = 4611686018427387904 := by decide
                             omega)]
  omega
structure iD (b : List Int) : Prop where
  len : b.length ≤ 2000
  byte : ∀ i, i < b.length → 0 ≤ b.getD i 0 ∧ b.getD i 0 ≤ 255
theorem iD.rd {b : List Int} (h : iD b) (i : Int) (h0 : 0 ≤ i) (h1 : i < b.length) : 0 ≤ rd b i ∧ rd b i ≤ 255 := by
  obtain ⟨n, rfl⟩ : ∃ n : Nat, i = (n : Int) := ⟨i.toNat, by omega⟩
  rw [aGZ]
  exact h.byte n (by omega)
theorem gO {b : List Int} (hb : iD b) (p n : Int) (hp : 0 ≤ p) (hp1 : p ≤ 1000000000) (hn : n ≤ 1000000000) :
    ∃ v, (0 ≤ v ∧ (1 ≤ n → v < n) ∧ (n < 1 → v = 0)) ∧ aN.f b p n = some (v, b, p + 1) := by
  unfold aN.f
  have hw : wrap64 (wrap64 (p + 1) - 1) = p := by rw [w64 (x := p + 1) (by omega) (by omega), w64 (by omega) (by omega)]; omega
  rw [hw, w64 (x := p + 1) (by omega) (by omega)]
  by_cases c : n < 1
  · exact ⟨0, ⟨by omega, by omega, by omega⟩, by rw [if_pos c]⟩
  by_cases e : (b.length : Int) = 0
  · exact ⟨0, ⟨by omega, by omega, by omega⟩, by rw [if_neg c, if_pos e]⟩
  have hl := hb.len
  have fin : ∀ x : Int, 0 ≤ x → (0 ≤ Int.tmod x n ∧ (1 ≤ n → Int.tmod x n < n) ∧ (n < 1 → Int.tmod x n = 0)) := fun x hx => by
    rw [Int.tmod_eq_emod_of_nonneg hx]
    exact ⟨Int.emod_nonneg _ (by omega), fun _ => Int.emod_lt_of_pos _ (by omega), fun q => by omega⟩
  rw [if_neg c, if_neg e]
  by_cases q : p < (b.length : Int)
  · have hr := hb.rd p hp q
    exact ⟨_, fin (wrap64 (rd b p)) (by rw [w64 (by omega) (by omega)]; omega), by rw [if_pos q, if_pos hp, if_pos (by omega)]⟩
  have h7 : wrap64 (wrap64 (p * 7) + 3) = p * 7 + 3 := by rw [w64 (x := p * 7) (by omega) (by omega), w64 (by omega) (by omega)]
  have m1 : Int.tmod p (b.length : Int) = p % (b.length : Int) := Int.tmod_eq_emod_of_nonneg hp
  have m2 : Int.tmod (p * 7 + 3) (b.length : Int) = (p * 7 + 3) % (b.length : Int) := Int.tmod_eq_emod_of_nonneg (by omega)
  have d1 : Int.tdiv p (b.length : Int) = p / (b.length : Int) := Int.tdiv_eq_ediv_of_nonneg hp
  have r1 := Int.emod_nonneg p e
  have r2 := Int.emod_lt_of_pos p (show (0 : Int) < (b.length : Int) by omega)
  have r3 := Int.emod_nonneg (p * 7 + 3) e
  have r4 := Int.emod_lt_of_pos (p * 7 + 3) (show (0 : Int) < (b.length : Int) by omega)
  have v1 := hb.rd _ r1 r2
  have v2 := hb.rd _ r3 r4
  have dv0 : 0 ≤ p / (b.length : Int) := Int.ediv_nonneg hp (by omega)
  have dv1 : p / (b.length : Int) ≤ p := Int.ediv_le_self _ hp
  rw [h7, m1, m2, d1, if_neg q, if_pos e, if_pos r1, if_pos r2, if_pos r3, if_pos r4, if_pos (show n ≠ 0 by omega)]
  generalize rd b (p % (b.length : Int)) = u1 at *
  generalize rd b ((p * 7 + 3) % (b.length : Int)) = u2 at *
  generalize p / (b.length : Int) = u3 at *
  rw [w64 (x := u1) (by omega) (by omega), w64 (x := u2) (by omega) (by omega), w64 (x := u1 * 131) (by omega) (by omega), w64 (x := u2 * 1117) (by omega) (by omega), w64 (x := u1 * 131 + u2 * 1117) (by omega) (by omega), w64 (x := p * 29) (by omega) (by omega),
    w64 (x := u1 * 131 + u2 * 1117 + p * 29) (by omega) (by omega), w64 (x := u3) (by omega) (by omega), w64 (x := u3 * 53) (by omega) (by omega), w64 (x := u1 * 131 + u2 * 1117 + p * 29 + u3 * 53) (by omega) (by omega)]
  obtain ⟨x, hx⟩ : ∃ x, u1 * 131 + u2 * 1117 + p * 29 + u3 * 53 = x := ⟨_, rfl⟩
  rw [hx]
  have x0 : 0 ≤ x := by omega
  have x1 : x ≤ 1000000000000 := by omega
  have y0 : 0 ≤ Int.tdiv x 64 ∧ Int.tdiv x 64 ≤ x := by rw [Int.tdiv_eq_ediv_of_nonneg x0]; exact ⟨Int.ediv_nonneg x0 (by omega), Int.ediv_le_self _ x0⟩
  rw [w64 (x := Int.tdiv x 64) (by omega) (by omega)]
  exact ⟨_, fin _ (yL x0 (by omega) y0.1 (by omega)), rfl⟩
theorem lJ {b : List Int} (hb : iD b) (p : Int) (hp : 0 ≤ p) (hp1 : p ≤ 1000000000) (l : List ByteArray) (h1 : 1 ≤ l.length) (h2 : l.length ≤ 1000000) : ∃ s ∈ l, bF.f b p l = some (s, b, p + 1) := by
  unfold bF.f
  obtain ⟨v, ⟨v0, v1, _⟩, e⟩ := gO hb p (l.length : Int) hp hp1 (by omega)
  have v1 := v1 (by omega)
  obtain ⟨n, rfl⟩ : ∃ n : Nat, v = (n : Int) := ⟨v.toNat, by omega⟩
  refine ⟨l.getD n ByteArray.empty, iO _ _ _ (by omega), ?_⟩
  rw [e]
  simp only [Option.bind_some]
  rw [if_pos v0, if_pos v1, dX]
theorem aFO (l : List Int) (h : ∀ x ∈ l, 0 ≤ x ∧ x ≤ 255) : ∃ b, iD b ∧ jF.f l = some (b, 0) := by
  unfold jF.f
  by_cases c : (l.length : Int) > 2000
  · refine ⟨l.take 2000, ⟨by simp; omega, fun i hi => ?_⟩, by rw [if_pos c, if_pos (by omega)]; rfl⟩
    exact h _ (List.mem_of_mem_take (iO 0 _ i hi))
  · exact ⟨l, ⟨by omega, fun i hi => h _ (iO 0 _ i hi)⟩, by rw [if_neg c]⟩
theorem aCJ {l : List Int} (h : ∀ x ∈ l, (Lit.int .u8 x).wf = true) : ∀ x ∈ l, 0 ≤ x ∧ x ≤ 255 := fun x hx => by
  have := h x hx
  simpa [Lit.wf, IntKind.min, IntKind.max, IntKind.signed, IntKind.bits] using this
/-! ### answers that are there -/
/-- there is an answer, and it is so -/
def ExP {α : Type} (g : Nat → Option α) (Q : α → Prop) : Prop := ∃ q, Ev g q ∧ Q q
theorem cP {α : Type} {a : α} {Q : α → Prop} (h : Q a) : ExP (fun _ => some a) Q := ⟨a, Ev.now a, h⟩
theorem eE {α β : Type} {g : Option α} {a : α} {f : Nat → α → Option β} {Q : β → Prop} (h : g = some a) (k : ExP (fun n => f n a) Q) : ExP (fun n => g.bind (f n)) Q := by subst h; exact k
theorem eC {α β : Type} {g : Nat → Option α} {f : Nat → α → Option β} {R : α → Prop} {Q : β → Prop} (h : ExP g R) (k : ∀ a, R a → ExP (fun n => f n a) Q) : ExP (fun n => (g n).bind (f n)) Q := by
  obtain ⟨a, h1, h2⟩ := h
  obtain ⟨q, e, hq⟩ := k a h2
  exact ⟨q, Ev.bind h1 e, hq⟩
theorem bX {α : Type} {c : Prop} {d : Decidable c} {g f : Nat → Option α} {Q : α → Prop} (h : c → ExP g Q) (k : ¬ c → ExP f Q) : ExP (fun n => @ite _ c d (g n) (f n)) Q := by
  by_cases q : c
  · exact (h q).imp fun _ e => ⟨aU q e.1, e.2⟩
  · exact (k q).imp fun _ e => ⟨cJ q e.1, e.2⟩
theorem aY {α : Type} {c : Prop} {d : Decidable c} {g f : Nat → Option α} {Q : α → Prop} (h : c) (k : ExP g Q) : ExP (fun n => @ite _ c d (g n) (f n)) Q := k.imp fun _ e => ⟨aU h e.1, e.2⟩
theorem dN {α : Type} {c : Prop} {d : Decidable c} {g f : Nat → Option α} {Q : α → Prop} (h : ¬ c) (k : ExP f Q) : ExP (fun n => @ite _ c d (g n) (f n)) Q := k.imp fun _ e => ⟨cJ h e.1, e.2⟩
theorem bY {α : Type} {g f : Nat → Option α} {Q : α → Prop} (h : ∀ k, g (k + 1) = f k) (k : ExP f Q) : ExP g Q := k.imp fun _ e => ⟨Ev.step h e.1, e.2⟩
theorem fK {α β : Type} {g : Nat → Option α} {a : α} {f : Nat → α → Option β} {Q : β → Prop} (h : Ev g a) (k : ExP (fun n => f n a) Q) : ExP (fun n => (g n).bind (f n)) Q := by
  obtain ⟨q, e, hq⟩ := k
  exact ⟨q, Ev.bind h e, hq⟩
/-! ### plants, drawn: what a line puts into one -/
structure PD (m : Nat) (s : List ByteArray) (f : List aF) (p : List aB) (v : List aA) : Prop where
  ls : s.length ≤ 8 + m
  lf : f.length ≤ 12 + m
  lp : p.length ≤ 14 + m
  lv : v.length ≤ 18 + m
  s1 : ∀ x ∈ s, x.size ≤ 1000
  f1 : ∀ x ∈ f, x.f0.size ≤ 1000 ∧ x.f1.size ≤ 1000
  p1 : ∀ x ∈ p, x.f0.size ≤ 1000 ∧ x.f2.size ≤ 1000
  v1 : ∀ x ∈ v, x.f0.size ≤ 1000 ∧ x.f1.size ≤ 1000 ∧ x.f2.size ≤ 1000 ∧ x.f3.size ≤ 1000
abbrev PC := List ByteArray × List aF × List aB × List aA × Int
def QC (t : PC) : Prop := PD 0 t.1 t.2.1 t.2.2.1 t.2.2.2.1
theorem zA {t : PC} (h : QC t) : QC (t.1, t.2.1, t.2.2.1, t.2.2.2.1, t.2.2.2.2) := h
theorem rR {s : List ByteArray} {f : List aF} {p : List aB} {v : List aA} (h : PD 0 s f p v) (c : Int) : QC (s, f, p, v, c) := h
theorem nO {α : Type} {P : α → Prop} {l : List α} {x : α} (n : Nat) (h : ∀ y ∈ l, P y) (hx : P x) : ∀ y ∈ (([] ++ l.take n) ++ [x]) ++ l.drop n, P y := fun y hy => by
  rcases List.mem_append.1 hy with hy | hy
  · rcases List.mem_append.1 hy with hy | hy
    · exact h y (List.mem_of_mem_take hy)
    · rw [List.mem_singleton] at hy; subst hy; exact hx
  · exact h y (List.mem_of_mem_drop hy)
theorem nU {α : Type} (l : List α) (x : α) (n : Nat) : ((([] ++ l.take n) ++ [x]) ++ l.drop n).length = l.length + 1 := by
  simp only [List.nil_append, List.length_append, List.length_take, List.length_drop, List.length_cons, List.length_nil]; omega
theorem iM {ws : List ByteArray} (h : ∀ w ∈ ws, w.size ≤ 1000) (i : Nat) : (bE ByteArray.empty ws (i : Int)).size ≤ 1000 := by
  rw [dX]
  by_cases c : i < ws.length
  · exact h _ (iO ByteArray.empty ws i c)
  · rw [List.getD_eq_getElem?_getD, List.getElem?_eq_none (by omega)]; show 0 ≤ 1000; omega
theorem wX (a : ByteArray) : ExP (fun k => cA.f k a) (fun _ => True) := by
  unfold cA.f
  refine fK (pQ _ _ _) (bX (fun c => ?_) (fun _ => cP trivial))
  have ha : a.size ≤ 4 := by have := of_decide_eq_true c; omega
  have L0 : ExP (fun k => cA.l0 k a 0 0) (fun _ => True) := by
    refine oZ a.size (P := fun i => ∀ n : Int, ExP (fun k => cA.l0 k a n (i : Int)) (fun _ => True)) (fun n => ?_) (fun i hi ih n => ?_) 0
    · refine bY (fun k => by rw [cA.l0]) ?_
      repeat' (first
        | with_reducible exact cP (trivial)
        | with_reducible refine aY (by omega) ?_
        | with_reducible refine dN (by omega) ?_
        | with_reducible refine bX (fun _ => ?_) (fun _ => ?_))
    · refine bY (fun k => by rw [cA.l0]) ?_
      rw [dU hi (by omega)]
      repeat' (first
        | with_reducible exact (ih _)
        | with_reducible exact cP (trivial)
        | with_reducible refine aY (by omega) ?_
        | with_reducible refine dN (by omega) ?_
        | with_reducible refine bX (fun _ => ?_) (fun _ => ?_))
  have L1 : ExP (fun k => cA.l1 k a 0 0) (fun _ => True) := by
    refine oZ a.size (P := fun i => ∀ n : Int, ExP (fun k => cA.l1 k a n (i : Int)) (fun _ => True)) (fun n => ?_) (fun i hi ih n => ?_) 0
    · refine bY (fun k => by rw [cA.l1]) ?_
      repeat' (first
        | with_reducible exact cP (trivial)
        | with_reducible refine aY (by omega) ?_
        | with_reducible refine dN (by omega) ?_
        | with_reducible refine bX (fun _ => ?_) (fun _ => ?_))
    · refine bY (fun k => by rw [cA.l1]) ?_
      rw [dU hi (by omega)]
      repeat' (first
        | with_reducible exact (ih _)
        | with_reducible exact cP (trivial)
        | with_reducible refine aY (by omega) ?_
        | with_reducible refine dN (by omega) ?_
        | with_reducible refine bX (fun _ => ?_) (fun _ => ?_))
  repeat' (first
    | with_reducible exact cP (trivial)
    | with_reducible exact (L0)
    | with_reducible exact (L1)
    | with_reducible refine aY (by omega) ?_
    | with_reducible refine dN (by omega) ?_
    | with_reducible refine bX (fun _ => ?_) (fun _ => ?_))
section
variable {s : List ByteArray} {f : List aF} {p : List aB} {v : List aA} {ws : List ByteArray} (h : PD 0 s f p v) (hw : ∀ w ∈ ws, w.size ≤ 1000)
include h hw
theorem zE : ExP (fun k => eH.f k s f p v ws) QC := by
  obtain ⟨ls, lf, lp, lv, s1, f1, p1, v1⟩ := h
  have h : PD 0 s f p v := ⟨ls, lf, lp, lv, s1, f1, p1, v1⟩
  have w1 := iM hw 1
  have L : s.length ≤ 7 → ExP (fun k => eH.l0 k s f p v ws 0) QC := fun hs => by
    have fin : ∀ n : Nat, QC ((([] ++ s.take n) ++ [bE ByteArray.empty ws 1]) ++ s.drop n, f, p, v, 0) := fun n => ⟨by dsimp only; rw [nU]; omega, lf, lp, lv, nO n s1 w1, f1, p1, v1⟩
    refine fN ByteArray.empty s (P := fun i _ => ExP (fun k => eH.l0 k s f p v ws (i : Int)) QC) ?_ (fun i x r hi hx hm _ ih => ?_)
    · refine bY (fun k => by rw [eH.l0]) ?_
      rw [Int.toNat_natCast]
      repeat' (first
        | with_reducible exact cP (fin _)
        | with_reducible refine aY (by omega) ?_
        | with_reducible refine dN (by omega) ?_
        | with_reducible refine bX (fun _ => ?_) (fun _ => ?_))
    · refine bY (fun k => by rw [eH.l0]) ?_
      rw [Int.toNat_natCast, dU hi (by omega)]
      repeat' (first
        | with_reducible exact (ih)
        | with_reducible exact cP (fin _)
        | with_reducible refine aY (by omega) ?_
        | with_reducible refine dN (by omega) ?_
        | with_reducible refine bX (fun _ => ?_) (fun _ => ?_))
  unfold eH.f
  repeat' (first
    | with_reducible refine fK (gK _) ?_
    | with_reducible refine fK (iN _ _ (by omega)) ?_
    | with_reducible exact cP (rR h _)
    | with_reducible exact (L (by omega))
    | with_reducible refine aY (by omega) ?_
    | with_reducible refine dN (by omega) ?_
    | with_reducible refine bX (fun _ => ?_) (fun _ => ?_))
omit hw in
theorem aBA (a b : ByteArray) : ExP (fun k => eJ.f k s f p v a b) (fun _ => True) := by
  obtain ⟨ls, lf, lp, lv, s1, f1, p1, v1⟩ := h
  unfold eJ.f
  refine fN fR f (P := fun i _ => ExP (fun k => eJ.l0 k f a b (i : Int)) (fun _ => True)) ?_ (fun i x r hi hx hm _ ih => ?_)
  · refine bY (fun k => by rw [eJ.l0]) ?_
    repeat' (first
      | with_reducible exact cP (trivial)
      | with_reducible refine aY (by omega) ?_
      | with_reducible refine dN (by omega) ?_
      | with_reducible refine bX (fun _ => ?_) (fun _ => ?_))
  · refine bY (fun k => by rw [eJ.l0]) ?_
    rw [dU hi (by omega)]
    repeat' (first
      | with_reducible exact (ih)
      | with_reducible exact cP (trivial)
      | with_reducible refine aY (by omega) ?_
      | with_reducible refine dN (by omega) ?_
      | with_reducible refine bX (fun _ => ?_) (fun _ => ?_))
theorem aCZ : ExP (fun k => dB.f k s f p v ws) QC := by
  have hF := fun a b => aBA h a b
  obtain ⟨ls, lf, lp, lv, s1, f1, p1, v1⟩ := h
  have h : PD 0 s f p v := ⟨ls, lf, lp, lv, s1, f1, p1, v1⟩
  have w1 := iM hw 1
  have w2 := iM hw 2
  have L0 : f.length ≤ 11 → ExP (fun k => dB.l0 k s f p v ws 0) QC := fun hs => by
    have fin : ∀ n : Nat, QC (s, (([] ++ f.take n) ++ [(⟨bE ByteArray.empty ws 2, bE ByteArray.empty ws 1⟩ : aF)]) ++ f.drop n, p, v, 0) := fun n => ⟨ls, by dsimp only; rw [nU]; omega, lp, lv, s1, nO n f1 ⟨w2, w1⟩, p1, v1⟩
    refine fN fR f (P := fun i _ => ExP (fun k => dB.l0 k s f p v ws (i : Int)) QC) ?_ (fun i x r hi hx hm _ ih => ?_)
    · refine bY (fun k => by rw [dB.l0]) ?_
      rw [Int.toNat_natCast]
      repeat' (first
        | with_reducible refine fK (kM _ _ _ _) ?_
        | with_reducible exact cP (fin _)
        | with_reducible refine aY (by omega) ?_
        | with_reducible refine dN (by omega) ?_
        | with_reducible refine bX (fun _ => ?_) (fun _ => ?_))
    · refine bY (fun k => by rw [dB.l0]) ?_
      rw [Int.toNat_natCast, dU hi (by omega)]
      repeat' (first
        | with_reducible refine fK (kM _ _ _ _) ?_
        | with_reducible exact (ih)
        | with_reducible exact cP (fin _)
        | with_reducible refine aY (by omega) ?_
        | with_reducible refine dN (by omega) ?_
        | with_reducible refine bX (fun _ => ?_) (fun _ => ?_))
  have L1 : f.length ≤ 11 → ExP (fun k => dB.l1 k s f p v ws 0) QC := fun hs => by
    have fin : ∀ n : Nat, QC (s, (([] ++ f.take n) ++ [(⟨bE ByteArray.empty ws 1, bE ByteArray.empty ws 2⟩ : aF)]) ++ f.drop n, p, v, 0) := fun n => ⟨ls, by dsimp only; rw [nU]; omega, lp, lv, s1, nO n f1 ⟨w1, w2⟩, p1, v1⟩
    refine fN fR f (P := fun i _ => ExP (fun k => dB.l1 k s f p v ws (i : Int)) QC) ?_ (fun i x r hi hx hm _ ih => ?_)
    · refine bY (fun k => by rw [dB.l1]) ?_
      rw [Int.toNat_natCast]
      repeat' (first
        | with_reducible refine fK (kM _ _ _ _) ?_
        | with_reducible exact cP (fin _)
        | with_reducible refine aY (by omega) ?_
        | with_reducible refine dN (by omega) ?_
        | with_reducible refine bX (fun _ => ?_) (fun _ => ?_))
    · refine bY (fun k => by rw [dB.l1]) ?_
      rw [Int.toNat_natCast, dU hi (by omega)]
      repeat' (first
        | with_reducible refine fK (kM _ _ _ _) ?_
        | with_reducible exact (ih)
        | with_reducible exact cP (fin _)
        | with_reducible refine aY (by omega) ?_
        | with_reducible refine dN (by omega) ?_
        | with_reducible refine bX (fun _ => ?_) (fun _ => ?_))
  unfold dB.f
  repeat' (first
    | with_reducible refine fK (gK _) ?_
    | with_reducible refine eC (hF _ _) (fun t ht => ?_)
    | with_reducible refine fK (iN _ _ (by omega)) ?_
    | with_reducible exact cP (rR h _)
    | with_reducible exact (L0 (by omega))
    | with_reducible exact (L1 (by omega))
    | with_reducible refine aY (by omega) ?_
    | with_reducible refine dN (by omega) ?_
    | with_reducible refine bX (fun _ => ?_) (fun _ => ?_))
omit hw in
theorem oC (a : ByteArray) (n : Int) (c : ByteArray) (ha : a.size ≤ 1000) (hc : c.size ≤ 1000) : ExP (fun k => cU.f k s f p v a n c) QC := by
  obtain ⟨ls, lf, lp, lv, s1, f1, p1, v1⟩ := h
  have h : PD 0 s f p v := ⟨ls, lf, lp, lv, s1, f1, p1, v1⟩
  have L : p.length ≤ 13 → ExP (fun k => cU.l0 k s f p v a n c 0) QC := fun hs => by
    have fin : ∀ j : Nat, QC (s, f, (([] ++ p.take j) ++ [(⟨a, n, c⟩ : aB)]) ++ p.drop j, v, 0) := fun j => ⟨ls, lf, by dsimp only; rw [nU]; omega, lv, s1, f1, nO j p1 ⟨ha, hc⟩, v1⟩
    refine fN dQ p (P := fun i _ => ExP (fun k => cU.l0 k s f p v a n c (i : Int)) QC) ?_ (fun i x r hi hx hm _ ih => ?_)
    · refine bY (fun k => by rw [cU.l0]) ?_
      rw [Int.toNat_natCast]
      repeat' (first
        | with_reducible exact cP (fin _)
        | with_reducible refine aY (by omega) ?_
        | with_reducible refine dN (by omega) ?_
        | with_reducible refine bX (fun _ => ?_) (fun _ => ?_))
    · refine bY (fun k => by rw [cU.l0]) ?_
      rw [Int.toNat_natCast, dU hi (by omega)]
      repeat' (first
        | with_reducible exact (ih)
        | with_reducible exact cP (fin _)
        | with_reducible refine aY (by omega) ?_
        | with_reducible refine dN (by omega) ?_
        | with_reducible refine bX (fun _ => ?_) (fun _ => ?_))
  unfold cU.f
  repeat' (first
    | with_reducible refine fK (lH _ _ _ _ _ (by omega)) ?_
    | with_reducible exact cP (rR h _)
    | with_reducible exact (L (by omega))
    | with_reducible refine aY (by omega) ?_
    | with_reducible refine dN (by omega) ?_
    | with_reducible refine bX (fun _ => ?_) (fun _ => ?_))
theorem xD : ExP (fun k => iK.f k s f p v ws) QC := by
  have hP := fun n => oC h (bE ByteArray.empty ws 1) n (bE ByteArray.empty ws 3) (iM hw 1) (iM hw 3)
  have hN := fun a => wX a
  unfold iK.f
  repeat' (first
    | with_reducible refine fK (gK _) ?_
    | with_reducible refine eC (hN _) (fun t ht => ?_)
    | with_reducible refine fK (pQ _ _ _) ?_
    | with_reducible refine eC (hP _) (fun t ht => ?_)
    | with_reducible exact cP (rR h _)
    | with_reducible exact cP (zA ht)
    | with_reducible refine aY (by omega) ?_
    | with_reducible refine dN (by omega) ?_
    | with_reducible refine bX (fun _ => ?_) (fun _ => ?_))
theorem zI : ExP (fun k => iV.f k s f p v ws) QC := by
  have hP := oC h (bE ByteArray.empty ws 1) 0 (bE ByteArray.empty ws 2) (iM hw 1) (iM hw 2)
  unfold iV.f
  repeat' (first
    | with_reducible refine fK (gK _) ?_
    | with_reducible refine eC (hP) (fun t ht => ?_)
    | with_reducible exact cP (rR h _)
    | with_reducible exact cP (zA ht)
    | with_reducible refine aY (by omega) ?_
    | with_reducible refine dN (by omega) ?_
    | with_reducible refine bX (fun _ => ?_) (fun _ => ?_))
omit hw in
theorem yJ (a : ByteArray) : ExP (fun k => cY.f k s f p v a) (fun _ => True) := by
  obtain ⟨ls, lf, lp, lv, s1, f1, p1, v1⟩ := h
  unfold cY.f
  refine fN cH v (P := fun i _ => ExP (fun k => cY.l0 k v a (i : Int)) (fun _ => True)) ?_ (fun i x r hi hx hm _ ih => ?_)
  · refine bY (fun k => by rw [cY.l0]) ?_
    repeat' (first
      | with_reducible exact cP (trivial)
      | with_reducible refine aY (by omega) ?_
      | with_reducible refine dN (by omega) ?_
      | with_reducible refine bX (fun _ => ?_) (fun _ => ?_))
  · refine bY (fun k => by rw [cY.l0]) ?_
    rw [dU hi (by omega)]
    repeat' (first
      | with_reducible exact (ih)
      | with_reducible exact cP (trivial)
      | with_reducible refine aY (by omega) ?_
      | with_reducible refine dN (by omega) ?_
      | with_reducible refine bX (fun _ => ?_) (fun _ => ?_))
theorem yV : ExP (fun k => cL.f k s f p v ws) QC := by
  have hV := fun a => yJ h a
  obtain ⟨ls, lf, lp, lv, s1, f1, p1, v1⟩ := h
  have h : PD 0 s f p v := ⟨ls, lf, lp, lv, s1, f1, p1, v1⟩
  have w1 := iM hw 1
  have w2 := iM hw 2
  have w3 := iM hw 3
  have w4 := iM hw 4
  have L0 : v.length ≤ 17 → ExP (fun k => cL.l0 k s f p v ws 0) QC := fun hs => by
    have fin : ∀ n : Nat, QC (s, f, p, (([] ++ v.take n) ++ [(⟨bE ByteArray.empty ws 1, bE ByteArray.empty ws 3, bE ByteArray.empty ws 2, bE ByteArray.empty ws 4⟩ : aA)]) ++ v.drop n, 0) := fun n => ⟨ls, lf, lp, by dsimp only; rw [nU]; omega, s1, f1, p1, nO n v1 ⟨w1, w3, w2, w4⟩⟩
    refine fN cH v (P := fun i _ => ExP (fun k => cL.l0 k s f p v ws (i : Int)) QC) ?_ (fun i x r hi hx hm _ ih => ?_)
    · refine bY (fun k => by rw [cL.l0]) ?_
      rw [Int.toNat_natCast]
      repeat' (first
        | with_reducible exact cP (fin _)
        | with_reducible refine aY (by omega) ?_
        | with_reducible refine dN (by omega) ?_
        | with_reducible refine bX (fun _ => ?_) (fun _ => ?_))
    · refine bY (fun k => by rw [cL.l0]) ?_
      rw [Int.toNat_natCast, dU hi (by omega)]
      repeat' (first
        | with_reducible exact (ih)
        | with_reducible exact cP (fin _)
        | with_reducible refine aY (by omega) ?_
        | with_reducible refine dN (by omega) ?_
        | with_reducible refine bX (fun _ => ?_) (fun _ => ?_))
  have L1 : v.length ≤ 17 → ExP (fun k => cL.l1 k s f p v ws 0) QC := fun hs => by
    have fin : ∀ n : Nat, QC (s, f, p, (([] ++ v.take n) ++ [(⟨bE ByteArray.empty ws 1, bE ByteArray.empty ws 2, bE ByteArray.empty ws 3, bE ByteArray.empty ws 4⟩ : aA)]) ++ v.drop n, 0) := fun n => ⟨ls, lf, lp, by dsimp only; rw [nU]; omega, s1, f1, p1, nO n v1 ⟨w1, w2, w3, w4⟩⟩
    refine fN cH v (P := fun i _ => ExP (fun k => cL.l1 k s f p v ws (i : Int)) QC) ?_ (fun i x r hi hx hm _ ih => ?_)
    · refine bY (fun k => by rw [cL.l1]) ?_
      rw [Int.toNat_natCast]
      repeat' (first
        | with_reducible exact cP (fin _)
        | with_reducible refine aY (by omega) ?_
        | with_reducible refine dN (by omega) ?_
        | with_reducible refine bX (fun _ => ?_) (fun _ => ?_))
    · refine bY (fun k => by rw [cL.l1]) ?_
      rw [Int.toNat_natCast, dU hi (by omega)]
      repeat' (first
        | with_reducible exact (ih)
        | with_reducible exact cP (fin _)
        | with_reducible refine aY (by omega) ?_
        | with_reducible refine dN (by omega) ?_
        | with_reducible refine bX (fun _ => ?_) (fun _ => ?_))
  unfold cL.f
  repeat' (first
    | with_reducible refine fK (gK _) ?_
    | with_reducible refine eC (hV _) (fun t ht => ?_)
    | with_reducible refine fK (lH _ _ _ _ _ (by omega)) ?_
    | with_reducible exact cP (rR h _)
    | with_reducible exact (L0 (by omega))
    | with_reducible exact (L1 (by omega))
    | with_reducible refine aY (by omega) ?_
    | with_reducible refine dN (by omega) ?_
    | with_reducible refine bX (fun _ => ?_) (fun _ => ?_))
theorem iC (h0 : 1 ≤ ws.length) : ExP (fun k => dA.f k s f p v ws) (fun t => PD 0 t.1 t.2.1 t.2.2.1 t.2.2.2) := by
  have e1 := zE h hw
  have e2 := aCZ h hw
  have e3 := xD h hw
  have e4 := zI h hw
  have e5 := yV h hw
  have hP : ExP (fun k => jT.f k s f p v ws) QC := by
    unfold jT.f
    repeat' (first
      | with_reducible refine eC (e1) (fun t ht => ?_)
      | with_reducible refine eC (e2) (fun t ht => ?_)
      | with_reducible refine eC (e3) (fun t ht => ?_)
      | with_reducible refine eC (e4) (fun t ht => ?_)
      | with_reducible refine eC (e5) (fun t ht => ?_)
      | with_reducible exact cP (rR h _)
      | with_reducible exact cP (zA ht)
      | with_reducible refine aY (by omega) ?_
      | with_reducible refine dN (by omega) ?_
      | with_reducible refine bX (fun _ => ?_) (fun _ => ?_))
  unfold dA.f
  exact eC hP (fun t ht => bX (fun _ => cP ht) (fun _ => cP h))
end
theorem jJ {m : Nat} (hm : m ≤ 10) {s : List ByteArray} {f : List aF} {p : List aB} {v : List aA} (h : PD m s f p v) : dV.f s f p v = some (s, f, p, v) := by
  obtain ⟨ls, lf, lp, lv, _⟩ := h
  unfold dV.f
  rw [if_pos (by omega), if_pos (by omega), if_pos (by omega), if_pos (by omega)]; rfl
/-! ### plants, drawn -/
abbrev TPl := List ByteArray × List aF × List aB × List aA × List Int × Int
def QD (m : Nat) (b : List Int) (hi : Int) (t : TPl) : Prop := PD m t.1 t.2.1 t.2.2.1 t.2.2.2.1 ∧ t.2.2.2.2.1 = b ∧ 0 ≤ t.2.2.2.2.2 ∧ t.2.2.2.2.2 ≤ hi
theorem oN {n : Int} (h0 : 0 ≤ n) (h : n ≤ 100) : (aCR n).size ≤ 101 := by
  have := vG n.toNat n.toNat (Nat.le_refl _)
  show (_ : List UInt8).toArray.size ≤ 101
  rw [List.size_toArray]; omega
theorem ws3 {a b c : ByteArray} (ha : a.size ≤ 1000) (hb : b.size ≤ 1000) (hc : c.size ≤ 1000) : ∀ w ∈ [a, b, c], w.size ≤ 1000 := fun w hw => by
  simp only [List.mem_cons, List.mem_nil_iff, or_false] at hw
  rcases hw with rfl | rfl | rfl <;> assumption
theorem ws4 {a b c d : ByteArray} (ha : a.size ≤ 1000) (hb : b.size ≤ 1000) (hc : c.size ≤ 1000) (hd : d.size ≤ 1000) : ∀ w ∈ [a, b, c, d], w.size ≤ 1000 := fun w hw => by
  simp only [List.mem_cons, List.mem_nil_iff, or_false] at hw
  rcases hw with rfl | rfl | rfl | rfl <;> assumption
theorem ws5 {a b c d e : ByteArray} (ha : a.size ≤ 1000) (hb : b.size ≤ 1000) (hc : c.size ≤ 1000) (hd : d.size ≤ 1000) (he : e.size ≤ 1000) : ∀ w ∈ [a, b, c, d, e], w.size ≤ 1000 := fun w hw => by
  simp only [List.mem_cons, List.mem_nil_iff, or_false] at hw
  rcases hw with rfl | rfl | rfl | rfl | rfl <;> assumption
theorem pR {p : List aB} (h : ∀ x ∈ p, x.f0.size ≤ 1000 ∧ x.f2.size ≤ 1000) (a : Int) (h0 : 0 ≤ a) (h1 : a < p.length) : (aO p a).f0.size ≤ 1000 := by
  obtain ⟨n, rfl⟩ : ∃ n : Nat, a = (n : Int) := ⟨a.toNat, by omega⟩
  rw [rdP]
  exact (h _ (iO dQ p n (by omega))).1
theorem kX {l : List ByteArray} {s : ByteArray} (h : s ∈ l) (hl : (l.all fun x => decide (x.size ≤ 1000)) = true) : s.size ≤ 1000 := of_decide_eq_true (List.all_eq_true.1 hl s h)
theorem aGL {b : List Int} (hb : iD b) : ∀ (m i : Nat) (s : List ByteArray) (f : List aF) (p : List aB) (v : List aA) (q : Int), i + m = 40 → PD 0 s f p v → 0 ≤ q → q + 2 * m ≤ 100000 → ExP (fun k => aJ.l5 k (i : Int) b q s f p v) (QD 0 b 100000)
  | 0, i, s, f, p, v, q, hi, h, h0, hq => by
    refine bY (fun k => by rw [aJ.l5]) (dN (by omega) ?_)
    exact eE (jJ (by omega) h) (cP ⟨h, rfl, h0, by dsimp only; omega⟩)
  | m + 1, i, s, f, p, v, q, hi, h, h0, hq => by
    refine bY (fun k => by rw [aJ.l5]) (aY (by omega) (fK (gU i (i : Int) (by omega) (by omega) (by omega)) ?_))
    have hds := oN (n := (i : Int)) (by omega) (by omega)
    have z1 : (⟨#[121]⟩ : ByteArray).size = 1 := rfl
    refine aY (by omega) ?_
    obtain ⟨x, hx, e1⟩ := lJ hb q h0 (by omega) ([(⟨#[121, 48]⟩ : ByteArray), (⟨#[121, 49]⟩ : ByteArray), (⟨#[121, 50]⟩ : ByteArray), (⟨#[121, 51]⟩ : ByteArray)] : List ByteArray) (by decide) (by decide)
    refine eE e1 ?_
    dsimp only
    obtain ⟨y, hy, e2⟩ := lJ hb (q + 1) (by omega) (by omega) ([(⟨#[121, 48]⟩ : ByteArray), (⟨#[121, 49]⟩ : ByteArray), (⟨#[121, 50]⟩ : ByteArray), (⟨#[97]⟩ : ByteArray)] : List ByteArray) (by decide) (by decide)
    refine eE e2 ?_
    dsimp only
    refine eC (iC h (ws5 (by decide) (by rw [ByteArray.size_append]; omega) (kX hx (by decide)) (kX hy (by decide)) (by decide)) (by simp)) (fun t ht => ?_)
    rw [dU (n := 100) (by omega) (by omega)]
    exact aGL hb m (i + 1) _ _ _ _ _ (by omega) ht (by omega) (by omega)
theorem aGJ {b : List Int} (hb : iD b) (t0 : Int × List Int × Int) (hb0 : t0.2.1 = b) (h00 : 0 ≤ t0.2.2) (h01 : t0.2.2 ≤ 90000) : ∀ (m i : Nat) (s : List ByteArray) (f : List aF) (p : List aB) (v : List aA), i + m = 20 → PD 0 s f p v → ExP (fun k => aJ.l4 k (i : Int) t0 s f p v) (QD 0 b 100000)
  | 0, i, s, f, p, v, hi, h => by
    refine bY (fun k => by rw [aJ.l4]) (dN (by omega) ?_)
    rw [hb0]
    exact aGL hb 40 0 s f p v _ (by omega) h h00 (by omega)
  | m + 1, i, s, f, p, v, hi, h => by
    refine bY (fun k => by rw [aJ.l4]) (aY (by omega) (fK (gU i (i : Int) (by omega) (by omega) (by omega)) ?_))
    have hds := oN (n := (i : Int)) (by omega) (by omega)
    have z1 : (⟨#[121]⟩ : ByteArray).size = 1 := rfl
    refine aY (by omega) (eC (iC h (ws3 (by decide) (by rw [ByteArray.size_append]; omega) (by decide)) (by simp)) (fun t ht => ?_))
    rw [dU (n := 100) (by omega) (by omega)]
    exact aGJ hb t0 hb0 h00 h01 m (i + 1) _ _ _ _ (by omega) ht
theorem aGO {b : List Int} (hb : iD b) : ∀ (m i : Nat) (s : List ByteArray) (f : List aF) (p : List aB) (v : List aA) (q : Int), i + m = 40 → PD 0 s f p v → 0 ≤ q → q + 2 * m ≤ 100000 → ExP (fun k => aJ.l7 k (i : Int) b q s f p v) (QD 0 b 100000)
  | 0, i, s, f, p, v, q, hi, h, h0, hq => by
    refine bY (fun k => by rw [aJ.l7]) (dN (by omega) ?_)
    exact eE (jJ (by omega) h) (cP ⟨h, rfl, h0, by dsimp only; omega⟩)
  | m + 1, i, s, f, p, v, q, hi, h, h0, hq => by
    refine bY (fun k => by rw [aJ.l7]) (aY (by omega) (fK (gU i (i : Int) (by omega) (by omega) (by omega)) ?_))
    have hds := oN (n := (i : Int)) (by omega) (by omega)
    have z1 : (⟨#[121]⟩ : ByteArray).size = 1 := rfl
    refine aY (by omega) ?_
    obtain ⟨x, hx, e1⟩ := lJ hb q h0 (by omega) ([(⟨#[121, 48]⟩ : ByteArray), (⟨#[121, 49]⟩ : ByteArray), (⟨#[121, 50]⟩ : ByteArray), (⟨#[121, 51]⟩ : ByteArray)] : List ByteArray) (by decide) (by decide)
    refine eE e1 ?_
    dsimp only
    obtain ⟨y, hy, e2⟩ := lJ hb (q + 1) (by omega) (by omega) ([(⟨#[121, 48]⟩ : ByteArray), (⟨#[121, 49]⟩ : ByteArray), (⟨#[121, 50]⟩ : ByteArray), (⟨#[97]⟩ : ByteArray)] : List ByteArray) (by decide) (by decide)
    refine eE e2 ?_
    dsimp only
    refine eC (iC h (ws5 (by decide) (by rw [ByteArray.size_append]; omega) (kX hx (by decide)) (kX hy (by decide)) (by decide)) (by simp)) (fun t ht => ?_)
    rw [dU (n := 100) (by omega) (by omega)]
    exact aGO hb m (i + 1) _ _ _ _ _ (by omega) ht (by omega) (by omega)
theorem aGX {b : List Int} (hb : iD b) (t0 : Int × List Int × Int) (hb0 : t0.2.1 = b) (h00 : 0 ≤ t0.2.2) (h01 : t0.2.2 ≤ 90000) : ∀ (m i : Nat) (s : List ByteArray) (f : List aF) (p : List aB) (v : List aA), i + m = 20 → PD 0 s f p v → ExP (fun k => aJ.l6 k (i : Int) t0 s f p v) (QD 0 b 100000)
  | 0, i, s, f, p, v, hi, h => by
    refine bY (fun k => by rw [aJ.l6]) (dN (by omega) ?_)
    rw [hb0]
    exact aGO hb 40 0 s f p v _ (by omega) h h00 (by omega)
  | m + 1, i, s, f, p, v, hi, h => by
    refine bY (fun k => by rw [aJ.l6]) (aY (by omega) (fK (gU i (i : Int) (by omega) (by omega) (by omega)) ?_))
    have hds := oN (n := (i : Int)) (by omega) (by omega)
    have z1 : (⟨#[121]⟩ : ByteArray).size = 1 := rfl
    refine aY (by omega) (eC (iC h (ws3 (by decide) (by rw [ByteArray.size_append]; omega) (by decide)) (by simp)) (fun t ht => ?_))
    rw [dU (n := 100) (by omega) (by omega)]
    exact aGX hb t0 hb0 h00 h01 m (i + 1) _ _ _ _ (by omega) ht
theorem aCK {b : List Int} (hb : iD b) : ∀ (m i : Nat) (s : List ByteArray) (f : List aF) (p : List aB) (v : List aA) (q : Int), i + m = 40 → PD 0 s f p v → 0 ≤ q → q + 2 * m ≤ 100000 → ExP (fun k => aJ.l11 k (i : Int) b q s f p v) (QD 0 b 100000)
  | 0, i, s, f, p, v, q, hi, h, h0, hq => by
    refine bY (fun k => by rw [aJ.l11]) (dN (by omega) ?_)
    exact eE (jJ (by omega) h) (cP ⟨h, rfl, h0, by dsimp only; omega⟩)
  | m + 1, i, s, f, p, v, q, hi, h, h0, hq => by
    refine bY (fun k => by rw [aJ.l11]) (aY (by omega) (fK (gU i (i : Int) (by omega) (by omega) (by omega)) ?_))
    have hds := oN (n := (i : Int)) (by omega) (by omega)
    have z1 : (⟨#[121]⟩ : ByteArray).size = 1 := rfl
    refine aY (by omega) ?_
    obtain ⟨x, hx, e1⟩ := lJ hb q h0 (by omega) ([(⟨#[121, 48]⟩ : ByteArray), (⟨#[121, 49]⟩ : ByteArray), (⟨#[121, 50]⟩ : ByteArray), (⟨#[121, 51]⟩ : ByteArray)] : List ByteArray) (by decide) (by decide)
    refine eE e1 ?_
    dsimp only
    obtain ⟨y, hy, e2⟩ := lJ hb (q + 1) (by omega) (by omega) ([(⟨#[121, 48]⟩ : ByteArray), (⟨#[121, 49]⟩ : ByteArray), (⟨#[121, 50]⟩ : ByteArray), (⟨#[97]⟩ : ByteArray)] : List ByteArray) (by decide) (by decide)
    refine eE e2 ?_
    dsimp only
    refine eC (iC h (ws5 (by decide) (by rw [ByteArray.size_append]; omega) (kX hx (by decide)) (kX hy (by decide)) (by decide)) (by simp)) (fun t ht => ?_)
    rw [dU (n := 100) (by omega) (by omega)]
    exact aCK hb m (i + 1) _ _ _ _ _ (by omega) ht (by omega) (by omega)
theorem aEF {b : List Int} (hb : iD b) (t0 : Int × List Int × Int) (hb0 : t0.2.1 = b) (h00 : 0 ≤ t0.2.2) (h01 : t0.2.2 ≤ 90000) : ∀ (m i : Nat) (s : List ByteArray) (f : List aF) (p : List aB) (v : List aA), i + m = 20 → PD 0 s f p v → ExP (fun k => aJ.l10 k (i : Int) t0 s f p v) (QD 0 b 100000)
  | 0, i, s, f, p, v, hi, h => by
    refine bY (fun k => by rw [aJ.l10]) (dN (by omega) ?_)
    rw [hb0]
    exact aCK hb 40 0 s f p v _ (by omega) h h00 (by omega)
  | m + 1, i, s, f, p, v, hi, h => by
    refine bY (fun k => by rw [aJ.l10]) (aY (by omega) (fK (gU i (i : Int) (by omega) (by omega) (by omega)) ?_))
    have hds := oN (n := (i : Int)) (by omega) (by omega)
    have z1 : (⟨#[121]⟩ : ByteArray).size = 1 := rfl
    refine aY (by omega) (eC (iC h (ws3 (by decide) (by rw [ByteArray.size_append]; omega) (by decide)) (by simp)) (fun t ht => ?_))
    rw [dU (n := 100) (by omega) (by omega)]
    exact aEF hb t0 hb0 h00 h01 m (i + 1) _ _ _ _ (by omega) ht
theorem aCT {b : List Int} (hb : iD b) : ∀ (m i : Nat) (s : List ByteArray) (f : List aF) (p : List aB) (v : List aA) (q : Int), i + m = 40 → PD 0 s f p v → 0 ≤ q → q + 2 * m ≤ 100000 → ExP (fun k => aJ.l13 k (i : Int) b q s f p v) (QD 0 b 100000)
  | 0, i, s, f, p, v, q, hi, h, h0, hq => by
    refine bY (fun k => by rw [aJ.l13]) (dN (by omega) ?_)
    exact eE (jJ (by omega) h) (cP ⟨h, rfl, h0, by dsimp only; omega⟩)
  | m + 1, i, s, f, p, v, q, hi, h, h0, hq => by
    refine bY (fun k => by rw [aJ.l13]) (aY (by omega) (fK (gU i (i : Int) (by omega) (by omega) (by omega)) ?_))
    have hds := oN (n := (i : Int)) (by omega) (by omega)
    have z1 : (⟨#[121]⟩ : ByteArray).size = 1 := rfl
    refine aY (by omega) ?_
    obtain ⟨x, hx, e1⟩ := lJ hb q h0 (by omega) ([(⟨#[121, 48]⟩ : ByteArray), (⟨#[121, 49]⟩ : ByteArray), (⟨#[121, 50]⟩ : ByteArray), (⟨#[121, 51]⟩ : ByteArray)] : List ByteArray) (by decide) (by decide)
    refine eE e1 ?_
    dsimp only
    obtain ⟨y, hy, e2⟩ := lJ hb (q + 1) (by omega) (by omega) ([(⟨#[121, 48]⟩ : ByteArray), (⟨#[121, 49]⟩ : ByteArray), (⟨#[121, 50]⟩ : ByteArray), (⟨#[97]⟩ : ByteArray)] : List ByteArray) (by decide) (by decide)
    refine eE e2 ?_
    dsimp only
    refine eC (iC h (ws5 (by decide) (by rw [ByteArray.size_append]; omega) (kX hx (by decide)) (kX hy (by decide)) (by decide)) (by simp)) (fun t ht => ?_)
    rw [dU (n := 100) (by omega) (by omega)]
    exact aCT hb m (i + 1) _ _ _ _ _ (by omega) ht (by omega) (by omega)
theorem aDQ {b : List Int} (hb : iD b) (t0 : Int × List Int × Int) (hb0 : t0.2.1 = b) (h00 : 0 ≤ t0.2.2) (h01 : t0.2.2 ≤ 90000) : ∀ (m i : Nat) (s : List ByteArray) (f : List aF) (p : List aB) (v : List aA), i + m = 20 → PD 0 s f p v → ExP (fun k => aJ.l12 k (i : Int) t0 s f p v) (QD 0 b 100000)
  | 0, i, s, f, p, v, hi, h => by
    refine bY (fun k => by rw [aJ.l12]) (dN (by omega) ?_)
    rw [hb0]
    exact aCT hb 40 0 s f p v _ (by omega) h h00 (by omega)
  | m + 1, i, s, f, p, v, hi, h => by
    refine bY (fun k => by rw [aJ.l12]) (aY (by omega) (fK (gU i (i : Int) (by omega) (by omega) (by omega)) ?_))
    have hds := oN (n := (i : Int)) (by omega) (by omega)
    have z1 : (⟨#[121]⟩ : ByteArray).size = 1 := rfl
    refine aY (by omega) (eC (iC h (ws3 (by decide) (by rw [ByteArray.size_append]; omega) (by decide)) (by simp)) (fun t ht => ?_))
    rw [dU (n := 100) (by omega) (by omega)]
    exact aDQ hb t0 hb0 h00 h01 m (i + 1) _ _ _ _ (by omega) ht
theorem aGD {b : List Int} (hb : iD b) : ∀ (m : Nat) (s : List ByteArray) (f : List aF) (p : List aB) (v : List aA) (q : Int), m ≤ 13 → PD 0 s f p v → 0 ≤ q → q + 10 * m ≤ 80000 → ExP (fun k => aJ.l3 k (m : Int) b q s f p v) (QD 0 b 100000)
  | 0, s, f, p, v, q, hm, h, h0, hq => by
    refine bY (fun k => by rw [aJ.l3]) (dN (by omega) ?_)
    obtain ⟨w, _, e⟩ := gO hb q 24 h0 (by omega) (by omega)
    refine eE e (bX (fun _ => ?_) (fun _ => eE (jJ (by omega) h) (cP ⟨h, rfl, by dsimp only; omega, by dsimp only; omega⟩)))
    exact aGX hb (w, b, q + 1) rfl (by dsimp only; omega) (by dsimp only; omega) 20 0 s f p v (by omega) h
  | m + 1, s, f, p, v, q, hm, h, h0, hq => by
    have hlp := h.lp
    refine bY (fun k => by rw [aJ.l3]) (aY (by omega) (bX (fun hl => ?_) (fun _ => ?_)))
    · obtain ⟨w, ⟨w0, w1, _⟩, e⟩ := gO hb q 16 h0 (by omega) (by omega)
      have w1 := w1 (by omega)
      refine eE e ?_
      dsimp only
      refine fK (gU w.toNat w (by omega) (by omega) (by omega)) ?_
      have hds := oN (n := w) (by omega) (by omega)
      have z1 : (⟨#[120]⟩ : ByteArray).size = 1 := rfl
      refine aY (by omega) ?_
      obtain ⟨x, ⟨x0, x1, _⟩, e1⟩ := gO hb (q + 1) (p.length : Int) (by omega) (by omega) (by omega)
      have x1 := x1 (by omega)
      refine eE e1 (aY x0 (aY x1 ?_))
      dsimp only
      obtain ⟨y, ⟨y0, y1, _⟩, e2⟩ := gO hb (q + 1 + 1) (p.length : Int) (by omega) (by omega) (by omega)
      have y1 := y1 (by omega)
      refine eE e2 (aY y0 (aY y1 ?_))
      dsimp only
      obtain ⟨z, hz, e3⟩ := lJ hb (q + 1 + 1 + 1) (by omega) (by omega) ([(⟨#[101, 97, 115, 116]⟩ : ByteArray), (⟨#[119, 101, 115, 116]⟩ : ByteArray)] : List ByteArray) (by decide) (by decide)
      refine eE e3 ?_
      dsimp only
      refine eC (iC h (ws5 (by decide) (by rw [ByteArray.size_append]; omega) (pR h.p1 x x0 x1) (pR h.p1 y y0 y1) (kX hz (by decide))) (by simp)) (fun t ht => ?_)
      rw [show wrap64 (((m + 1 : Nat) : Int) - 1) = (m : Int) by unfold wrap64; omega]
      exact aGD hb m _ _ _ _ _ (by omega) ht (by omega) (by omega)
    · obtain ⟨w, _, e⟩ := gO hb q 24 h0 (by omega) (by omega)
      refine eE e (bX (fun _ => ?_) (fun _ => eE (jJ (by omega) h) (cP ⟨h, rfl, by dsimp only; omega, by dsimp only; omega⟩)))
      exact aGJ hb (w, b, q + 1) rfl (by dsimp only; omega) (by dsimp only; omega) 20 0 s f p v (by omega) h
theorem aGQ {b : List Int} (hb : iD b) (i : Nat) (hi : i < 9) (fl : Bool) (s0 : ByteArray) (hs0 : s0.size ≤ 1000) (s : List ByteArray) (f : List aF) (p : List aB) (v : List aA) (q : Int) (h : PD 0 s f p v) (h0 : 0 ≤ q) (hq : q ≤ 70000)
    (K : ∀ (s : List ByteArray) (f : List aF) (p : List aB) (v : List aA) (q' : Int), PD 0 s f p v → q ≤ q' → q' ≤ q + 1 → ExP (fun k => aJ.l2 k ((i + 1 : Nat) : Int) b q' s f p v) (QD 0 b 100000)) : ExP (fun k => aJ.j0 k (i : Int) fl (s0, b, q) s f p v) (QD 0 b 100000) := by
  have hz : ∀ w ∈ ([(⟨#[97]⟩ : ByteArray), (⟨#[98]⟩ : ByteArray), (⟨#[106, 49]⟩ : ByteArray), (⟨#[106, 50]⟩ : ByteArray), (⟨#[106, 51]⟩ : ByteArray), (⟨#[107, 45, 107]⟩ : ByteArray), (⟨#[118, 49]⟩ : ByteArray), (⟨#[118, 50]⟩ : ByteArray), (⟨#[122]⟩ : ByteArray)] : List ByteArray), w.size ≤ 1000 := fun w hw => kX hw (by decide)
  refine bY (fun k => by rw [aJ.j0]) (bX (fun _ => aY (by omega) (aY (by omega) ?_)) (fun _ => aY (by omega) (aY (by omega) ?_)))
  · rw [dU (n := 100) (by omega) (by omega)]
    exact eC (iC h (ws3 (by decide) (iM hz i) hs0) (by simp)) (fun t ht => K _ _ _ _ _ ht (by dsimp only; omega) (by dsimp only; omega))
  · rw [dU (n := 100) (by omega) (by omega)]
    obtain ⟨w, ⟨w0, w1, _⟩, e⟩ := gO hb q 60 h0 (by omega) (by omega)
    have w1 := w1 (by omega)
    refine eE e ?_
    dsimp only
    rw [show wrap64 (1 + w) = 1 + w from w64 (by omega) (by omega)]
    refine fK (gU (1 + w).toNat (1 + w) (by omega) (by omega) (by omega)) ?_
    have hds := oN (n := 1 + w) (by omega) (by omega)
    exact eC (iC h (ws4 (by decide) (iM hz i) (by omega) hs0) (by simp)) (fun t ht => K _ _ _ _ _ ht (by omega) (by omega))
theorem aEK {b : List Int} (hb : iD b) : ∀ (m i : Nat) (s : List ByteArray) (f : List aF) (p : List aB) (v : List aA) (q : Int), i + m = 9 → PD 0 s f p v → 0 ≤ q → q + 5 * m ≤ 60000 → ExP (fun k => aJ.l2 k (i : Int) b q s f p v) (QD 0 b 100000)
  | 0, i, s, f, p, v, q, hi, h, h0, hq => by
    refine bY (fun k => by rw [aJ.l2]) (dN (by omega) ?_)
    obtain ⟨w, ⟨w0, w1, _⟩, e⟩ := gO hb q 13 h0 (by omega) (by omega)
    have w1 := w1 (by omega)
    obtain ⟨n, rfl⟩ : ∃ n : Nat, w = (n : Int) := ⟨w.toNat, by omega⟩
    refine eE e ?_
    exact aGD hb n s f p v (q + 1) (by omega) h (by omega) (by omega)
  | m + 1, i, s, f, p, v, q, hi, h, h0, hq => by
    refine bY (fun k => by rw [aJ.l2]) (aY (by omega) ?_)
    obtain ⟨w, _, e⟩ := gO hb q 6 h0 (by omega) (by omega)
    refine eE e ?_
    dsimp only
    rw [dU (n := 100) (by omega) (by omega)]
    refine bX (fun _ => aEK hb m (i + 1) _ _ _ _ _ (by omega) h (by omega) (by omega)) (fun _ => ?_)
    obtain ⟨z, hz, e3⟩ := lJ hb (q + 1) (by omega) (by omega) ([(⟨#[101, 97, 115, 116]⟩ : ByteArray), (⟨#[119, 101, 115, 116]⟩ : ByteArray)] : List ByteArray) (by decide) (by decide)
    refine eE e3 ?_
    have K : ∀ (s : List ByteArray) (f : List aF) (p : List aB) (v : List aA) (q' : Int), PD 0 s f p v → q + 1 + 1 ≤ q' → q' ≤ q + 1 + 1 + 1 → ExP (fun k => aJ.l2 k ((i + 1 : Nat) : Int) b q' s f p v) (QD 0 b 100000) := fun s f p v q' h h1 h2 => aEK hb m (i + 1) s f p v q' (by omega) h (by omega) (by omega)
    have hzs := kX hz (by decide)
    exact bX (fun _ => aGQ hb i (by omega) _ z hzs s f p v _ h (by omega) (by omega) K) (fun _ => aGQ hb i (by omega) _ z hzs s f p v _ h (by omega) (by omega) K)
theorem aGW {b : List Int} (hb : iD b) : ∀ (m : Nat) (s : List ByteArray) (f : List aF) (p : List aB) (v : List aA) (q : Int), m ≤ 13 → PD 0 s f p v → 0 ≤ q → q + 10 * m ≤ 80000 → ExP (fun k => aJ.l9 k (m : Int) b q s f p v) (QD 0 b 100000)
  | 0, s, f, p, v, q, hm, h, h0, hq => by
    refine bY (fun k => by rw [aJ.l9]) (dN (by omega) ?_)
    obtain ⟨w, _, e⟩ := gO hb q 24 h0 (by omega) (by omega)
    refine eE e (bX (fun _ => ?_) (fun _ => eE (jJ (by omega) h) (cP ⟨h, rfl, by dsimp only; omega, by dsimp only; omega⟩)))
    exact aDQ hb (w, b, q + 1) rfl (by dsimp only; omega) (by dsimp only; omega) 20 0 s f p v (by omega) h
  | m + 1, s, f, p, v, q, hm, h, h0, hq => by
    have hlp := h.lp
    refine bY (fun k => by rw [aJ.l9]) (aY (by omega) (bX (fun hl => ?_) (fun _ => ?_)))
    · obtain ⟨w, ⟨w0, w1, _⟩, e⟩ := gO hb q 16 h0 (by omega) (by omega)
      have w1 := w1 (by omega)
      refine eE e ?_
      dsimp only
      refine fK (gU w.toNat w (by omega) (by omega) (by omega)) ?_
      have hds := oN (n := w) (by omega) (by omega)
      have z1 : (⟨#[120]⟩ : ByteArray).size = 1 := rfl
      refine aY (by omega) ?_
      obtain ⟨x, ⟨x0, x1, _⟩, e1⟩ := gO hb (q + 1) (p.length : Int) (by omega) (by omega) (by omega)
      have x1 := x1 (by omega)
      refine eE e1 (aY x0 (aY x1 ?_))
      dsimp only
      obtain ⟨y, ⟨y0, y1, _⟩, e2⟩ := gO hb (q + 1 + 1) (p.length : Int) (by omega) (by omega) (by omega)
      have y1 := y1 (by omega)
      refine eE e2 (aY y0 (aY y1 ?_))
      dsimp only
      obtain ⟨z, hz, e3⟩ := lJ hb (q + 1 + 1 + 1) (by omega) (by omega) ([(⟨#[101, 97, 115, 116]⟩ : ByteArray), (⟨#[119, 101, 115, 116]⟩ : ByteArray)] : List ByteArray) (by decide) (by decide)
      refine eE e3 ?_
      dsimp only
      refine eC (iC h (ws5 (by decide) (by rw [ByteArray.size_append]; omega) (pR h.p1 x x0 x1) (pR h.p1 y y0 y1) (kX hz (by decide))) (by simp)) (fun t ht => ?_)
      rw [show wrap64 (((m + 1 : Nat) : Int) - 1) = (m : Int) by unfold wrap64; omega]
      exact aGW hb m _ _ _ _ _ (by omega) ht (by omega) (by omega)
    · obtain ⟨w, _, e⟩ := gO hb q 24 h0 (by omega) (by omega)
      refine eE e (bX (fun _ => ?_) (fun _ => eE (jJ (by omega) h) (cP ⟨h, rfl, by dsimp only; omega, by dsimp only; omega⟩)))
      exact aEF hb (w, b, q + 1) rfl (by dsimp only; omega) (by dsimp only; omega) 20 0 s f p v (by omega) h
theorem aGT {b : List Int} (hb : iD b) (i : Nat) (hi : i < 9) (fl : Bool) (s0 : ByteArray) (hs0 : s0.size ≤ 1000) (s : List ByteArray) (f : List aF) (p : List aB) (v : List aA) (q : Int) (h : PD 0 s f p v) (h0 : 0 ≤ q) (hq : q ≤ 70000)
    (K : ∀ (s : List ByteArray) (f : List aF) (p : List aB) (v : List aA) (q' : Int), PD 0 s f p v → q ≤ q' → q' ≤ q + 1 → ExP (fun k => aJ.l8 k ((i + 1 : Nat) : Int) b q' s f p v) (QD 0 b 100000)) : ExP (fun k => aJ.j1 k (i : Int) fl (s0, b, q) s f p v) (QD 0 b 100000) := by
  have hz : ∀ w ∈ ([(⟨#[97]⟩ : ByteArray), (⟨#[98]⟩ : ByteArray), (⟨#[106, 49]⟩ : ByteArray), (⟨#[106, 50]⟩ : ByteArray), (⟨#[106, 51]⟩ : ByteArray), (⟨#[107, 45, 107]⟩ : ByteArray), (⟨#[118, 49]⟩ : ByteArray), (⟨#[118, 50]⟩ : ByteArray), (⟨#[122]⟩ : ByteArray)] : List ByteArray), w.size ≤ 1000 := fun w hw => kX hw (by decide)
  refine bY (fun k => by rw [aJ.j1]) (bX (fun _ => aY (by omega) (aY (by omega) ?_)) (fun _ => aY (by omega) (aY (by omega) ?_)))
  · rw [dU (n := 100) (by omega) (by omega)]
    exact eC (iC h (ws3 (by decide) (iM hz i) hs0) (by simp)) (fun t ht => K _ _ _ _ _ ht (by dsimp only; omega) (by dsimp only; omega))
  · rw [dU (n := 100) (by omega) (by omega)]
    obtain ⟨w, ⟨w0, w1, _⟩, e⟩ := gO hb q 60 h0 (by omega) (by omega)
    have w1 := w1 (by omega)
    refine eE e ?_
    dsimp only
    rw [show wrap64 (1 + w) = 1 + w from w64 (by omega) (by omega)]
    refine fK (gU (1 + w).toNat (1 + w) (by omega) (by omega) (by omega)) ?_
    have hds := oN (n := 1 + w) (by omega) (by omega)
    exact eC (iC h (ws4 (by decide) (iM hz i) (by omega) hs0) (by simp)) (fun t ht => K _ _ _ _ _ ht (by omega) (by omega))
theorem aCY {b : List Int} (hb : iD b) : ∀ (m i : Nat) (s : List ByteArray) (f : List aF) (p : List aB) (v : List aA) (q : Int), i + m = 9 → PD 0 s f p v → 0 ≤ q → q + 5 * m ≤ 60000 → ExP (fun k => aJ.l8 k (i : Int) b q s f p v) (QD 0 b 100000)
  | 0, i, s, f, p, v, q, hi, h, h0, hq => by
    refine bY (fun k => by rw [aJ.l8]) (dN (by omega) ?_)
    obtain ⟨w, ⟨w0, w1, _⟩, e⟩ := gO hb q 13 h0 (by omega) (by omega)
    have w1 := w1 (by omega)
    obtain ⟨n, rfl⟩ : ∃ n : Nat, w = (n : Int) := ⟨w.toNat, by omega⟩
    refine eE e ?_
    exact aGW hb n s f p v (q + 1) (by omega) h (by omega) (by omega)
  | m + 1, i, s, f, p, v, q, hi, h, h0, hq => by
    refine bY (fun k => by rw [aJ.l8]) (aY (by omega) ?_)
    obtain ⟨w, _, e⟩ := gO hb q 6 h0 (by omega) (by omega)
    refine eE e ?_
    dsimp only
    rw [dU (n := 100) (by omega) (by omega)]
    refine bX (fun _ => aCY hb m (i + 1) _ _ _ _ _ (by omega) h (by omega) (by omega)) (fun _ => ?_)
    obtain ⟨z, hz, e3⟩ := lJ hb (q + 1) (by omega) (by omega) ([(⟨#[101, 97, 115, 116]⟩ : ByteArray), (⟨#[119, 101, 115, 116]⟩ : ByteArray)] : List ByteArray) (by decide) (by decide)
    refine eE e3 ?_
    have K : ∀ (s : List ByteArray) (f : List aF) (p : List aB) (v : List aA) (q' : Int), PD 0 s f p v → q + 1 + 1 ≤ q' → q' ≤ q + 1 + 1 + 1 → ExP (fun k => aJ.l8 k ((i + 1 : Nat) : Int) b q' s f p v) (QD 0 b 100000) := fun s f p v q' h h1 h2 => aCY hb m (i + 1) s f p v q' (by omega) h (by omega) (by omega)
    have hzs := kX hz (by decide)
    exact bX (fun _ => aGT hb i (by omega) _ z hzs s f p v _ h (by omega) (by omega) K) (fun _ => aGT hb i (by omega) _ z hzs s f p v _ h (by omega) (by omega) K)
theorem aGF {b : List Int} (hb : iD b) : ∀ (m : Nat) (s : List ByteArray) (f : List aF) (p : List aB) (v : List aA) (q : Int), m ≤ 4 → PD 0 s f p v → 0 ≤ q → q + 5 * m ≤ 50000 → ExP (fun k => aJ.l1 k (m : Int) b q s f p v) (QD 0 b 100000)
  | 0, s, f, p, v, q, hm, h, h0, hq => by
    have K := aCY hb 9 0 s f p v q (by omega) h h0 (by omega)
    refine bY (fun k => by rw [aJ.l1]) (dN (by omega) ?_)
    exact K
  | m + 1, s, f, p, v, q, hm, h, h0, hq => by
    have hls := h.ls
    have K := aEK hb 9 0 s f p v q (by omega) h h0 (by omega)
    refine bY (fun k => by rw [aJ.l1]) (aY (by omega) (bX (fun hl => ?_) (fun _ => ?_)))
    rotate_left
    · exact K
    obtain ⟨x, hx, e1⟩ := lJ hb q h0 (by omega) s (by omega) (by omega)
    refine eE e1 ?_
    dsimp only
    obtain ⟨y, hy, e2⟩ := lJ hb (q + 1) (by omega) (by omega) s (by omega) (by omega)
    refine eE e2 ?_
    dsimp only
    refine eC (iC h (ws3 (by decide) (h.s1 x hx) (h.s1 y hy)) (by simp)) (fun t ht => ?_)
    rw [show wrap64 (((m + 1 : Nat) : Int) - 1) = (m : Int) by unfold wrap64; omega]
    exact aGF hb m _ _ _ _ _ (by omega) ht (by omega) (by omega)
theorem aDI {b : List Int} (hb : iD b) (X : List ByteArray) (hX : X.length = 4) (hXs : ∀ w ∈ X, w.size ≤ 1000) : ∀ (m i : Nat) (s : List ByteArray) (q : Int), i + m = 4 → s.length ≤ i → (∀ x ∈ s, x.size ≤ 1000) → 0 ≤ q → q + 2 * m ≤ 40000 → ExP (fun k => aJ.l0 k X (i : Int) b q s [] [] []) (QD 0 b 100000)
  | 0, i, s, q, hi, hs, hs1, h0, hq => by
    refine bY (fun k => by rw [aJ.l0]) (dN (by omega) ?_)
    obtain ⟨w, ⟨w0, w1, _⟩, e⟩ := gO hb q 4 h0 (by omega) (by omega)
    have w1 := w1 (by omega)
    obtain ⟨n, rfl⟩ : ∃ n : Nat, w = (n : Int) := ⟨w.toNat, by omega⟩
    refine eE e ?_
    exact aGF hb n s [] [] [] (q + 1) (by omega) ⟨by omega, by simp, by simp, by simp, hs1, fun x hx => (by cases hx), fun x hx => (by cases hx), fun x hx => (by cases hx)⟩ (by omega) (by omega)
  | m + 1, i, s, q, hi, hs, hs1, h0, hq => by
    refine bY (fun k => by rw [aJ.l0]) (aY (by omega) ?_)
    obtain ⟨w, _, e⟩ := gO hb q 5 h0 (by omega) (by omega)
    refine eE e ?_
    dsimp only
    rw [dU (n := 100) (by omega) (by omega)]
    refine bX (fun _ => aY (by omega) (aY (by omega) ?_)) (fun _ => aDI hb X hX hXs m (i + 1) s _ (by omega) (by omega) hs1 (by omega) (by omega))
    refine aDI hb X hX hXs m (i + 1) _ _ (by omega) (by simp; omega) (fun x hx => ?_) (by omega) (by omega)
    rcases List.mem_append.1 hx with hx | hx
    · exact hs1 x hx
    · rw [List.mem_singleton] at hx; subst hx; exact iM hXs i
theorem aBV {b : List Int} (hb : iD b) : ExP (fun k => aJ.f k b 0) (QD 0 b 100000) := by
  unfold aJ.f
  exact aDI hb _ rfl (fun w hw => kX hw (by decide)) 4 0 [] 0 (by omega) (by simp) (fun x hx => (by cases hx)) (by omega) (by omega)
/-! ### plants, spoilt -/
theorem fO {β : Type} {b : List Int} (hb : iD b) {q n : Int} (h0 : 0 ≤ q) (hq : q ≤ 1000000) (hn : n ≤ 1000000) {f : Nat → Int × List Int × Int → Option β} {Q : β → Prop} (k : ∀ v, 0 ≤ v → (1 ≤ n → v < n) → ExP (fun m => f m (v, b, q + 1)) Q) : ExP (fun m => (aN.f b q n).bind (f m)) Q := by
  obtain ⟨v, ⟨v0, v1, _⟩, e⟩ := gO hb q n h0 (by omega) (by omega)
  exact eE e (k v v0 v1)
theorem jO {β : Type} {b : List Int} (hb : iD b) {q : Int} {l : List ByteArray} (h0 : 0 ≤ q) (hq : q ≤ 1000000) (h1 : 1 ≤ l.length) (h2 : l.length ≤ 1000) (hz : ∀ w ∈ l, w.size ≤ 1000) {f : Nat → ByteArray × List Int × Int → Option β} {Q : β → Prop} (k : ∀ s, s.size ≤ 1000 → ExP (fun m => f m (s, b, q + 1)) Q) : ExP (fun m => (bF.f b q l).bind (f m)) Q := by
  obtain ⟨s, hs, e⟩ := lJ hb q h0 (by omega) l h1 (by omega)
  exact eE e (k s (hz s hs))
theorem pH {α : Type} {P : α → Prop} {l : List α} {x : α} (n : Nat) (h : ∀ y ∈ l, P y) (hx : P x) : ∀ y ∈ l.set n x, P y := fun y hy => by
  rcases List.mem_or_eq_of_mem_set hy with hy | hy
  · exact h y hy
  · subst hy; exact hx
theorem lL {α : Type} {P : α → Prop} {l : List α} {x : α} (h : ∀ y ∈ l, P y) (hx : P x) : ∀ y ∈ l ++ [x], P y := fun y hy => by
  rcases List.mem_append.1 hy with hy | hy
  · exact h y hy
  · rw [List.mem_singleton] at hy; subst hy; exact hx
theorem PD.up {m n : Nat} {s : List ByteArray} {f : List aF} {p : List aB} {v : List aA} (h : PD m s f p v) (hmn : m ≤ n) : PD n s f p v := by
  obtain ⟨ls, lf, lp, lv, s1, f1, p1, v1⟩ := h
  exact ⟨by omega, by omega, by omega, by omega, s1, f1, p1, v1⟩
theorem rY {p : List aB} (h : ∀ x ∈ p, x.f0.size ≤ 1000 ∧ x.f2.size ≤ 1000) (a : Int) (h0 : 0 ≤ a) (h1 : a < p.length) : (aO p a).f0.size ≤ 1000 ∧ (aO p a).f2.size ≤ 1000 := by
  obtain ⟨n, rfl⟩ : ∃ n : Nat, a = (n : Int) := ⟨a.toNat, by omega⟩
  rw [rdP]
  exact h _ (iO dQ p n (by omega))
theorem aHZ {p : List aA} (h : ∀ x ∈ p, x.f0.size ≤ 1000 ∧ x.f1.size ≤ 1000 ∧ x.f2.size ≤ 1000 ∧ x.f3.size ≤ 1000) (a : Int) (h0 : 0 ≤ a) (h1 : a < p.length) : (aH p a).f0.size ≤ 1000 ∧ (aH p a).f1.size ≤ 1000 ∧ (aH p a).f2.size ≤ 1000 ∧ (aH p a).f3.size ≤ 1000 := by
  obtain ⟨n, rfl⟩ : ∃ n : Nat, a = (n : Int) := ⟨a.toNat, by omega⟩
  rw [rdV]
  exact h _ (iO cH p n (by omega))
theorem lZ {b : List Int} {s : List ByteArray} {f : List aF} {p : List aB} {v : List aA} {q : Int} (h : PD 1 s f p v) (h0 : 0 ≤ q) (hq : q ≤ 200000) : ExP (fun k => aT.j0 k b q s f p v) (QD 1 b 200000) :=
  bY (fun k => by rw [aT.j0]) (cP ⟨h, rfl, h0, hq⟩)
theorem aGS {b : List Int} (t : Int × List Int × Int) (hb0 : t.2.1 = b) (c0 : 0 ≤ t.1) (c1 : t.1 < 2) (h0 : 0 ≤ t.2.2) (hq : t.2.2 ≤ 200000) (f : List aF) (p : List aB) (v : List aA) : ∀ (m i : Nat) (s : List ByteArray), i + m ≤ 50 → 10 ≤ m + s.length → PD 1 s f p v → ExP (fun k => aT.l0 k (i : Int) t s f p v) (QD 1 b 200000)
  | 0, i, s, hi, hm, h => by have := h.ls; omega
  | m + 1, i, s, hi, hm, h => by
    have hls := h.ls
    refine bY (fun k => by rw [aT.l0]) ?_
    rw [show wrap64 (8 + t.1) = 8 + t.1 from w64 (by omega) (by omega), show wrap64 (10 + (i : Int)) = ((10 + i : Nat) : Int) by unfold wrap64; omega, dU (n := 100) (by omega) (by omega)]
    refine bX (fun c => ?_) (fun c => ?_)
    · refine fK (gU (10 + i) ((10 + i : Nat) : Int) (by omega) (by omega) (by omega)) ?_
      have hds := oN (n := ((10 + i : Nat) : Int)) (by omega) (by omega)
      have z1 : (⟨#[122]⟩ : ByteArray).size = 1 := rfl
      refine aY (by omega) (aY (by omega) ?_)
      obtain ⟨ls, lf, lp, lv, s1, f1, p1, v1⟩ := h
      exact aGS t hb0 c0 c1 h0 hq f p v m (i + 1) _ (by omega) (by rw [List.length_append, List.length_singleton]; omega) ⟨by rw [List.length_append, List.length_singleton]; omega, lf, lp, lv, lL s1 (by rw [ByteArray.size_append]; omega), f1, p1, v1⟩
    · rw [hb0]; exact lZ h h0 hq
theorem aGN {b : List Int} (t : Int × List Int × Int) (hb0 : t.2.1 = b) (c0 : 0 ≤ t.1) (c1 : t.1 < 2) (h0 : 0 ≤ t.2.2) (hq : t.2.2 ≤ 200000) (s : List ByteArray) (f : List aF) (v : List aA) : ∀ (m i : Nat) (p : List aB), i + m ≤ 50 → 16 ≤ m + p.length → PD 1 s f p v → ExP (fun k => aT.l1 k (i : Int) t s f p v) (QD 1 b 200000)
  | 0, i, p, hi, hm, h => by have := h.lp; omega
  | m + 1, i, p, hi, hm, h => by
    have hls := h.lp
    refine bY (fun k => by rw [aT.l1]) ?_
    rw [show wrap64 (14 + t.1) = 14 + t.1 from w64 (by omega) (by omega), show wrap64 (10 + (i : Int)) = ((10 + i : Nat) : Int) by unfold wrap64; omega, dU (n := 100) (by omega) (by omega)]
    refine bX (fun c => ?_) (fun c => ?_)
    · refine fK (gU (10 + i) ((10 + i : Nat) : Int) (by omega) (by omega) (by omega)) ?_
      have hds := oN (n := ((10 + i : Nat) : Int)) (by omega) (by omega)
      have z1 : (⟨#[122, 122]⟩ : ByteArray).size = 2 := rfl
      refine aY (by omega) (aY (by omega) ?_)
      obtain ⟨ls, lf, lp, lv, s1, f1, p1, v1⟩ := h
      exact aGN t hb0 c0 c1 h0 hq s f v m (i + 1) _ (by omega) (by rw [List.length_append, List.length_singleton]; omega) ⟨ls, lf, by rw [List.length_append, List.length_singleton]; omega, lv, s1, f1, lL p1 ⟨by show (_ ++ _ : ByteArray).size ≤ 1000; rw [ByteArray.size_append]; omega, by show 1 ≤ 1000; omega⟩, v1⟩
    · rw [hb0]; exact lZ h h0 hq
theorem aGR {b : List Int} (t : Int × List Int × Int) (hb0 : t.2.1 = b) (c0 : 0 ≤ t.1) (c1 : t.1 < 2) (h0 : 0 ≤ t.2.2) (hq : t.2.2 ≤ 200000) (s : List ByteArray) (f : List aF) (p : List aB) : ∀ (m i : Nat) (v : List aA), i + m ≤ 50 → 20 ≤ m + v.length → PD 1 s f p v → ExP (fun k => aT.l2 k (i : Int) t s f p v) (QD 1 b 200000)
  | 0, i, v, hi, hm, h => by have := h.lv; omega
  | m + 1, i, v, hi, hm, h => by
    have hls := h.lv
    refine bY (fun k => by rw [aT.l2]) ?_
    rw [show wrap64 (18 + t.1) = 18 + t.1 from w64 (by omega) (by omega), show wrap64 (10 + (i : Int)) = ((10 + i : Nat) : Int) by unfold wrap64; omega, dU (n := 100) (by omega) (by omega)]
    refine bX (fun c => bX (fun d => ?_) (fun d => ?_)) (fun c => ?_)
    · refine fK (gU (10 + i) ((10 + i : Nat) : Int) (by omega) (by omega) (by omega)) ?_
      have hds := oN (n := ((10 + i : Nat) : Int)) (by omega) (by omega)
      have z1 : (⟨#[122, 122]⟩ : ByteArray).size = 2 := rfl
      refine aY (by omega) (aY (by omega) (aY (by omega) (aY (by omega) ?_)))
      obtain ⟨ls, lf, lp, lv, s1, f1, p1, v1⟩ := h
      have a0 := (rY p1 0 (by omega) (by omega)).1
      have a1 := (rY p1 1 (by omega) (by omega)).1
      exact aGR t hb0 c0 c1 h0 hq s f p m (i + 1) _ (by omega) (by rw [List.length_append, List.length_singleton]; omega) ⟨ls, lf, lp, by rw [List.length_append, List.length_singleton]; omega, s1, f1, p1, lL v1 ⟨by show (_ ++ _ : ByteArray).size ≤ 1000; rw [ByteArray.size_append]; omega, a0, a1, by show 1 ≤ 1000; omega⟩⟩
    · rw [hb0]; exact lZ h h0 hq
    · rw [hb0]; exact lZ h h0 hq
theorem aGU {b : List Int} (hb : iD b) {s : List ByteArray} {f : List aF} {p : List aB} {v : List aA} (h : PD 1 s f p v) (c : Int) (q : Int) (h0 : 0 ≤ q) (hq : q ≤ 150000) (fl : Bool) : ExP (fun k => aT.j1 k fl (s, f, p, v) (c, b, q)) (QD 1 b 200000) := by
  obtain ⟨ls, lf, lp, lv, s1, f1, p1, v1⟩ := h
  have h : PD 1 s f p v := ⟨ls, lf, lp, lv, s1, f1, p1, v1⟩
  refine bY (fun k => by rw [aT.j1]) (bX (fun _ => bX (fun hl => ?_) (fun _ => ?_)) (fun _ => ?_))
  · refine fO hb h0 (by omega) (by dsimp only; omega) (fun a a0 a1 => ?_)
    have a1 := a1 (by dsimp only at hl ⊢; omega)
    dsimp only at a1 hl ⊢
    have hx := aHZ v1 a a0 a1
    have fin : ∀ (x : aA) (q' : Int), (x.f0.size ≤ 1000 ∧ x.f1.size ≤ 1000 ∧ x.f2.size ≤ 1000 ∧ x.f3.size ≤ 1000) → 0 ≤ q' → q' ≤ 200000 → ExP (fun k => aT.j0 k b q' s f p (v.set a.toNat x)) (QD 1 b 200000) := fun x q' g g0 g1 => lZ ⟨ls, lf, lp, by rw [List.length_set]; omega, s1, f1, p1, pH _ v1 g⟩ g0 g1
    refine fO hb (by omega) (by omega) (by omega) (fun d d0 d1 => ?_)
    dsimp only
    refine bX (fun _ => ?_) (fun _ => bX (fun _ => ?_) (fun _ => bX (fun _ => ?_) (fun _ => ?_)))
    · refine jO hb (by omega) (by omega) (by decide) (by decide) (fun w hw => kX hw (by decide)) (fun w hw => aY a0 (aY a1 (fin _ _ ⟨hw, hx.2⟩ (by dsimp only; omega) (by dsimp only; omega))))
    · refine aY a0 (aY a1 (jO hb (by omega) (by omega) (by simp) (by simp) (ws4 (by decide) (by decide) hx.2.2.1 (by decide)) (fun w hw => fin _ _ ⟨hx.1, hw, hx.2.2⟩ (by dsimp only; omega) (by dsimp only; omega))))
    · refine jO hb (by omega) (by omega) (by decide) (by decide) (fun w hw => kX hw (by decide)) (fun w hw => aY a0 (aY a1 (fin _ _ ⟨hx.1, hx.2.1, hw, hx.2.2.2⟩ (by dsimp only; omega) (by dsimp only; omega))))
    · exact aY a0 (aY a1 (fin _ _ ⟨hx.1, hx.2.1, hx.2.2.1, by show 0 ≤ 1000; omega⟩ (by omega) (by omega)))
  · exact lZ h h0 (by dsimp only; omega)
  · dsimp only
    refine bX (fun _ => ?_) (fun _ => bX (fun _ => ?_) (fun _ => ?_))
    · exact fO hb h0 (by omega) (by omega) (fun a a0 a1 => aGS (a, b, q + 1) rfl a0 (a1 (by omega)) (by dsimp only; omega) (by dsimp only; omega) f p v 20 0 s (by omega) (by omega) h)
    · exact fO hb h0 (by omega) (by omega) (fun a a0 a1 => aGN (a, b, q + 1) rfl a0 (a1 (by omega)) (by dsimp only; omega) (by dsimp only; omega) s f v 20 0 p (by omega) (by omega) h)
    · exact fO hb h0 (by omega) (by omega) (fun a a0 a1 => aGR (a, b, q + 1) rfl a0 (a1 (by omega)) (by dsimp only; omega) (by dsimp only; omega) s f p 20 0 v (by omega) (by omega) h)
theorem xX {b : List Int} (hb : iD b) {s : List ByteArray} {f : List aF} {p : List aB} {v : List aA} (hh : PD 0 s f p v) (q : Int) (h0 : 0 ≤ q) (hq : q ≤ 120000) : ExP (fun k => aT.f k b q s f p v) (QD 1 b 200000) := by
  unfold aT.f
  have h := hh.up (n := 1) (by omega)
  obtain ⟨ls, lf, lp, lv, s1, f1, p1, v1⟩ := hh
  refine eE (jJ (m := 1) (by omega) h) (fO hb h0 (by omega) (by omega) (fun c _ _ => ?_))
  dsimp only
  refine bX (fun _ => ?_) (fun _ => bX (fun _ => ?_) (fun _ => bX (fun _ => ?_) (fun _ => bX (fun _ => ?_) (fun _ => bX (fun _ => ?_) (fun _ => ?_)))))
  · refine jO hb (by omega) (by omega) (by decide) (by decide) (fun w hw => kX hw (by decide)) (fun w hw => aY (by omega) (lZ ⟨by rw [List.length_append, List.length_singleton]; omega, by omega, by omega, by omega, lL s1 hw, f1, p1, v1⟩ (by dsimp only; omega) (by dsimp only; omega)))
  · refine jO hb (by omega) (by omega) (by decide) (by decide) (fun w hw => kX hw (by decide)) (fun w hw => jO hb (by dsimp only; omega) (by dsimp only; omega) (by decide) (by decide) (fun w hw => kX hw (by decide)) (fun z hz => aY (by omega) (lZ ⟨by omega, by rw [List.length_append, List.length_singleton]; omega, by omega, by omega, s1, lL f1 ⟨hw, hz⟩, p1, v1⟩ (by dsimp only; omega) (by dsimp only; omega))))
  · refine bX (fun hl => fO hb (by omega) (by omega) (by omega) (fun a a0 a1 => ?_)) (fun _ => lZ h (by omega) (by omega))
    have a1 := a1 (by omega)
    have hx := rY p1 a a0 a1
    refine jO hb (by dsimp only; omega) (by dsimp only; omega) (by decide) (by decide) (fun w hw => kX hw (by decide)) (fun w hw => aY a0 (aY a1 (lZ ⟨by omega, by omega, by rw [List.length_set]; omega, by omega, s1, f1, pH _ p1 ⟨hw, hx.2⟩, v1⟩ (by dsimp only; omega) (by dsimp only; omega))))
  · refine bX (fun hl => fO hb (by omega) (by omega) (by omega) (fun a a0 a1 => ?_)) (fun _ => lZ h (by omega) (by omega))
    have a1 := a1 (by omega)
    have hx := rY p1 a a0 a1
    refine fO hb (by dsimp only; omega) (by dsimp only; omega) (by omega) (fun d d0 d1 => ?_)
    have d1 := d1 (by omega)
    exact aY d0 (aY d1 (aY a0 (aY a1 (lZ ⟨by omega, by omega, by rw [List.length_set]; omega, by omega, s1, f1, pH _ p1 ⟨hx.1, hx.2⟩, v1⟩ (by dsimp only; omega) (by dsimp only; omega)))))
  · refine bX (fun hl => fO hb (by omega) (by omega) (by omega) (fun a a0 a1 => ?_)) (fun _ => lZ h (by omega) (by omega))
    have a1 := a1 (by omega)
    have hx := rY p1 a a0 a1
    refine jO hb (by dsimp only; omega) (by dsimp only; omega) (by decide) (by decide) (fun w hw => kX hw (by decide)) (fun w hw => aY a0 (aY a1 (lZ ⟨by omega, by omega, by rw [List.length_set]; omega, by omega, s1, f1, pH _ p1 ⟨hx.1, hw⟩, v1⟩ (by dsimp only; omega) (by dsimp only; omega))))
  · exact bX (fun _ => aGU hb h c (q + 1) (by omega) (by omega) _) (fun _ => aGU hb h c (q + 1) (by omega) (by omega) _)
theorem aDW {b : List Int} (hb : iD b) : ExP (fun k => jX.f k b 0) (QD 1 b 300000) := by
  unfold jX.f
  refine eC (aBV hb) (fun t ht => ?_)
  obtain ⟨h, hbb, h0, h1⟩ := ht
  rw [hbb]
  refine fO hb h0 (by omega) (by omega) (fun c _ _ => bX (fun _ => ?_) (fun _ => cP ⟨h.up (by omega), rfl, by dsimp only; omega, by dsimp only; omega⟩))
  refine eC (xX hb h _ (by dsimp only; omega) (by dsimp only; omega)) (fun z hz => ?_)
  obtain ⟨g, gb, g0, g1⟩ := hz
  exact cP ⟨g, gb, g0, by dsimp only; omega⟩
/-! ### lengths of a valid plant -/
theorem pN {s : List ByteArray} {f : List aF} {p : List aB} {v : List aA} (h : fT s f p v = true) : v.length ≤ 18 := by
  simp only [fT, Bool.and_eq_true, decide_eq_true_eq] at h; exact h.2.2.2.1
theorem pJ {s : List ByteArray} {f : List aF} {p : List aB} {v : List aA} (h : fT s f p v = true) : p.length ≤ 14 := by
  simp only [fT, Bool.and_eq_true, decide_eq_true_eq] at h; exact h.2.2.1.1
/-! ### places that are rU -/
def gR (o : List ByteArray) (a : List ByteArray × Bool) (y : aA) : List ByteArray × Bool :=
  if (dZ o y.f0 && (dZ a.1 y.f1 != dZ a.1 y.f2)) = true then (dJ y.f2 (dJ y.f1 a.1), true) else a
def gD (o : List ByteArray) (v : List aA) (a : List ByteArray × Bool) : List ByteArray × Bool := v.foldl (gR o) a
theorem jS (o : List ByteArray) (y : aA) (v : List aA) (a : List ByteArray × Bool) : gD o (y :: v) a = gD o v (gR o a y) := rfl
theorem lU {x : ByteArray} : ∀ l : List ByteArray, l.length ≤ (dJ x l).length
  | [] => by simp [dJ]
  | y :: r => by
    have := lU (x := x) r
    unfold dJ
    split
    · simp; omega
    · split <;> simp
theorem nB {x : ByteArray} : ∀ l : List ByteArray, x ∉ l → (dJ x l).length = l.length + 1
  | [], _ => by simp [dJ]
  | y :: r, h => by
    have ih := nB r (fun q => h (List.mem_cons_of_mem _ q))
    have hne : ¬ y = x := fun e => h (e ▸ List.mem_cons_self ..)
    unfold dJ
    split
    · simp [ih]
    · first | (rw [if_neg hne]; simp) | simp
theorem oY (o : List ByteArray) (a : List ByteArray × Bool) (y : aA) : gR o a y = a ∨ ((gR o a y).2 = true ∧ a.1.length < (gR o a y).1.length) := by
  unfold gR
  split
  · rename_i h
    refine .inr ⟨rfl, ?_⟩
    show a.1.length < (dJ y.f2 (dJ y.f1 a.1)).length
    rw [Bool.and_eq_true] at h
    have h2 := h.2
    by_cases c : y.f1 ∈ a.1
    · have c2 : y.f2 ∉ a.1 := fun q => by rw [eK.2 c, eK.2 q] at h2; cases h2
      by_cases e : y.f2 = y.f1
      · exact absurd (e ▸ c) c2
      · have : y.f2 ∉ dJ y.f1 a.1 := fun q => by rcases (gL y.f1 y.f2 a.1).1 q with q | q; exact e q; exact c2 q
        rw [nB _ this]
        have := lU (x := y.f1) a.1
        omega
    · have h3 := nB a.1 c
      have := lU (x := y.f2) (dJ y.f1 a.1)
      omega
  · exact .inl rfl
theorem nC (o : List ByteArray) : ∀ (v : List aA) (a : List ByteArray × Bool), gD o v a = a ∨ ((gD o v a).2 = true ∧ a.1.length < (gD o v a).1.length)
  | [], a => .inl rfl
  | y :: v, a => by
    rw [jS]
    rcases nC o v (gR o a y) with h | ⟨h1, h2⟩
    · rw [h]; exact oY o a y
    · rcases oY o a y with k | ⟨_, k2⟩
      · rw [k] at h1 h2 ⊢; exact .inr ⟨h1, h2⟩
      · exact .inr ⟨h1, by omega⟩
theorem qC (o N : List ByteArray) (a : List ByteArray × Bool) (y : aA) (h1 : fF a.1) (h2 : ∀ x ∈ a.1, x ∈ N) (hy : y.f1 ∈ N ∧ y.f2 ∈ N) : fF (gR o a y).1 ∧ ∀ x ∈ (gR o a y).1, x ∈ N := by
  unfold gR
  split
  · refine ⟨jG _ _ (jG _ _ h1), fun x hx => ?_⟩
    rcases (gL _ _ _).1 hx with rfl | hx
    · exact hy.2
    · rcases (gL _ _ _).1 hx with rfl | hx
      · exact hy.1
      · exact h2 x hx
  · exact ⟨h1, h2⟩
theorem nA (o N : List ByteArray) : ∀ (v : List aA) (a : List ByteArray × Bool), fF a.1 → (∀ x ∈ a.1, x ∈ N) → (∀ y ∈ v, y.f1 ∈ N ∧ y.f2 ∈ N) → fF (gD o v a).1 ∧ ∀ x ∈ (gD o v a).1, x ∈ N
  | [], a, h1, h2, _ => ⟨h1, h2⟩
  | y :: v, a, h1, h2, hv => by
    obtain ⟨k1, k2⟩ := qC o N a y h1 h2 (hv y (List.mem_cons_self ..))
    exact nA o N v _ k1 k2 (fun z hz => hv z (List.mem_cons_of_mem _ hz))
theorem mS (o : List ByteArray) : ∀ (v : List aA) (l : List ByteArray) (c : Bool), (gD o v (l, c)).1 = (gD o v (l, false)).1 ∧ (gD o v (l, c)).2 = (c || (gD o v (l, false)).2)
  | [], l, c => by cases c <;> simp [gD]
  | y :: v, l, c => by
    rw [jS, jS]
    by_cases h : (dZ o y.f0 && (dZ l y.f1 != dZ l y.f2)) = true
    · rw [show gR o (l, c) y = (dJ y.f2 (dJ y.f1 l), true) from if_pos h, show gR o (l, false) y = (dJ y.f2 (dJ y.f1 l), true) from if_pos h]
      refine ⟨rfl, ?_⟩
      obtain ⟨_, q⟩ := mS o v (dJ y.f2 (dJ y.f1 l)) true
      rw [q]; simp
    · rw [show gR o (l, c) y = (l, c) from if_neg h, show gR o (l, false) y = (l, false) from if_neg h]
      exact mS o v l c
def mL (o : List ByteArray) (v : List aA) : Nat → List ByteArray → List ByteArray
  | 0, l => l
  | n + 1, l => mL o v n (gD o v (l, false)).1
theorem pU (o : List ByteArray) (v : List aA) (l : List ByteArray) (h : gD o v (l, false) = (l, false)) : ∀ n, mL o v n l = l
  | 0 => rfl
  | n + 1 => by rw [show mL o v (n + 1) l = mL o v n (gD o v (l, false)).1 from rfl, h]; exact pU o v l h n
theorem wP (o N : List ByteArray) (v : List aA) (hv : ∀ y ∈ v, y.f1 ∈ N ∧ y.f2 ∈ N) : ∀ (n : Nat) (l : List ByteArray), fF l → (∀ x ∈ l, x ∈ N) → fF (mL o v n l) ∧ ∀ x ∈ mL o v n l, x ∈ N
  | 0, l, h1, h2 => ⟨h1, h2⟩
  | n + 1, l, h1, h2 => by
    obtain ⟨k1, k2⟩ := nA o N v (l, false) h1 h2 hv
    exact wP o N v hv n _ k1 k2
/-- all that is rU with a place -/
def iB (o : List ByteArray) (p : List aB) (v : List aA) (x : ByteArray) : List ByteArray := mL o v p.length [x]
theorem mN (N : List ByteArray) {l : List ByteArray} (h1 : fF l) (h2 : ∀ x ∈ l, x ∈ N) : l.length ≤ N.length := lG l N (lC h1) h2
theorem vD (s : List ByteArray) (f : List aF) (p : List aB) (v : List aA) (o : List ByteArray) (x : ByteArray) (hp : p.length ≤ 1000) (hv : v.length ≤ 1000) (ho : o.length ≤ 140737488351232) (hx : x ∈ p.map (·.f0)) (hN : ∀ y ∈ v, y.f1 ∈ p.map (·.f0) ∧ y.f2 ∈ p.map (·.f0)) :
    Ev (fun k => cD.f k s f p v o x) (iB o p v x) := by
  unfold cD.f iB
  have inner : ∀ (i : Nat) (R : List ByteArray) (a : List ByteArray), fF a → (∀ x ∈ a, x ∈ p.map (·.f0)) → Ev (fun k => cD.l0 k p v o (gD o v (a, false)).1 (wrap64 ((i : Int) + 1))) R → Ev (fun k => cD.l1 k p v o a (i : Int) 0) R := fun i R a h1 h2 hk => by
    have key := fN cH v (P := fun j r => ∀ a : List ByteArray, fF a → (∀ x ∈ a, x ∈ p.map (·.f0)) → Ev (fun k => cD.l0 k p v o (gD o r (a, false)).1 (wrap64 ((i : Int) + 1))) R → Ev (fun k => cD.l1 k p v o a (i : Int) (j : Int)) R)
      (fun a _ _ hk => by refine Ev.step (fun k => by rw [cD.l1]) ?_; exact cJ (by omega) hk) (fun j y r hj hy hm _ ih a h1 h2 hk => ?_)
    · exact key a h1 h2 hk
    have hal := mN _ h1 h2
    rw [List.length_map] at hal
    refine Ev.step (fun k => by rw [cD.l1]) (aU (by omega) (aU (by omega) ?_))
    rw [dU hj (by omega), rdV, hy]
    rw [jS] at hk
    obtain ⟨q1, q2⟩ := qC o (p.map (·.f0)) (a, false) y h1 h2 (hN y hm)
    refine Ev.bind (iN o y.f0 ho) (gH (fun c => ?_) (fun c => ?_))
    · refine Ev.bind (iN a y.f1 (by omega)) (Ev.bind (iN a y.f2 (by omega)) (gH (fun d => ?_) (fun d => ?_)))
      · have e : gR o (a, false) y = (dJ y.f2 (dJ y.f1 a), true) := if_pos (by show (dZ o y.f0 && (dZ a y.f1 != dZ a y.f2)) = true; rw [c, d]; rfl)
        rw [e] at hk q1 q2
        rw [(mS o r _ true).1] at hk
        have := mA y.f1 a
        exact Ev.bind (nG a y.f1 (by omega)) (Ev.bind (nG _ y.f2 (by omega)) (ih _ q1 q2 hk))
      · have e : gR o (a, false) y = (a, false) := if_neg (by show ¬ (dZ o y.f0 && (dZ a y.f1 != dZ a y.f2)) = true; rw [c, d]; simp)
        rw [e] at hk
        exact ih a h1 h2 hk
    · have e : gR o (a, false) y = (a, false) := if_neg (by show ¬ (dZ o y.f0 && (dZ a y.f1 != dZ a y.f2)) = true; rw [c]; simp)
      rw [e] at hk
      exact ih a h1 h2 hk
  have key : ∀ (n i : Nat), i + n = p.length → ∀ a : List ByteArray, fF a → (∀ x ∈ a, x ∈ p.map (·.f0)) → Ev (fun k => cD.l0 k p v o a (i : Int)) (mL o v n a) := fun n => by
    induction n with
    | zero =>
      intro i hi a _ _
      refine Ev.step (fun k => by rw [cD.l0]) ?_
      exact cJ (by omega) (bI rfl)
    | succ n ih =>
      intro i hi a h1 h2
      obtain ⟨q1, q2⟩ := nA o (p.map (·.f0)) v (a, false) h1 h2 hN
      refine Ev.step (fun k => by rw [cD.l0]) (aU (by omega) (inner i _ a h1 h2 ?_))
      rw [dU (show i < p.length by omega) (by omega)]
      exact ih (i + 1) (by omega) _ q1 q2
  exact key p.length 0 (by omega) [x] (List.pairwise_singleton _ _) (fun z hz => by rw [List.mem_singleton] at hz; subst hz; exact hx)
theorem vA (s : List ByteArray) (f : List aF) (p : List aB) (v : List aA) (o : List ByteArray) (x : ByteArray) (hp : p.length ≤ 1000) (hv : v.length ≤ 1000) (ho : o.length ≤ 140737488351232) (hN : ∀ y ∈ v, y.f1 ∈ p.map (·.f0) ∧ y.f2 ∈ p.map (·.f0)) :
    Ev (fun k => cT.f k s f p v o x) (if dP p x = true then iB o p v x else []) := by
  unfold cT.f iB
  refine Ev.bind (pB s f p v x (by omega)) ?_
  rw [kQ]
  refine gH (fun hx => ?_) (fun hx => bI (by rw [hx]; rfl))
  rw [if_pos hx]
  have hx : x ∈ p.map (·.f0) := by
    unfold dP at hx
    obtain ⟨y, hy, e⟩ := List.any_eq_true.1 hx
    exact List.mem_map.2 ⟨y, hy, of_decide_eq_true e⟩
  have inner : ∀ (R : List ByteArray) (a : List ByteArray), fF a → (∀ x ∈ a, x ∈ p.map (·.f0)) → Ev (fun k => cT.l0 k v o (gD o v (a, false)).1 (gD o v (a, false)).2) R → Ev (fun k => cT.l1 k v o a false 0) R := fun R a h1 h2 hk => by
    have key := fN cH v (P := fun j r => ∀ (a : List ByteArray) (c : Bool), fF a → (∀ x ∈ a, x ∈ p.map (·.f0)) → Ev (fun k => cT.l0 k v o (gD o r (a, c)).1 (gD o r (a, c)).2) R → Ev (fun k => cT.l1 k v o a c (j : Int)) R)
      (fun a c _ _ hk => by refine Ev.step (fun k => by rw [cT.l1]) ?_; exact cJ (by omega) hk) (fun j y r hj hy hm _ ih a c h1 h2 hk => ?_)
    · exact key a false h1 h2 hk
    have hal := mN _ h1 h2
    rw [List.length_map] at hal
    refine Ev.step (fun k => by rw [cT.l1]) (aU (by omega) (aU (by omega) ?_))
    rw [dU hj (by omega), rdV, hy]
    rw [jS] at hk
    obtain ⟨q1, q2⟩ := qC o (p.map (·.f0)) (a, c) y h1 h2 (hN y hm)
    refine Ev.bind (mF o y.f0 ho) (gH (fun d0 => ?_) (fun d0 => ?_))
    · refine Ev.bind (mF a y.f1 (by omega)) (Ev.bind (mF a y.f2 (by omega)) (gH (fun d => ?_) (fun d => ?_)))
      · have e : gR o (a, c) y = (dJ y.f2 (dJ y.f1 a), true) := if_pos (by show (dZ o y.f0 && (dZ a y.f1 != dZ a y.f2)) = true; rw [d0, d]; rfl)
        rw [e] at hk q1 q2
        exact Ev.bind (aAJ a [y.f1, y.f2] h1 (by simp; omega)) (ih _ true q1 q2 hk)
      · have e : gR o (a, c) y = (a, c) := if_neg (by show ¬ (dZ o y.f0 && (dZ a y.f1 != dZ a y.f2)) = true; rw [d0, d]; simp)
        rw [e] at hk
        exact ih a c h1 h2 hk
    · have e : gR o (a, c) y = (a, c) := if_neg (by show ¬ (dZ o y.f0 && (dZ a y.f1 != dZ a y.f2)) = true; rw [d0]; simp)
      rw [e] at hk
      exact ih a c h1 h2 hk
  have key : ∀ (n : Nat) (a : List ByteArray), p.length < n + a.length → fF a → (∀ x ∈ a, x ∈ p.map (·.f0)) → Ev (fun k => cT.l0 k v o a true) (mL o v n a) := fun n => by
    induction n with
    | zero =>
      intro a ha h1 h2
      have hal := mN _ h1 h2
      rw [List.length_map] at hal
      omega
    | succ n ih =>
      intro a ha h1 h2
      obtain ⟨q1, q2⟩ := nA o (p.map (·.f0)) v (a, false) h1 h2 hN
      refine Ev.step (fun k => by rw [cT.l0]) (aU rfl (inner _ a h1 h2 ?_))
      rcases nC o v (a, false) with e | ⟨e1, e2⟩
      · rw [e, pU o v a e]
        refine Ev.step (fun k => by rw [cT.l0]) ?_
        exact cJ (by simp) (bI rfl)
      · rw [e1]
        have e2 : a.length < (gD o v (a, false)).1.length := e2
        exact ih _ (by omega) q1 q2
  exact key p.length [x] (by simp) (List.pairwise_singleton _ _) (fun z hz => by rw [List.mem_singleton] at hz; subst hz; exact hx)
theorem lR {s : List ByteArray} {f : List aF} {p : List aB} {v : List aA} (h : fT s f p v = true) : ∀ y ∈ v, y.f1 ∈ p.map (·.f0) ∧ y.f2 ∈ p.map (·.f0) := fun y hy => by
  simp only [fT, kB, Bool.and_eq_true, List.all_eq_true] at h
  have := h.2.2.2.2.1 y hy
  simp only [jW, Bool.and_eq_true] at this
  have mem : ∀ x, dP p x = true → x ∈ p.map (·.f0) := fun x hx => by
    unfold dP at hx
    obtain ⟨y, hy, e⟩ := List.any_eq_true.1 hx
    exact List.mem_map.2 ⟨y, hy, of_decide_eq_true e⟩
  exact ⟨mem _ this.2.2.1, mem _ this.2.2.2.1⟩
theorem pM {s : List ByteArray} {f : List aF} {p : List aB} {v : List aA} (h : fT s f p v = true) (o : List ByteArray) {x : ByteArray} (hx : dP p x = true) : fF (iB o p v x) ∧ (iB o p v x).length ≤ 14 ∧ ∀ z ∈ iB o p v x, z ∈ p.map (·.f0) := by
  have hx : x ∈ p.map (·.f0) := by
    unfold dP at hx
    obtain ⟨y, hy, e⟩ := List.any_eq_true.1 hx
    exact List.mem_map.2 ⟨y, hy, of_decide_eq_true e⟩
  obtain ⟨h1, h2⟩ := wP o (p.map (·.f0)) v (lR h) p.length [x] (List.pairwise_singleton _ _) (fun z hz => by rw [List.mem_singleton] at hz; subst hz; exact hx)
  have := mN _ h1 h2
  rw [List.length_map] at this
  have := pJ h
  exact ⟨h1, by unfold iB; omega, h2⟩
/-! ### what lies beside a place -/
def iT (v : List aA) (x : ByteArray) : List ByteArray := (v.filter fun y => decide (y.f1 = x) || decide (y.f2 = x)).map (·.f0)
theorem wS (y : aA) (v : List aA) (x : ByteArray) : iT (y :: v) x = if (decide (y.f1 = x) || decide (y.f2 = x)) = true then y.f0 :: iT v x else iT v x := by
  unfold iT
  rw [List.filter_cons]
  split <;> rfl
theorem yY (v : List aA) (x : ByteArray) : (iT v x).length ≤ v.length := by
  unfold iT; rw [List.length_map]; exact List.length_filter_le _ _
theorem wJ (s : List ByteArray) (f : List aF) (p : List aB) (v : List aA) (x : ByteArray) (hv : v.length ≤ 1000000) :
    Ev (fun k => dR.f k s f p v x) (iT v x) := by
  unfold dR.f
  have key := fN cH v (P := fun i r => ∀ acc : List ByteArray, acc.length ≤ i → Ev (fun k => dR.l0 k v x acc (i : Int)) (acc ++ iT r x))
    (fun acc h => by refine Ev.step (fun k => by rw [dR.l0]) ?_; exact cJ (by omega) (bI (by simp [iT]))) (fun i y r hi hx _ _ ih acc h => ?_)
  · simpa using key [] (Nat.zero_le _)
  refine Ev.step (fun k => by rw [dR.l0]) (aU (by omega) (aU (by omega) ?_))
  rw [dU hi (by omega), rdV, hx, wS]
  refine cB (fun c => aU (by omega) (fQ (ih _ (by simp; omega)) ?_)) (fun c => cB (fun d => aU (by omega) (fQ (ih _ (by simp; omega)) ?_)) (fun d => fQ (ih _ (by omega)) ?_))
  all_goals (rw [cR] at *; simp_all)
/-! ### the valves that are to be shut -/
def gdB (P V : List ByteArray) (y : aA) : Bool := (dZ P y.f1 || dZ P y.f2) && !dZ V y.f0
def fP (v : List aA) (P V : List ByteArray) : List ByteArray := (v.filter (gdB P V)).map (·.f0)
theorem aBF (s : List ByteArray) (f : List aF) (p : List aB) (v : List aA) (P V : List ByteArray) (hv : v.length ≤ 1000000) (hP : P.length ≤ 140737488351232) (hV : V.length ≤ 140737488351232) :
    Ev (fun k => eD.f k s f p v P V) (fP v P V) := by
  unfold eD.f
  have key := fN cH v (P := fun i r => ∀ acc : List ByteArray, acc.length ≤ i → Ev (fun k => eD.l0 k v P V acc (i : Int)) (acc ++ fP r P V))
    (fun acc h => by refine Ev.step (fun k => by rw [eD.l0]) ?_; exact cJ (by omega) (bI (by simp [fP]))) (fun i y r hi hx _ _ ih acc h => ?_)
  · simpa using key [] (Nat.zero_le _)
  refine Ev.step (fun k => by rw [eD.l0]) (aU (by omega) (aU (by omega) ?_))
  rw [dU hi (by omega), rdV, hx, show fP (y :: r) P V = if gdB P V y = true then y.f0 :: fP r P V else fP r P V from by unfold fP; rw [List.filter_cons]; split <;> rfl]
  have e1 := mF P y.f1 hP
  have e2 := mF P y.f2 hP
  have e3 := mF V y.f0 hV
  unfold gdB
  generalize dZ P y.f1 = b1 at *
  generalize dZ P y.f2 = b2 at *
  generalize dZ V y.f0 = b3 at *
  have yes := ih (acc ++ [y.f0]) (by simp; omega)
  have no := ih acc (by omega)
  rw [List.append_assoc] at yes
  refine Ev.bind e1 (gH (fun c1 => Ev.bind e3 (gH (fun c3 => ?_) (fun c3 => aU (by omega) ?_))) (fun c1 => Ev.bind e2 (gH (fun c2 => Ev.bind e3 (gH (fun c3 => ?_) (fun c3 => aU (by omega) ?_))) (fun c2 => ?_))))
  all_goals (subst_vars; first | exact yes | exact no)
theorem tW {v : List aA} (h : cZ iL none v = true) (P V : List ByteArray) : fF (fP v P V) := by
  unfold fP fF
  rw [List.pairwise_map]
  exact (List.Pairwise.filter _ (sN (p := iL) (fun _ _ _ h k => lt_trans h k) v h))
theorem mO (v : List aA) (P V : List ByteArray) (z : ByteArray) : z ∈ fP v P V ↔ ∃ y ∈ v, gdB P V y = true ∧ y.f0 = z := by
  unfold fP
  rw [List.mem_map]
  exact ⟨fun ⟨y, h1, h2⟩ => ⟨y, (List.mem_filter.1 h1).1, (List.mem_filter.1 h1).2, h2⟩, fun ⟨y, h1, h2, h3⟩ => ⟨y, List.mem_filter.2 ⟨h1, h2⟩, h3⟩⟩
def kE (V : List ByteArray) (l acc : List ByteArray) : List ByteArray := l.foldl (fun a x => if dZ V x = true then a else dJ x a) acc
theorem nZ (V : List ByteArray) : ∀ (l acc : List ByteArray), fF acc → fF (kE V l acc)
  | [], acc, h => h
  | x :: l, acc, h => by
    show fF (kE V l (if dZ V x = true then acc else dJ x acc))
    apply nZ V l
    split
    · exact h
    · exact jG x acc h
theorem sI (V : List ByteArray) (z : ByteArray) : ∀ (l acc : List ByteArray), z ∈ kE V l acc ↔ z ∈ acc ∨ (z ∈ l ∧ dZ V z = false)
  | [], acc => by simp [kE]
  | x :: l, acc => by
    show z ∈ kE V l (if dZ V x = true then acc else dJ x acc) ↔ _
    rw [sI V z l]
    cases c : dZ V x with
    | true =>
      rw [if_pos rfl, List.mem_cons]
      constructor
      · rintro (h | ⟨h1, h2⟩)
        · exact .inl h
        · exact .inr ⟨.inr h1, h2⟩
      · rintro (h | ⟨h1 | h1, h2⟩)
        · exact .inl h
        · rw [h1, c] at h2; cases h2
        · exact .inr ⟨h1, h2⟩
    | false =>
      rw [if_neg (by simp), gL, List.mem_cons]
      constructor
      · rintro ((h | h) | ⟨h1, h2⟩)
        · exact .inr ⟨.inl h, h ▸ c⟩
        · exact .inl h
        · exact .inr ⟨.inr h1, h2⟩
      · rintro (h | ⟨h1 | h1, h2⟩)
        · exact .inl (.inr h)
        · exact .inl (.inl h1)
        · exact .inr ⟨h1, h2⟩
theorem sM (V : List ByteArray) : ∀ (l acc : List ByteArray), (kE V l acc).length ≤ acc.length + l.length
  | [], acc => by simp [kE]
  | x :: l, acc => by
    show (kE V l (if dZ V x = true then acc else dJ x acc)).length ≤ _
    have := sM V l (if dZ V x = true then acc else dJ x acc)
    have h2 := mA x acc
    have h3 : (if dZ V x = true then acc else dJ x acc).length ≤ acc.length + 1 := by split <;> omega
    rw [List.length_cons]; omega
def mD (v : List aA) (V : List ByteArray) (P acc : List ByteArray) : List ByteArray := P.foldl (fun a x => kE V (iT v x) a) acc
theorem nM (v : List aA) (V : List ByteArray) : ∀ (P acc : List ByteArray), fF acc → fF (mD v V P acc)
  | [], acc, h => h
  | x :: P, acc, h => nM v V P _ (nZ V _ acc h)
theorem oO (v : List aA) (x z : ByteArray) : z ∈ iT v x ↔ ∃ y ∈ v, (y.f1 = x ∨ y.f2 = x) ∧ y.f0 = z := by
  unfold iT
  rw [List.mem_map]
  simp only [List.mem_filter, Bool.or_eq_true, decide_eq_true_eq]
  exact ⟨fun ⟨y, ⟨h1, h2⟩, h3⟩ => ⟨y, h1, h2, h3⟩, fun ⟨y, h1, h2, h3⟩ => ⟨y, ⟨h1, h2⟩, h3⟩⟩
theorem qL (v : List aA) (V : List ByteArray) (z : ByteArray) : ∀ (P acc : List ByteArray), z ∈ mD v V P acc ↔ z ∈ acc ∨ (∃ x ∈ P, z ∈ iT v x) ∧ dZ V z = false
  | [], acc => by simp [mD]
  | x :: P, acc => by
    show z ∈ mD v V P (kE V (iT v x) acc) ↔ _
    rw [qL v V z P, sI]
    constructor
    · rintro ((h | ⟨h1, h2⟩) | ⟨⟨w, h1, h2⟩, h3⟩)
      · exact .inl h
      · exact .inr ⟨⟨x, List.mem_cons_self .., h1⟩, h2⟩
      · exact .inr ⟨⟨w, List.mem_cons_of_mem _ h1, h2⟩, h3⟩
    · rintro (h | ⟨⟨w, h1, h2⟩, h3⟩)
      · exact .inl (.inl h)
      · rcases List.mem_cons.1 h1 with rfl | h1
        · exact .inl (.inr ⟨h2, h3⟩)
        · exact .inr ⟨⟨w, h1, h2⟩, h3⟩
theorem xS {v : List aA} (h : cZ iL none v = true) (P V : List ByteArray) : mD v V P [] = fP v P V := by
  refine lQ _ _ (nM v V P [] List.Pairwise.nil) (tW h P V) (fun z => ?_)
  rw [qL, mO]
  constructor
  · rintro (h | ⟨⟨x, h1, h2⟩, h3⟩)
    · cases h
    · obtain ⟨y, k1, k2, k3⟩ := (oO v x z).1 h2
      refine ⟨y, k1, ?_, k3⟩
      unfold gdB
      rw [k3, h3, Bool.not_false, Bool.and_true, Bool.or_eq_true, eK, eK]
      rcases k2 with e | e
      · left; rw [e]; exact h1
      · right; rw [e]; exact h1
  · rintro ⟨y, k1, k2, k3⟩
    unfold gdB at k2
    rw [k3, Bool.and_eq_true, Bool.or_eq_true, eK, eK, Bool.not_eq_true'] at k2
    refine .inr ⟨?_, k2.2⟩
    rcases k2.1 with q | q
    · exact ⟨_, q, (oO v _ z).2 ⟨y, k1, .inl rfl, k3⟩⟩
    · exact ⟨_, q, (oO v _ z).2 ⟨y, k1, .inr rfl, k3⟩⟩
theorem tH (s : List ByteArray) (f : List aF) (p : List aB) (v : List aA) (P V : List ByteArray) (hv : v.length ≤ 18) (hP : P.length ≤ 14) (hV : V.length ≤ 140737488351232) :
    Ev (fun k => bC.l0 k s f p v P V [] 0) (mD v V P []) := by
  have L1 : ∀ (l acc R : List ByteArray) (i : Nat), l.length ≤ 18 → acc.length ≤ 18 * 14 → Ev (fun k => bC.l0 k s f p v P V (kE V l acc) (wrap64 ((i : Int) + 1))) R → Ev (fun k => bC.l1 k s f p v P V acc (i : Int) 0 l) R := fun l acc R i hl ha hk => by
    have := fN ByteArray.empty l (P := fun j r => ∀ acc : List ByteArray, acc.length + r.length ≤ 18 * 14 + 18 → Ev (fun k => bC.l0 k s f p v P V (kE V r acc) (wrap64 ((i : Int) + 1))) R → Ev (fun k => bC.l1 k s f p v P V acc (i : Int) (j : Int) l) R)
      (fun acc _ hk => by refine Ev.step (fun k => by rw [bC.l1]) ?_; exact cJ (by omega) hk) (fun j x r hj hx _ _ ih acc ha hk => ?_)
    · exact this acc (by omega) hk
    refine Ev.step (fun k => by rw [bC.l1]) (aU (by omega) (aU (by omega) ?_))
    rw [dX, hx, dU hj (by omega)]
    have hk : Ev (fun k => bC.l0 k s f p v P V (kE V r (if dZ V x = true then acc else dJ x acc)) (wrap64 ((i : Int) + 1))) R := hk
    rw [List.length_cons] at ha
    have hl2 := mA x acc
    refine Ev.bind (iN V x hV) (gH (fun c => ?_) (fun c => Ev.bind (nG acc x (by omega)) ?_))
    · rw [c, if_pos rfl] at hk; exact ih acc (by omega) hk
    · rw [c, if_neg (by simp)] at hk; exact ih _ (by omega) hk
  have key := fN ByteArray.empty P (P := fun i r => ∀ acc : List ByteArray, acc.length ≤ 18 * i → Ev (fun k => bC.l0 k s f p v P V acc (i : Int)) (mD v V r acc))
    (fun acc h => by refine Ev.step (fun k => by rw [bC.l0]) ?_; exact cJ (by omega) (bI rfl)) (fun i x r hi hx _ _ ih acc h => ?_)
  · exact key [] (Nat.zero_le _)
  refine Ev.step (fun k => by rw [bC.l0]) (aU (by omega) (aU (by omega) ?_))
  rw [dX, hx]
  have hb := yY v x
  refine Ev.bind (wJ s f p v x (by omega)) (L1 _ _ _ i (by omega) (by omega) ?_)
  rw [dU hi (by omega)]
  have := sM V (iT v x) acc
  exact ih _ (by omega)
/-! ### lists that are the same, and within one another -/
theorem aAT {α : Type} (d : α) (l : List α) (i : Nat) (h : i < l.length) : l.drop i = l.getD i d :: l.drop (i + 1) := by
  rw [List.drop_eq_getElem_cons h, jB d l i h]
theorem aDR {α : Type} [DecidableEq α] {x y : α} {l m : List α} : decide (x :: l = y :: m) = (decide (x = y) && decide (l = m)) := by
  rw [Bool.eq_iff_iff, Bool.and_eq_true, decide_eq_true_iff, decide_eq_true_iff, decide_eq_true_iff, List.cons.injEq]
theorem xZ (l m : List ByteArray) (hl : l.length ≤ 140737488351232) : Ev (fun k => bM.f k l m) (decide (l = m)) := by
  unfold bM.f
  refine cB (fun c => ?_) (fun c => bI (by symm; apply decide_eq_false; rintro rfl; exact c rfl))
  have hlm : l.length = m.length := by omega
  refine fQ (fN ByteArray.empty l (P := fun i r => Ev (fun k => bM.l0 k l m (i : Int)) (decide (r = m.drop i)))
    (by refine Ev.step (fun k => by rw [bM.l0]) ?_; exact cJ (by omega) (bI (by rw [hlm, List.drop_length]; rfl))) (fun i x r hi hx _ hr ih => ?_)) (by simp)
  refine Ev.step (fun k => by rw [bM.l0]) (aU (by omega) (aU (by omega) (aU (by omega) ?_)))
  rw [dU hi (by omega), dX, dX, hx, aAT ByteArray.empty m i (by omega), aDR]
  exact cB (fun c => fQ ih (by rw [decide_eq_true (cR.1 c), Bool.true_and])) (fun c => bI (by rw [decide_eq_false (fun e => c (cR.2 e)), Bool.false_and]))
theorem aAZ (a b : List ByteArray) (ha : a.length ≤ 140737488351232) (hb : b.length ≤ 140737488351232) : Ev (fun k => fB.f k a b) (a.all (dZ b)) := by
  unfold fB.f
  refine fN ByteArray.empty a (P := fun i r => Ev (fun k => fB.l0 k a b (i : Int)) (r.all (dZ b)))
    (by refine Ev.step (fun k => by rw [fB.l0]) ?_; exact cJ (by omega) (bI rfl)) (fun i x r hi hx hm _ ih => ?_)
  refine Ev.step (fun k => by rw [fB.l0]) (aU (by omega) (aU (by omega) ?_))
  rw [dU hi (by omega), dX, hx]
  exact Ev.bind (mF b x hb) (gH (fun c => fQ ih (by rw [List.all_cons, c]; rfl)) (fun c => bI (by rw [List.all_cons, c]; rfl)))
theorem qQ {s : List ByteArray} {f : List aF} {p : List aB} {v : List aA} (h : fT s f p v = true) (P V : List ByteArray) (hr : fZ p v P V = true) : P.length ≤ 14 := by
  unfold fZ at hr
  simp only [Bool.and_eq_true, lM, decide_eq_true_eq] at hr
  have hc := hr.2.1
  have hnd : P.Nodup := by
    rw [List.nodup_iff_pairwise_ne, List.pairwise_iff_getElem]
    intro i j hi hj hij e
    have := hc j hj
    simp only [cI, Bool.and_eq_true, Bool.not_eq_true'] at this
    have q := this.2.2
    rw [← Bool.not_eq_true, eK] at q
    apply q
    have := oU (P := P) hij (by omega)
    rw [jB _ P i hi, e, ← jB ByteArray.empty P j hj] at this
    exact this
  have hsub : P ⊆ p.map (·.f0) := fun x hx => by
    obtain ⟨i, hi, rfl⟩ := List.getElem_of_mem hx
    have := hc i hi
    simp only [cI, Bool.and_eq_true] at this
    rw [jB _ P i hi] at this
    obtain ⟨y, h1, h2⟩ := mR this.1
    exact List.mem_map.2 ⟨y, h1, h2⟩
  have := lG P _ hnd hsub
  rw [List.length_map] at this
  have := pJ h
  omega
/-! ### a route that is alone -/
theorem yE (o : List ByteArray) (a : List ByteArray × Bool) (y : aA) (z : ByteArray) (h : z ∈ a.1) : z ∈ (gR o a y).1 := by
  unfold gR
  split
  · exact (gL _ _ _).2 (.inr ((gL _ _ _).2 (.inr h)))
  · exact h
theorem tX (o : List ByteArray) (z : ByteArray) : ∀ (v : List aA) (a : List ByteArray × Bool), z ∈ a.1 → z ∈ (gD o v a).1
  | [], a, h => h
  | y :: v, a, h => tX o z v _ (yE o a y z h)
theorem pW (o : List ByteArray) (v : List aA) (z : ByteArray) : ∀ (n : Nat) (a : List ByteArray), z ∈ a → z ∈ mL o v n a
  | 0, _, h => h
  | n + 1, a, h => pW o v z n _ (tX o z v (a, false) h)
theorem pS (o N : List ByteArray) (v : List aA) (hN : ∀ y ∈ v, y.f1 ∈ N ∧ y.f2 ∈ N) : ∀ (n : Nat) (a : List ByteArray), N.length < n + a.length → fF a → (∀ x ∈ a, x ∈ N) → gD o v (mL o v n a, false) = (mL o v n a, false)
  | 0, a, h, h1, h2 => by have := mN N h1 h2; omega
  | n + 1, a, h, h1, h2 => by
    obtain ⟨q1, q2⟩ := nA o N v (a, false) h1 h2 hN
    rcases nC o v (a, false) with e | ⟨_, e2⟩
    · rw [pU o v a e]; exact e
    · have e2 : a.length < (gD o v (a, false)).1.length := e2
      exact pS o N v hN n _ (by omega) q1 q2
theorem oE (o : List ByteArray) : ∀ (v : List aA) (a : List ByteArray), gD o v (a, false) = (a, false) → ∀ y ∈ v, dZ o y.f0 = true → dZ a y.f1 = dZ a y.f2
  | [], _, _, y, hy, _ => by cases hy
  | x :: v, a, h, y, hy, ho => by
    rw [jS] at h
    by_cases c : (dZ o x.f0 && (dZ a x.f1 != dZ a x.f2)) = true
    · rw [show gR o (a, false) x = (dJ x.f2 (dJ x.f1 a), true) from if_pos c] at h
      have := (mS o v (dJ x.f2 (dJ x.f1 a)) true).2
      rw [h] at this
      simp at this
    · rw [show gR o (a, false) x = (a, false) from if_neg c] at h
      rcases List.mem_cons.1 hy with e | hy
      · subst e
        rw [ho, Bool.true_and] at c
        cases p : dZ a y.f1 <;> cases q : dZ a y.f2 <;> rw [p, q] at c <;> first | rfl | exact absurd rfl c
      · exact oE o v a h y hy ho
theorem aHB (a b : ByteArray) : (mnS a b = a ∧ mxS a b = b) ∨ (mnS a b = b ∧ mxS a b = a) := by
  unfold mnS mxS
  rcases vR a b with h | h | h
  · have h2 := kZ h
    unfold lt at h h2
    simp [h, h2]
  · subst h; simp
  · have h2 := kZ h
    unfold lt at h h2
    simp [h, h2]
theorem wR {p : List aB} {v : List aA} {P V : List ByteArray} (hr : fZ p v P V = true) : P.Nodup := by
  unfold fZ at hr
  simp only [Bool.and_eq_true, lM, decide_eq_true_eq] at hr
  have hc := hr.2.1
  rw [List.nodup_iff_pairwise_ne, List.pairwise_iff_getElem]
  intro i j hi hj hij e
  have := hc j hj
  simp only [cI, Bool.and_eq_true, Bool.not_eq_true'] at this
  have q := this.2.2
  rw [← Bool.not_eq_true, eK] at q
  apply q
  have := oU (P := P) hij (by omega)
  rw [jB _ P i hi, e, ← jB ByteArray.empty P j hj] at this
  exact this
theorem xR {p : List aB} {v : List aA} {P V o : List ByteArray} (hr : fZ p v P V = true) (ho : V.all (dZ o) = true) (G : List ByteArray) (h0 : P.getD 0 ByteArray.empty ∈ G)
    (hG : ∀ y ∈ v, dZ o y.f0 = true → dZ G y.f1 = dZ G y.f2) : ∀ i, i < P.length → P.getD i ByteArray.empty ∈ G := by
  unfold fZ at hr
  simp only [Bool.and_eq_true, lM, decide_eq_true_eq] at hr
  obtain ⟨⟨hl1, hl2⟩, _, hd⟩ := hr
  intro i
  induction i with
  | zero => intro _; exact h0
  | succ i ih =>
    intro hi
    have hm := ih (by omega)
    have hiV : i < V.length := by omega
    have := hd i hiV
    unfold dI sE at this
    cases q : gG (V.getD i ByteArray.empty) v with
    | none => rw [q] at this; cases this
    | some y =>
      rw [q] at this
      simp only [Bool.and_eq_true, decide_eq_true_eq] at this
      unfold gG at q
      have hy := List.mem_of_find?_eq_some q
      have hn := List.find?_some q
      simp only [decide_eq_true_eq] at hn
      have hoy : dZ o y.f0 = true := by rw [hn]; exact List.all_eq_true.1 ho _ (iO ByteArray.empty V i hiV)
      have e := hG y hy hoy
      rw [this.1, this.2] at e
      rw [← eK] at hm ⊢
      rcases aHB (P.getD i ByteArray.empty) (P.getD (i + 1) ByteArray.empty) with ⟨e1, e2⟩ | ⟨e1, e2⟩
      · rw [e1, e2, hm] at e; exact e.symm
      · rw [e1, e2, hm] at e; exact e
theorem sJ {s : List ByteArray} {f : List aF} {p : List aB} {v : List aA} (h : fT s f p v = true) {P V o : List ByteArray} (hr : fZ p v P V = true) (ho : V.all (dZ o) = true) :
    decide (iB o p v (P.getD 0 ByteArray.empty) = qG [] P) = decide ((iB o p v (P.getD 0 ByteArray.empty)).length = P.length) := by
  have hP2 : 2 ≤ P.length := by
    unfold fZ at hr
    simp only [Bool.and_eq_true, decide_eq_true_eq] at hr
    exact hr.1.1
  have hx : dP p (P.getD 0 ByteArray.empty) = true := by
    unfold fZ at hr
    simp only [Bool.and_eq_true, lM, decide_eq_true_eq] at hr
    have := hr.2.1 0 (by omega)
    simp only [cI, Bool.and_eq_true] at this
    exact this.1
  have hxm : P.getD 0 ByteArray.empty ∈ p.map (·.f0) := by
    unfold dP at hx
    obtain ⟨y, hy, e⟩ := List.any_eq_true.1 hx
    exact List.mem_map.2 ⟨y, hy, of_decide_eq_true e⟩
  obtain ⟨gs, gl, gm⟩ := pM h o hx
  have hend := pS o (p.map (·.f0)) v (lR h) p.length [P.getD 0 ByteArray.empty] (by rw [List.length_map]; simp) (List.pairwise_singleton _ _) (fun z hz => by rw [List.mem_singleton] at hz; subst hz; exact hxm)
  have h0 : P.getD 0 ByteArray.empty ∈ iB o p v (P.getD 0 ByteArray.empty) := pW o v _ p.length _ (List.mem_singleton.2 rfl)
  have hin := xR hr ho (iB o p v (P.getD 0 ByteArray.empty)) h0 (oE o v _ hend)
  generalize iB o p v (P.getD 0 ByteArray.empty) = G at *
  have hnd := wR hr
  have ws := lX P [] oK
  have wm : ∀ z, z ∈ qG [] P ↔ z ∈ P := fun z => by rw [pK]; simp
  have wl : (qG [] P).length = P.length := Nat.le_antisymm (lG _ _ (lC ws) (fun z hz => (wm z).1 hz)) (lG _ _ hnd (fun z hz => (wm z).2 hz))
  have sub : ∀ z, z ∈ qG [] P → z ∈ G := fun z hz => by
    obtain ⟨i, hi, rfl⟩ := List.getElem_of_mem ((wm z).1 hz)
    have := hin i hi
    rwa [jB _ P i hi] at this
  refine decide_eq_decide.2 ⟨fun e => by rw [e, wl], fun e => ?_⟩
  refine lQ _ _ gs ws (fun z => ⟨fun hz => ?_, sub z⟩)
  refine Classical.byContradiction fun hn => ?_
  have := lG (z :: qG [] P) G (List.nodup_cons.2 ⟨hn, lC ws⟩) (fun y hy => by
    rcases List.mem_cons.1 hy with rfl | hy
    · exact hz
    · exact sub y hy)
  rw [List.length_cons, wl] at this
  omega
/-! ### ways on, and how many there are -/
def mB (P : List ByteArray) : ByteArray := P.getD (P.length - 1) ByteArray.empty
def onC (p : List aB) (P : List ByteArray) (to : ByteArray) (y : aA) : Bool :=
  !decide (gV y (mB P) = (⟨#[]⟩ : ByteArray)) && (!dZ P (gV y (mB P)) && (decide (gV y (mB P) = to) || !decide (iR p (gV y (mB P)) > 0)))
def onR (P V : List ByteArray) (y : aA) : aI := ⟨P ++ [gV y (mB P)], V ++ [y.f0]⟩
def onL (p : List aB) (v : List aA) (P V : List ByteArray) (to : ByteArray) : List aI := (v.filter (onC p P to)).map (onR P V)
theorem aFL (s : List ByteArray) (f : List aF) (p : List aB) (v : List aA) (P V : List ByteArray) (to : ByteArray) (hp : p.length ≤ 1000) (hv : v.length ≤ 1000) (hP0 : 1 ≤ P.length) (hP : P.length ≤ 1000) (hV : V.length ≤ 1000) :
    Ev (fun k => fD.f k s f p v P V to) (onL p v P V to) := by
  unfold fD.f
  have hw : wrap64 ((P.length : Int) - 1) = ((P.length - 1 : Nat) : Int) := by unfold wrap64; omega
  rw [hw]
  refine aU (by omega) (aU (by omega) ?_)
  have key := fN cH v (P := fun i r => ∀ acc : List aI, acc.length ≤ i → Ev (fun k => fD.l0 k s f p v P V to acc (i : Int)) (acc ++ onL p r P V to))
    (fun acc _ => by refine Ev.step (fun k => by rw [fD.l0]) ?_; exact cJ (by omega) (bI (by simp [onL]))) (fun i y r hi hx _ _ ih acc ha => ?_)
  · exact key [] (Nat.zero_le _)
  refine Ev.step (fun k => by rw [fD.l0]) (aU (by omega) (aU (by omega) ?_))
  rw [hw, rdV, hx, dU hi (by omega), dX]
  have skip : onC p P to y = false → Ev (fun k => fD.l0 k s f p v P V to acc ((i + 1 : Nat) : Int)) (acc ++ onL p (y :: r) P V to) := fun c => by
    refine fQ (ih acc (by omega)) ?_
    simp [onL, List.filter_cons, c]
  have take : onC p P to y = true → Ev (fun k => fD.l0 k s f p v P V to (acc ++ [onR P V y]) ((i + 1 : Nat) : Int)) (acc ++ onL p (y :: r) P V to) := fun c => by
    refine fQ (ih (acc ++ [onR P V y]) (by simp; omega)) ?_
    simp [onL, List.filter_cons, c]
  have hcap := oS s f p v (gV y (mB P)) (by omega)
  refine Ev.bind (sZ y (mB P)) (cB (fun c => skip (by simp [onC, cR.1 c])) (fun c => Ev.bind (iN P _ (by omega)) (gH (fun d => skip (by simp [onC, d])) (fun d => cB (fun e => ?_) (fun e => Ev.bind hcap (cB (fun g => skip ?_) (fun g => ?_)))))))
  · exact aU (by omega) (aU (by omega) (aU (by omega) (aU (by omega) (aU (by omega) (take (by
      have c' : ¬ gV y (mB P) = (⟨#[]⟩ : ByteArray) := fun q => c (cR.2 q)
      simp only [onC, d, decide_eq_false c', decide_eq_true (cR.1 e)]; rfl))))))
  · have e' : ¬ gV y (mB P) = to := fun q => e (cR.2 q)
    simp only [onC, d, decide_eq_false e', decide_eq_true g]; simp
  · exact aU (by omega) (aU (by omega) (aU (by omega) (aU (by omega) (aU (by omega) (take (by
      have c' : ¬ gV y (mB P) = (⟨#[]⟩ : ByteArray) := fun q => c (cR.2 q)
      simp only [onC, d, decide_eq_false c', decide_eq_false g]; simp))))))
def tch (Q : List ByteArray) (y : aA) : Bool := dZ Q y.f1 || dZ Q y.f2
def phi (v : List aA) (Q : List ByteArray) : Nat := (v.filter fun y => !tch Q y).length
theorem aHP (v : List aA) (Q : List ByteArray) : phi v Q ≤ v.length := List.length_filter_le _ _
theorem qZ {α : Type} {a b c : α → Bool} : ∀ v : List α, (∀ y ∈ v, a y = true → b y = false ∧ c y = true) → (∀ y ∈ v, b y = true → c y = true) → (v.filter a).length + (v.filter b).length ≤ (v.filter c).length
  | [], _, _ => Nat.le_refl _
  | y :: v, h, k => by
    have ih := qZ v (fun z hz => h z (List.mem_cons_of_mem _ hz)) (fun z hz => k z (List.mem_cons_of_mem _ hz))
    have h1 := h y (List.mem_cons_self ..)
    have k1 := k y (List.mem_cons_self ..)
    simp only [List.filter_cons]
    cases ca : a y with
    | true =>
      obtain ⟨e1, e2⟩ := h1 ca
      simp only [e1, e2]
      simp; omega
    | false => cases cb : b y with
      | true => simp only [k1 cb]; simp; omega
      | false => cases cc : c y <;> simp <;> omega
theorem aHJ {p : List aB} {v : List aA} {P : List ByteArray} {to : ByteArray} (hn : P.Nodup) (h1 : 1 ≤ P.length) : (v.filter (onC p P to)).length + phi v P ≤ phi v P.dropLast := by
  obtain ⟨Q, h, rfl⟩ : ∃ Q h, P = Q ++ [h] := by
    rcases List.eq_nil_or_concat P with e | ⟨Q, h, e⟩
    · rw [e] at h1; simp at h1
    · exact ⟨Q, h, by rw [e]; simp⟩
  have hl : mB (Q ++ [h]) = h := by simp [mB]
  have hd : (Q ++ [h]).dropLast = Q := by simp
  rw [hd]
  have hq : h ∉ Q := fun hc => by
    rw [List.nodup_append] at hn
    exact hn.2.2 h hc h (List.mem_singleton.2 rfl) rfl
  have mem : ∀ z, dZ (Q ++ [h]) z = false → dZ Q z = false ∧ z ≠ h := fun z hz => by
    rw [← Bool.not_eq_true, eK] at hz
    refine ⟨?_, fun e => hz (by rw [e]; simp)⟩
    rw [← Bool.not_eq_true, eK]; exact fun hc => hz (by simp [hc])
  have hhq : dZ Q h = false := by rw [← Bool.not_eq_true, eK]; exact hq
  have hh : dZ (Q ++ [h]) h = true := eK.2 (by simp)
  refine qZ v (fun y _ hy => ?_) (fun y _ hy => ?_)
  · simp only [onC, hl, Bool.and_eq_true, Bool.not_eq_true', decide_eq_false_iff_not] at hy
    obtain ⟨e1, e2, _⟩ := hy
    unfold gV at e1 e2
    by_cases c : y.f1 = h
    · rw [if_pos c] at e2
      simp only [tch, c, hh, hhq, (mem _ e2).1]; simp
    · rw [if_neg c] at e1 e2
      by_cases d : y.f2 = h
      · simp only [d, hl, ↓reduceIte] at e2
        have := (mem _ e2).1
        simp only [tch, d, hh, hhq, this]; simp
      · rw [if_neg d] at e1; exact absurd rfl e1
  · simp only [tch, Bool.not_eq_true', Bool.or_eq_false_iff] at hy ⊢
    exact ⟨(mem _ hy.1).1, (mem _ hy.2).1⟩
def pot (v : List aA) (L : List aI) : Nat := (L.map fun r => 2 ^ phi v r.f0.dropLast).sum
theorem pI (v : List aA) (x : aI) (L : List aI) : pot v (x :: L) = 2 ^ phi v x.f0.dropLast + pot v L := by simp [pot]
theorem aET (v : List aA) (L M : List aI) : pot v (L ++ M) = pot v L + pot v M := by simp [pot]
theorem zT (v : List aA) (x : aI) : pot v [x] = 2 ^ phi v x.f0.dropLast := by simp [pot]
theorem rM (v : List aA) : ∀ L : List aI, L.length ≤ pot v L
  | [] => Nat.le_refl _
  | x :: L => by
    have := rM v L
    have h2 : 1 ≤ 2 ^ phi v x.f0.dropLast := Nat.one_le_two_pow
    rw [pI, List.length_cons]; omega
theorem aIB {p : List aB} {v : List aA} {P : List ByteArray} (V : List ByteArray) {to : ByteArray} (hn : P.Nodup) (h1 : 1 ≤ P.length) : pot v (onL p v P V to) ≤ 2 ^ phi v P.dropLast := by
  have h := aHJ (p := p) (v := v) (to := to) hn h1
  have e : ∀ l : List aA, pot v (l.map (onR P V)) = l.length * 2 ^ phi v P := fun l => by
    induction l with
    | nil => simp [pot]
    | cons y l ih =>
      rw [List.map_cons, pI, ih, List.length_cons, Nat.add_mul, Nat.one_mul]
      have : (onR P V y).f0.dropLast = P := by simp [onR]
      rw [this]; omega
  unfold onL
  rw [e]
  generalize (v.filter (onC p P to)).length = n at h
  have h3 : n ≤ 2 ^ n := Nat.le_of_lt Nat.lt_two_pow_self
  refine Nat.le_trans (Nat.mul_le_mul_right _ h3) ?_
  rw [← Nat.pow_add]
  exact Nat.pow_le_pow_right (by omega) h
def tQ (n : Nat) (r : aI) : Prop := r.f0.length = n + 1 ∧ r.f1.length = n ∧ r.f0.Nodup
theorem aFN {p : List aB} {v : List aA} {to : ByteArray} {n : Nat} {r : aI} (h : tQ n r) : ∀ x ∈ onL p v r.f0 r.f1 to, tQ (n + 1) x := fun x hx => by
  obtain ⟨y, hy, rfl⟩ := List.mem_map.1 hx
  have hc := (List.mem_filter.1 hy).2
  simp only [onC, Bool.and_eq_true, Bool.not_eq_true'] at hc
  obtain ⟨h1, h2, h3⟩ := h
  refine ⟨by simp [onR, h1], by simp [onR, h2], ?_⟩
  have : gV y (mB r.f0) ∉ r.f0 := fun q => by rw [eK.2 q] at hc; exact Bool.noConfusion hc.2.1
  show (r.f0 ++ [gV y (mB r.f0)]).Nodup
  rw [List.nodup_append]
  exact ⟨h3, by simp, fun a ha b hb e => by rw [List.mem_singleton] at hb; subst hb; subst e; exact this ha⟩
def aGM (x : aI) : Prop := 2 ≤ x.f0.length ∧ x.f0.length ≤ 16 ∧ 1 ≤ x.f1.length ∧ x.f1.length ≤ 16
theorem rdR (l : List aI) (i : Nat) : aM l (i : Int) = l.getD i iZ := by simp [aM]
section
variable (s : List ByteArray) (f : List aF) (p : List aB) (v : List aA) (to : ByteArray) (hp : p.length ≤ 14) (hv : v.length ≤ 18)
abbrev tS (o : List aI) : Prop := o.length ≤ 30 ∧ ∀ x ∈ o, aGM x
theorem aIP {Q : List aI → Prop} (n : Nat) (hn : n ≤ 13) (list : List aI) (x9 x11 : Int) (on : List aI) (hon : ∀ x ∈ on, tQ (n + 1) x) (hol : on.length ≤ 262144) (B : Nat) (hB : B ≤ 262144)
    (K : ∀ out more : List aI, tS out → (∀ x ∈ more, tQ (n + 1) x) → pot v more ≤ B → ExP (fun k => aW.l1 k s f p v to out list x9 more (wrap64 (x11 + 1))) Q) :
    ∀ out more : List aI, tS out → (∀ x ∈ more, tQ (n + 1) x) → pot v more + pot v on ≤ B → ExP (fun k => aW.l2 k s f p v to out list x9 more x11 on 0 0) Q := fun out more h1 h2 h3 => by
  have key := fN iZ on (P := fun j r => ∀ (out more : List aI) (q : Nat), q ≤ j → tS out → (∀ x ∈ more, tQ (n + 1) x) → pot v more + pot v r ≤ B → ExP (fun k => aW.l2 k s f p v to out list x9 more x11 on q (j : Int)) Q)
    (fun out more q hq h1 h2 h3 => by refine bY (fun k => by rw [aW.l2]) ?_; exact dN (by omega) (K out more h1 h2 (by omega))) (fun j x r hj hx hm _ ih out more q hq h1 h2 h3 => ?_)
  · exact key out more 0 (Nat.le_refl _) h1 h2 h3
  rw [pI] at h3
  generalize hW : 2 ^ phi v x.f0.dropLast = W at h3
  have hg := hon x hm
  obtain ⟨g1, g2, g3⟩ := hg
  have hw : wrap64 ((x.f0.length : Int) - 1) = ((x.f0.length - 1 : Nat) : Int) := by unfold wrap64; omega
  have hml := rM v more
  refine bY (fun k => by rw [aW.l2]) ?_
  rw [rdR, hx, hw, dU hj (by omega)]
  refine aY (by omega) (aY (by omega) (aY (by omega) (aY (by omega) (aY (by omega) (bX (fun c => bX (fun d => aY (by have := h1.1; omega) ?_) (fun d => ?_)) (fun c => aY (by omega) ?_))))))
  · exact ih (out ++ [x]) more _ (by omega) ⟨by rw [List.length_append, List.length_singleton]; omega, lL h1.2 ⟨by omega, by omega, by omega, by omega⟩⟩ h2 (by omega)
  · exact ih out more q (by omega) h1 h2 (by omega)
  · exact ih out (more ++ [x]) _ (by omega) h1 (lL h2 ⟨g1, g2, g3⟩) (by rw [aET, zT, hW]; omega)
include hp hv in
theorem aIE {Q : List aI → Prop} (n : Nat) (hn : n ≤ 13) (list : List aI) (hl : ∀ x ∈ list, tQ n x) (x9 : Int) (B : Nat) (hB : B ≤ 262144) (hll : list.length ≤ 262144)
    (K : ∀ out more : List aI, tS out → (∀ x ∈ more, tQ (n + 1) x) → pot v more ≤ B → ExP (fun k => aW.l0 k s f p v to out more (wrap64 (x9 + 1))) Q) :
    ∀ out : List aI, tS out → pot v list ≤ B → ExP (fun k => aW.l1 k s f p v to out list x9 [] 0) Q := fun out h1 h3 => by
  have key := fN iZ list (P := fun i r => ∀ out more : List aI, tS out → (∀ x ∈ more, tQ (n + 1) x) → pot v more + pot v r ≤ B → ExP (fun k => aW.l1 k s f p v to out list x9 more (i : Int)) Q)
    (fun out more h1 h2 h3 => by refine bY (fun k => by rw [aW.l1]) ?_; exact dN (by omega) (K out more h1 h2 (by omega))) (fun i x r hi hx hm _ ih out more h1 h2 h3 => ?_)
  · exact key out [] h1 (fun x hx => by cases hx) (by simpa [pot] using h3)
  rw [pI] at h3
  have hg := hl x hm
  obtain ⟨g1, g2, g3⟩ := hl x hm
  have hpo := aIB (p := p) (v := v) x.f1 (to := to) g3 (by omega)
  have hpl := rM v (onL p v x.f0 x.f1 to)
  refine bY (fun k => by rw [aW.l1]) ?_
  rw [rdR, hx]
  refine aY (by omega) (aY (by omega) (fK (aFL s f p v x.f0 x.f1 to (by omega) (by omega) (by omega) (by omega) (by omega)) ?_))
  refine aIP s f p v to n hn list x9 i (onL p v x.f0 x.f1 to) (aFN hg) (by omega) (B - pot v r) (by omega) (fun out' more' k1 k2 k3 => ?_) out more h1 h2 (by omega)
  rw [dU hi (by omega)]
  exact ih out' more' k1 k2 (by omega)
include hp hv in
theorem aGE : ∀ (m n : Nat) (out list : List aI), n + m = p.length → tS out → (∀ x ∈ list, tQ n x) → pot v list ≤ 262144 → ExP (fun k => aW.l0 k s f p v to out list (n : Int)) tS
  | 0, n, out, list, hm, h1, h2, h3 => by
    refine bY (fun k => by rw [aW.l0]) ?_
    exact dN (by omega) (cP h1)
  | m + 1, n, out, list, hm, h1, h2, h3 => by
    refine bY (fun k => by rw [aW.l0]) ?_
    have hll := rM v list
    refine aY (by omega) (bX (fun _ => ?_) (fun _ => cP h1))
    refine aIE s f p v to hp hv n (by omega) list h2 n 262144 (by omega) (by omega) (fun out' more k1 k2 k3 => ?_) out h1 h3
    rw [dU (n := 100) (by omega) (by omega)]
    exact aGE m (n + 1) out' more (by omega) k1 k2 k3
end
theorem aBJ {s : List ByteArray} {f : List aF} {p : List aB} {v : List aA} (h : PD 1 s f p v) (a b : ByteArray) : ExP (fun k => aW.f k s f p v a b) tS := by
  obtain ⟨ls, lf, lp, lv, s1, f1, p1, v1⟩ := h
  unfold aW.f
  have nil : tS [] := ⟨by simp, fun x hx => by cases hx⟩
  have hS := kY s f p v (by omega) (by omega) (by omega) (by omega)
  refine fK hS ?_
  cases hb : fT s f p v with
  | false => exact dN (by simp) (cP nil)
  | true =>
    have hp := pJ hb
    have hv := pN hb
    refine aY rfl (bX (fun _ => cP nil) (fun _ => fK (oS s f p v a (by omega)) (bX (fun _ => cP nil) (fun _ => fK (oS s f p v b (by omega)) (bX (fun _ => cP nil) (fun _ => ?_))))))
    refine aGE s f p v b hp hv p.length 0 [] [⟨[a], []⟩] (by omega) nil (fun x hx => ?_) ?_
    · rw [List.mem_singleton] at hx; subst hx; exact ⟨rfl, rfl, by simp⟩
    · rw [zT]
      have := aHP v (⟨[a], []⟩ : aI).f0.dropLast
      exact Nat.le_trans (Nat.pow_le_pow_right (by omega) (Nat.le_trans this hv)) (by decide)
/-! ### the draw of a plant, open valves and a route -/
abbrev TB3 := ByteArray × List Int × Int
theorem oI {b : List Int} (hb : iD b) {q : Int} (h0 : 0 ≤ q) (hq : q ≤ 900000) {s : List ByteArray} {f : List aF} {p : List aB} {v : List aA} (h : PD 1 s f p v) :
    ExP (fun _ => fY.f b q s f p v) (fun t : TB3 => t.2.1 = b ∧ q ≤ t.2.2 ∧ t.2.2 ≤ q + 2) := by
  have hl := h.lp
  unfold fY.f
  have tl : ∀ q' : Int, q ≤ q' → q' ≤ q + 1 → ExP (fun _ : Nat => (bF.f b q' ([(⟨#[110, 111, 110, 101]⟩ : ByteArray), (⟨#[]⟩ : ByteArray), (⟨#[97]⟩ : ByteArray)] : List ByteArray)).bind fun t => some (t.1, t.2.1, t.2.2)) (fun t : TB3 => t.2.1 = b ∧ q ≤ t.2.2 ∧ t.2.2 ≤ q + 2) := fun q' g0 g1 =>
    jO hb (by omega) (by omega) (by decide) (by decide) (fun w hw => kX hw (by decide)) (fun w _ => cP ⟨rfl, by dsimp only; omega, by dsimp only; omega⟩)
  refine bX (fun c => fO hb h0 (by omega) (by omega) (fun a _ _ => bX (fun _ => fO hb (by dsimp only; omega) (by dsimp only; omega) (by omega) (fun d d0 d1 => ?_)) (fun _ => tl _ (by dsimp only; omega) (by dsimp only; omega)))) (fun _ => tl q (by omega) (by omega))
  exact aY d0 (aY (d1 (by omega)) (cP ⟨rfl, by dsimp only; omega, by dsimp only; omega⟩))
theorem qM {b : List Int} (hb : iD b) {q : Int} (h0 : 0 ≤ q) (hq : q ≤ 800000) {s : List ByteArray} {f : List aF} {p : List aB} {v : List aA} (h : PD 1 s f p v) :
    ExP (fun k => dM.f k b q s f p v) (fun t : TB3 => t.2.1 = b ∧ q ≤ t.2.2 ∧ t.2.2 ≤ q + 3) := by
  have hl := h.lp
  unfold dM.f
  have key := fN dQ p (P := fun i r => ∀ acc : List ByteArray, acc.length ≤ i → ExP (fun k => dM.l0 k b q s f p v acc (i : Int)) (fun t : TB3 => t.2.1 = b ∧ q ≤ t.2.2 ∧ t.2.2 ≤ q + 3))
    (fun acc ha => ?_) (fun i y r hi hx _ _ ih acc ha => ?_)
  · exact key [] (Nat.zero_le _)
  · refine bY (fun k => by rw [dM.l0]) (dN (by omega) (bX (fun c => fO hb h0 (by omega) (by omega) (fun a _ _ => ?_)) (fun _ => ?_)))
    · dsimp only
      refine bX (fun _ => fO hb (by omega) (by omega) (by omega) (fun d d0 d1 => ?_)) (fun _ => ?_)
      · exact aY d0 (aY (d1 (by omega)) (cP ⟨rfl, by dsimp only; omega, by dsimp only; omega⟩))
      refine eC (oI hb (q := q + 1) (by omega) (by omega) h) (fun t ht => cP ?_)
      obtain ⟨e1, e2, e3⟩ := ht
      exact ⟨e1, by dsimp only; omega, by dsimp only; omega⟩
    · refine eC (oI hb h0 (by omega) h) (fun t ht => cP ?_)
      obtain ⟨e1, e2, e3⟩ := ht
      exact ⟨e1, by dsimp only; omega, by dsimp only; omega⟩
  · refine bY (fun k => by rw [dM.l0]) (aY (by omega) (aY (by omega) ?_))
    rw [dU hi (by omega)]
    exact bX (fun _ => aY (by omega) (ih _ (by rw [List.length_append, List.length_singleton]; omega))) (fun _ => ih _ (by omega))
abbrev TRt := List ByteArray × List ByteArray × List Int × Int
def QRt (b : List Int) (t : TRt) : Prop := t.1.length ≤ 16 ∧ t.2.1.length ≤ 16 ∧ t.2.2.1 = b ∧ 0 ≤ t.2.2.2 ∧ t.2.2.2 ≤ 600000
theorem tC {b : List Int} (hb : iD b) {s : List ByteArray} {f : List aF} {p : List aB} {v : List aA} (h : PD 1 s f p v) : ∀ (m n : Nat) (q : Int), n + m = 6 → 0 ≤ q → q ≤ 500000 + 10 * (n : Int) → ExP (fun k => fA.l0 k s f p v (n : Int) b q) (QRt b)
  | 0, n, q, hn, h0, hq => by
    refine bY (fun k => by rw [fA.l0]) (dN (by omega) (cP ⟨by simp, by simp, rfl, h0, by dsimp only; omega⟩))
  | m + 1, n, q, hn, h0, hq => by
    refine bY (fun k => by rw [fA.l0]) (aY (by omega) ?_)
    refine eC (qM hb h0 (by omega) h) (fun t1 ht1 => ?_)
    obtain ⟨x1, b1, q1⟩ := t1
    obtain ⟨e1, g1, g2⟩ := ht1
    dsimp only at e1 g1 g2
    subst e1
    refine eC (qM hb (q := q1) (by omega) (by omega) h) (fun t2 ht2 => ?_)
    obtain ⟨x2, b2, q2⟩ := t2
    obtain ⟨e2, g3, g4⟩ := ht2
    dsimp only at e2 g3 g4
    subst e2
    refine eC (aBJ h x1 x2) (fun L hL => ?_)
    refine bX (fun c => fO hb (by dsimp only; omega) (by dsimp only; omega) (by have := hL.1; omega) (fun a a0 a1 => ?_)) (fun _ => ?_)
    rotate_left
    · dsimp only
      rw [dU (n := 100) (by omega) (by omega)]
      exact tC hb h m (n + 1) q2 (by omega) (by omega) (by omega)
    have a1 := a1 (by omega)
    obtain ⟨o1, o2, o3, o4⟩ : aGM (aM L a) := by
      unfold aM
      exact hL.2 _ (iO _ L _ (by omega))
    dsimp only
    refine aY a0 (aY a1 ?_)
    generalize aM L a = x at o1 o2 o3 o4
    have tl : ∀ (P : List ByteArray) (q' : Int), P.length ≤ 16 → 0 ≤ q' → q' ≤ 590000 → ExP (fun _ : Nat => (aN.f b2 q' 12).bind fun t => if t.1 = 0 then (if 1 ≤ ((x.f1).length : Int) then some (P, (x.f1).drop (1 : Int).toNat, t.2.1, t.2.2) else none) else some (P, x.f1, t.2.1, t.2.2)) (QRt b2) := fun P q' k1 k2 k3 =>
      fO hb k2 (by omega) (by omega) (fun d _ _ => bX (fun _ => aY (by omega) (cP ⟨k1, by dsimp only; rw [List.length_drop]; omega, rfl, by dsimp only; omega, by dsimp only; omega⟩)) (fun _ => cP ⟨k1, o4, rfl, by dsimp only; omega, by dsimp only; omega⟩))
    refine fO hb (by omega) (by omega) (by omega) (fun d _ _ => bX (fun _ => fO hb (by dsimp only; omega) (by dsimp only; omega) (by omega) (fun e e0 e1 => ?_)) (fun _ => tl x.f0 _ o2 (by dsimp only; omega) (by dsimp only; omega)))
    dsimp only
    refine eC (oI hb (q := q2 + 1 + 1 + 1) (by omega) (by omega) h) (fun t3 ht3 => ?_)
    obtain ⟨x3, b3, q3⟩ := t3
    obtain ⟨e3, g5, g6⟩ := ht3
    dsimp only at e3 g5 g6
    subst e3
    exact aY e0 (aY (e1 (by omega)) (tl _ _ (by rw [List.length_set]; exact o2) (by dsimp only; omega) (by dsimp only; omega)))
theorem aBN {b : List Int} (hb : iD b) {q : Int} (h0 : 0 ≤ q) (hq : q ≤ 900000) {s : List ByteArray} {f : List aF} {p : List aB} {v : List aA} (h : PD 1 s f p v) :
    ExP (fun k => eU.f k b q s f p v) (fun t : List ByteArray × List Int × Int => t.1.length ≤ 20 ∧ t.2.1 = b ∧ 0 ≤ t.2.2 ∧ t.2.2 ≤ q + 22) := by
  have hl := h.lv
  unfold eU.f
  have key := fN cH v (P := fun i r => ∀ (acc : List ByteArray) (q' : Int), acc.length ≤ i → q ≤ q' → q' ≤ q + i → ExP (fun k => eU.l0 k v acc (i : Int) b q') (fun t : List ByteArray × List Int × Int => t.1.length ≤ 20 ∧ t.2.1 = b ∧ 0 ≤ t.2.2 ∧ t.2.2 ≤ q + 22))
    (fun acc q' ha g0 g1 => ?_) (fun i y r hi hx _ _ ih acc q' ha g0 g1 => ?_)
  · exact key [] q (Nat.zero_le _) (by omega) (by omega)
  · refine bY (fun k => by rw [eU.l0]) (dN (by omega) (fO hb (by omega) (by omega) (by omega) (fun a _ _ => ?_)))
    dsimp only
    refine bX (fun _ => ?_) (fun _ => cP ⟨by dsimp only; omega, rfl, by dsimp only; omega, by dsimp only; omega⟩)
    exact jO hb (by omega) (by omega) (by decide) (by decide) (fun w hw => kX hw (by decide)) (fun w _ => aY (by omega) (cP ⟨by dsimp only; rw [List.length_append, List.length_singleton]; omega, rfl, by dsimp only; omega, by dsimp only; omega⟩))
  · refine bY (fun k => by rw [eU.l0]) (aY (by omega) (fO hb (by omega) (by omega) (by omega) (fun a _ _ => ?_)))
    dsimp only
    rw [dU hi (by omega)]
    exact bX (fun _ => aY (by omega) (aY (by omega) (ih _ _ (by rw [List.length_append, List.length_singleton]; omega) (by omega) (by push_cast; omega)))) (fun _ => ih _ _ (by omega) (by omega) (by push_cast; omega))
def lB (s : List ByteArray) (f : List aF) (p : List aB) (v : List aA) (P V : List ByteArray) : List ByteArray := if (fT s f p v && fZ p v P V) = true then fP v P V else []
theorem qK (s : List ByteArray) (f : List aF) (p : List aB) (v : List aA) (P V : List ByteArray) : (lB s f p v P V).length ≤ 18 := by
  unfold lB
  split
  · rename_i c
    simp only [Bool.and_eq_true] at c
    have := pN c.1
    have hf := List.length_filter_le (gdB P V) v
    unfold fP; rw [List.length_map]; omega
  · exact Nat.zero_le _
theorem uO {s : List ByteArray} {f : List aF} {p : List aB} {v : List aA} (h : PD 1 s f p v) (P V : List ByteArray) (hP : P.length ≤ 1000) (hV : V.length ≤ 1000) : Ev (fun k => bC.f k s f p v P V) (lB s f p v P V) := by
  obtain ⟨ls, lf, lp, lv, s1, f1, p1, v1⟩ := h
  have hS := kY s f p v (by omega) (by omega) (by omega) (by omega)
  have eR := pE s f p v P V (by omega) (by omega) (by omega)
  unfold bC.f lB
  refine Ev.bind hS ?_
  cases b : fT s f p v
  · exact cJ (by simp) (bI rfl)
  · rw [rT b] at eR
    refine aU rfl (Ev.bind eR ?_)
    cases c : fZ p v P V
    · exact cJ (by simp) (bI rfl)
    · refine aU rfl ?_
      rw [show (if (true && true) = true then fP v P V else []) = mD v V P [] by rw [xS (jY b).2.2.2]; rfl]
      exact tH _ _ _ _ _ _ (pN b) (qQ b P V c) (by omega)
theorem aBC {s : List ByteArray} {f : List aF} {p : List aB} {v : List aA} (h : PD 1 s f p v) (P V : List ByteArray) (hP : P.length ≤ 1000) (hV : V.length ≤ 1000) : Ev (fun k => gE.f k s f p v P V) (lB s f p v P V) := by
  obtain ⟨ls, lf, lp, lv, s1, f1, p1, v1⟩ := h
  have hI := pC s f p v ⟨by omega, by omega, by omega, by omega, fun x hx => by have := s1 x hx; omega, fun x hx => by have := f1 x hx; omega, fun x hx => by have := p1 x hx; omega, fun x hx => by have := v1 x hx; omega⟩
  have eR := sO s f p v P V (by omega) (by omega) (by omega)
  unfold gE.f lB
  refine Ev.bind hI ?_
  cases b : fT s f p v
  · exact cJ (by simp) (bI rfl)
  · refine aU rfl (Ev.bind eR ?_)
    cases c : fZ p v P V
    · exact cJ (by simp) (bI rfl)
    · exact aU rfl (Ev.bind (aBF _ _ _ _ _ _ (by omega) (by omega) (by omega)) (bI rfl))
abbrev TAl := List ByteArray × List aF × List aB × List aA × List ByteArray × List ByteArray × List ByteArray
def QAl (t : TAl) : Prop := PD 1 t.1 t.2.1 t.2.2.1 t.2.2.2.1 ∧ t.2.2.2.2.1.length ≤ 40 ∧ t.2.2.2.2.2.1.length ≤ 16 ∧ t.2.2.2.2.2.2.length ≤ 16
theorem vK (x : List Int) (h : ∀ z ∈ x, (Lit.int .u8 z).wf = true) : ExP (fun k => bA.f k x) QAl := by
  obtain ⟨b, hb, e⟩ := aFO x (aCJ h)
  unfold bA.f
  refine eE e ?_
  dsimp only
  refine eC (aDW hb) (fun t ht => ?_)
  obtain ⟨s, f, p, v, b0, q⟩ := t
  obtain ⟨hp, e0, g0, g1⟩ := ht
  dsimp only at hp e0 g0 g1
  subst e0
  dsimp only
  refine eC (tC hb hp 6 0 q rfl g0 (by omega)) (fun t ht => ?_)
  obtain ⟨P, V, b1, q1⟩ := t
  obtain ⟨hP, hV, e1, g2, g3⟩ := ht
  dsimp only at hP hV e1 g2 g3
  subst e1
  dsimp only
  refine eC (aBN hb g2 (by omega) hp) (fun t ht => ?_)
  obtain ⟨o, b2, q2⟩ := t
  obtain ⟨ho, e2, g4, g5⟩ := ht
  dsimp only at ho e2 g4 g5
  subst e2
  dsimp only
  have hG := uO hp P V (by omega) (by omega)
  have gl := qK s f p v P V
  generalize lB s f p v P V = G at hG gl
  have L0 : ExP (fun k => bA.l0 k x [] 0 (s, f, p, v, b2, q) (P, V, b2, q1) (o, b2, q2) G) QAl := by
    have hl : (o ++ V).length ≤ 36 := by rw [List.length_append]; omega
    have hll : o.length + V.length = (o ++ V).length := List.length_append.symm
    have key := fN ByteArray.empty (o ++ V) (P := fun i r => ∀ acc : List ByteArray, acc.length ≤ i → ExP (fun k => bA.l0 k x acc (i : Int) (s, f, p, v, b2, q) (P, V, b2, q1) (o, b2, q2) G) QAl)
      (fun acc ha => by
        refine bY (fun k => by rw [bA.l0]) (dN (by dsimp only; omega) (cP ⟨hp, by dsimp only; omega, hP, hV⟩))) (fun i y r hi hx _ _ ih acc ha => ?_)
    · exact key [] (Nat.zero_le _)
    refine bY (fun k => by rw [bA.l0]) (aY (by dsimp only; omega) (aY (by omega) (fK (iN G _ (by omega)) ?_)))
    rw [dU hi (by omega)]
    exact bX (fun _ => ih _ (by omega)) (fun _ => aY (by omega) (ih _ (by rw [List.length_append, List.length_singleton]; omega)))
  have L1 : ExP (fun k => bA.l1 k [] 0 (s, f, p, v, b2, q) (P, V, b2, q1) (o, b2, q2) G) QAl := by
    have key := fN ByteArray.empty o (P := fun i r => ∀ acc : List ByteArray, acc.length ≤ i → ExP (fun k => bA.l1 k acc (i : Int) (s, f, p, v, b2, q) (P, V, b2, q1) (o, b2, q2) G) QAl)
      (fun acc ha => by
        refine bY (fun k => by rw [bA.l1]) (dN (by dsimp only; omega) (cP ⟨hp, by dsimp only; omega, hP, hV⟩))) (fun i y r hi hx _ _ ih acc ha => ?_)
    · exact key [] (Nat.zero_le _)
    refine bY (fun k => by rw [bA.l1]) (aY (by dsimp only; omega) (aY (by omega) (fK (iN G _ (by omega)) ?_)))
    rw [dU hi (by omega)]
    exact bX (fun _ => ih _ (by omega)) (fun _ => aY (by omega) (ih _ (by rw [List.length_append, List.length_singleton]; omega)))
  refine fO hb g4 (by omega) (by omega) (fun a _ _ => ?_)
  dsimp only
  refine bX (fun _ => aY (by omega) (fO hb (by omega) (by omega) (by omega) (fun d _ _ => ?_))) (fun _ => fO hb (by omega) (by omega) (by omega) (fun d _ _ => ?_))
  · dsimp only
    exact bX (fun _ => fK hG L0) (fun _ => cP ⟨hp, by dsimp only; rw [List.length_append]; omega, hP, hV⟩)
  · dsimp only
    exact bX (fun _ => fK hG L1) (fun _ => cP ⟨hp, by dsimp only; omega, hP, hV⟩)
/-! ### the law's own words -/
theorem zB (l : List ByteArray) (hl : l.length ≤ 140737488351232) : Ev (fun k => eM.f k l l) true := by
  unfold eM.f
  refine aU rfl (fN ByteArray.empty l (P := fun i r => Ev (fun k => eM.l0 k l l (i : Int)) true)
    (by refine Ev.step (fun k => by rw [eM.l0]) ?_; exact cJ (by omega) (bI rfl)) (fun i y r hi hx hm _ ih => ?_))
  refine Ev.step (fun k => by rw [eM.l0]) (aU (by omega) (aU (by omega) (aU (by omega) (aU rfl ?_))))
  rw [dU hi (by omega)]; exact ih
theorem nI (l : List ByteArray) (a : ByteArray) (hl : l.length ≤ 140737488351232) : Ev (fun k => dT.f k l a) (dZ l a) := by
  unfold dT.f dZ
  refine fN ByteArray.empty l (P := fun i r => Ev (fun k => dT.l0 k l a (i : Int)) (r.any fun x => decide (x = a)))
    (by refine Ev.step (fun k => by rw [dT.l0]) ?_; exact cJ (by omega) (bI rfl)) (fun i y r hi hx hm _ ih => ?_)
  refine Ev.step (fun k => by rw [dT.l0]) (aU (by omega) (aU (by omega) ?_))
  rw [dU hi (by omega), dX, hx, List.any_cons]
  exact cB (fun c => bI (by rw [decide_eq_true (cR.1 c)]; rfl)) (fun c => fQ ih (by rw [decide_eq_false (fun e => c (cR.2 e))]; rfl))
theorem yB (y : aB) (r : List aB) (x : ByteArray) : iR (y :: r) x = if y.f0 = x then y.f1 else iR r x := by
  unfold iR
  rw [show dP (y :: r) x = (decide (y.f0 = x) || dP r x) from rfl, show gA x (y :: r) = if y.f0 = x then (y.f0, y.f1, y.f2, true) else gA x r from rfl]
  by_cases c : y.f0 = x
  · rw [if_pos c, if_pos c, decide_eq_true c]; rfl
  · rw [if_neg c, if_neg c, decide_eq_false c, Bool.false_or]
theorem aCV (s : List ByteArray) (f : List aF) (p : List aB) (v : List aA) (x : ByteArray) (hp : p.length ≤ 140737488351232) : Ev (fun k => fH.f k s f p v x) (iR p x) := by
  unfold fH.f
  refine fN dQ p (P := fun i r => Ev (fun k => fH.l0 k p x (i : Int)) (iR r x))
    (by refine Ev.step (fun k => by rw [fH.l0]) ?_; exact cJ (by omega) (bI rfl)) (fun i y r hi hx hm _ ih => ?_)
  refine Ev.step (fun k => by rw [fH.l0]) (aU (by omega) (aU (by omega) ?_))
  rw [dU hi (by omega), rdP, hx, yB]
  exact cB (fun c => bI (by rw [if_pos (cR.1 c)])) (fun c => fQ ih (by rw [if_neg (fun e => c (cR.2 e))]))
def stJ (w a b : ByteArray) (y : aA) : Bool := decide (y.f0 = w) && ((decide (y.f1 = a) && decide (y.f2 = b)) || (decide (y.f2 = a) && decide (y.f1 = b)))
def dW (v : List aA) (P V : List ByteArray) (j : Nat) : Bool := v.any (stJ (V.getD j ByteArray.empty) (P.getD j ByteArray.empty) (P.getD (j + 1) ByteArray.empty))
def cW (p : List aB) (P : List ByteArray) (j : Nat) : Bool :=
  decide (0 ≤ iR p (P.getD j ByteArray.empty)) && (((decide (j = 0) || decide (j = P.length - 1)) == decide (iR p (P.getD j ByteArray.empty) > 0)) && !dZ (P.take j) (P.getD j ByteArray.empty))
theorem aIG (v : List aA) (P V : List ByteArray) (hv : v.length ≤ 1000) (hP : P.length ≤ 1000) (hV : V.length = P.length - 1) (i : Nat) (hi : i < P.length - 1) {R : Bool} (hR : Ev (fun k => bH.l1 k v P V ((i + 1 : Nat) : Int)) R) :
    Ev (fun k => bH.l2 k v P V (i : Int) false 0) (dW v P V i && R) := by
  unfold dW
  generalize ha : P.getD i ByteArray.empty = a
  generalize hb : P.getD (i + 1) ByteArray.empty = b
  generalize hw : V.getD i ByteArray.empty = w
  have hs : wrap64 ((i : Int) + 1) = ((i + 1 : Nat) : Int) := dU (n := 10000) (by omega) (by omega)
  have key := fN cH v (P := fun j r => ∀ B : Bool, Ev (fun k => bH.l2 k v P V (i : Int) B (j : Int)) ((B || r.any (stJ w a b)) && R))
    (fun B => by
      refine Ev.step (fun k => by rw [bH.l2]) (cJ (by omega) ?_)
      rw [hs]
      cases B
      · exact cJ (by simp) (bI (by simp))
      · exact aU rfl (fQ hR (by simp))) (fun j y r hj hx _ _ ih B => ?_)
  · exact key false
  refine Ev.step (fun k => by rw [bH.l2]) (aU (by omega) (aU (by omega) ?_))
  rw [dU hj (by omega), hs, rdV, hx, dX, dX, dX, ha, hb, hw]
  cases B
  rotate_left
  · exact aU rfl (fQ (ih true) (by simp))
  refine cJ (by simp) (aU (by omega) (aU (by omega) ?_))
  have go : ∀ C : Bool, C = stJ w a b y → Ev (fun k => bH.l2 k v P V (i : Int) C ((j + 1 : Nat) : Int)) ((false || (y :: r).any (stJ w a b)) && R) := fun C hC => fQ (ih C) (by rw [hC, List.any_cons, Bool.false_or])
  refine cB (fun c0 => aU (by omega) ?_) (fun c0 => go false ?_)
  rotate_left
  · simp only [stJ, decide_eq_false (fun e => c0 (cR.2 e)), Bool.false_and]
  have c0 := cR.1 c0
  refine cB (fun c1 => aU (by omega) (aU (by omega) (cB (fun c2 => go true ?_) (fun c2 => cB (fun c3 => go _ ?_) (fun c3 => go false ?_))))) (fun c1 => cB (fun c3 => aU (by omega) (aU (by omega) (go _ ?_))) (fun c3 => go false ?_))
  · simp only [stJ, decide_eq_true c0, decide_eq_true (cR.1 c1), decide_eq_true (cR.1 c2), Bool.true_and, Bool.true_or]
  · simp only [stJ, decide_eq_true c0, decide_eq_false (fun e => c2 (cR.2 e)), decide_eq_true (cR.1 c3), Bool.true_and, Bool.and_false, Bool.false_or]
    exact decide_eq_decide.2 cR
  · simp only [stJ, decide_eq_true c0, decide_eq_false (fun e => c2 (cR.2 e)), decide_eq_false (fun e => c3 (cR.2 e)), Bool.true_and, Bool.and_false, Bool.false_or, Bool.false_and]
  · simp only [stJ, decide_eq_true c0, decide_eq_false (fun e => c1 (cR.2 e)), decide_eq_true (cR.1 c3), Bool.true_and, Bool.false_and, Bool.false_or]
    exact decide_eq_decide.2 cR
  · simp only [stJ, decide_eq_true c0, decide_eq_false (fun e => c1 (cR.2 e)), decide_eq_false (fun e => c3 (cR.2 e)), Bool.true_and, Bool.false_and, Bool.false_or]
theorem yO (s : List ByteArray) (f : List aF) (p : List aB) (v : List aA) (P V : List ByteArray) (hS : Ev (fun k => eZ.f k s f p v) (fT s f p v)) (hp : p.length ≤ 1000) (hv : v.length ≤ 1000) (hP : P.length ≤ 1000) :
    Ev (fun k => bH.f k s f p v P V) (fT s f p v && (decide (2 ≤ P.length ∧ V.length = P.length - 1) && (kH (cW p P) P.length 0 && kH (dW v P V) (P.length - 1) 0))) := by
  unfold bH.f
  refine Ev.bind hS (gH (fun b => ?_) (fun b => bI (by rw [b]; rfl)))
  rw [b, Bool.true_and]
  refine cB (fun c => bI (by rw [decide_eq_false (by omega)]; rfl)) (fun c => ?_)
  have hw : wrap64 ((P.length : Int) - 1) = ((P.length - 1 : Nat) : Int) := by unfold wrap64; omega
  rw [hw]
  refine cB (fun d => ?_) (fun d => bI (by rw [decide_eq_false (by omega)]; rfl))
  rw [decide_eq_true (by omega : 2 ≤ P.length ∧ V.length = P.length - 1), Bool.true_and]
  have L1 : Ev (fun k => bH.l1 k v P V 0) (kH (dW v P V) (P.length - 1) 0) := by
    refine oZ (P.length - 1) (P := fun i => Ev (fun k => bH.l1 k v P V (i : Int)) (kH (dW v P V) (P.length - 1) i))
      (by refine Ev.step (fun k => by rw [bH.l1]) ?_; rw [hw]; exact cJ (by omega) (bI (mX _ _ _ (Nat.le_refl _)).symm)) (fun i hi ih => ?_)
    rw [mK _ _ _ hi]
    refine Ev.step (fun k => by rw [bH.l1]) ?_
    rw [hw]
    exact aU (by omega) (aIG v P V hv hP (by omega) i hi ih)
  generalize kH (dW v P V) (P.length - 1) 0 = T at L1 ⊢
  refine oZ P.length (P := fun i => Ev (fun k => bH.l0 k s f p v P V (i : Int)) (kH (cW p P) P.length i && T))
    (by refine Ev.step (fun k => by rw [bH.l0]) ?_; exact cJ (by omega) (fQ L1 (by rw [mX _ _ _ (Nat.le_refl _)]; rfl))) (fun i hi ih => ?_)
  rw [mK _ _ _ hi]
  generalize kH (cW p P) P.length (i + 1) = R at ih ⊢
  refine Ev.step (fun k => by rw [bH.l0]) (aU (by omega) (aU (by omega) ?_))
  rw [dU hi (by omega), dX, hw, Int.toNat_natCast]
  have hh := nI (P.take i) (P.getD i ByteArray.empty) (by rw [List.length_take]; omega)
  refine Ev.bind (aCV s f p v _ (by omega)) ?_
  unfold cW
  generalize iR p (P.getD i ByteArray.empty) = C
  generalize dZ (P.take i) (P.getD i ByteArray.empty) = H at hh ⊢
  refine cB (fun c1 => bI (by rw [decide_eq_false (by omega : ¬ 0 ≤ C)]; rfl)) (fun c1 => ?_)
  rw [decide_eq_true (by omega : 0 ≤ C), Bool.true_and]
  refine cB (fun c2 => ?_) (fun c2 => ?_)
  · rw [decide_eq_true (by omega : i = 0), Bool.true_or]
    refine gH (fun c3 => bI ?_) (fun c3 => aU (by omega) (Ev.bind hh (gH (fun c4 => bI ?_) (fun c4 => fQ ih ?_))))
    all_goals (clear ih hh L1; generalize decide (C > 0) = E at *; subst_vars; revert c3; cases E <;> cases R <;> cases T <;> simp)
  · rw [decide_eq_false (by omega : ¬ i = 0), show decide ((i : Int) = ((P.length - 1 : Nat) : Int)) = decide (i = P.length - 1) from decide_eq_decide.2 (by omega), Bool.false_or]
    generalize decide (i = P.length - 1) = D
    refine gH (fun c3 => bI ?_) (fun c3 => aU (by omega) (Ev.bind hh (gH (fun c4 => bI ?_) (fun c4 => fQ ih ?_))))
    all_goals (clear ih hh L1; generalize decide (C > 0) = E at *; subst_vars; revert c3; cases D <;> cases E <;> cases R <;> cases T <;> simp)
theorem qA {v : List aA} (h : cZ iL none v = true) : ∀ y ∈ v, ∀ z ∈ v, y.f0 = z.f0 → y = z := by
  have hp := sN (p := iL) (fun _ _ _ h k => lt_trans h k) v h
  clear h
  induction v with
  | nil => intro y hy; cases hy
  | cons x v ih =>
    obtain ⟨h1, h2⟩ := List.pairwise_cons.1 hp
    intro y hy z hz e
    rcases List.mem_cons.1 hy with ey | hy <;> rcases List.mem_cons.1 hz with ez | hz
    · rw [ey, ez]
    · rw [ey] at e; exact absurd e (rS (h1 z hz))
    · rw [ez] at e; exact absurd e.symm (rS (h1 y hy))
    · exact ih h2 y hy z hz e
theorem rI {a b : ByteArray} (h : lt a b = true) : (mnS a b = a ∧ mxS a b = b) ∧ mnS b a = a ∧ mxS b a = b := by
  have h2 := kZ h
  unfold lt at h h2
  simp [mnS, mxS, h, h2]
theorem aID {s : List ByteArray} {f : List aF} {p : List aB} {v : List aA} (h : fT s f p v = true) (P V : List ByteArray) (j : Nat) : dW v P V j = dI v P V j := by
  obtain ⟨_, _, hv, hch⟩ := jY h
  unfold dW dI sE
  generalize P.getD j ByteArray.empty = a
  generalize P.getD (j + 1) ByteArray.empty = b
  generalize V.getD j ByteArray.empty = w
  have hone := qA hch
  rw [Bool.eq_iff_iff]
  constructor
  · intro q
    obtain ⟨y, hy, hs⟩ := List.any_eq_true.1 q
    simp only [stJ, Bool.and_eq_true, Bool.or_eq_true, decide_eq_true_eq] at hs
    obtain ⟨e0, hs⟩ := hs
    have hlt := hv y hy
    simp only [jW, Bool.and_eq_true] at hlt
    have hlt := hlt.2.1
    have hf : gG w v = some y := by
      unfold gG
      cases hq : v.find? (fun y => decide (y.f0 = w)) with
      | none => have := List.find?_eq_none.1 hq y hy; simp [e0] at this
      | some z =>
        have h1 := List.find?_some hq
        have h1 := of_decide_eq_true h1
        rw [hone z (List.mem_of_find?_eq_some hq) y hy (h1.trans e0.symm)]
    rw [hf]
    simp only [Bool.and_eq_true, decide_eq_true_eq]
    rcases hs with ⟨e1, e2⟩ | ⟨e1, e2⟩
    · rw [e1, e2] at hlt; exact ⟨e1.trans (rI hlt).1.1.symm, e2.trans (rI hlt).1.2.symm⟩
    · rw [e1, e2] at hlt; exact ⟨e2.trans (rI hlt).2.1.symm, e1.trans (rI hlt).2.2.symm⟩
  · intro q
    cases hf : gG w v with
    | none => rw [hf] at q; cases q
    | some y =>
      rw [hf] at q
      simp only [Bool.and_eq_true, decide_eq_true_eq] at q
      unfold gG at hf
      have h1 := List.find?_some hf
      have h1 := of_decide_eq_true h1
      refine List.any_eq_true.2 ⟨y, List.mem_of_find?_eq_some hf, ?_⟩
      simp only [stJ, Bool.and_eq_true, Bool.or_eq_true, decide_eq_true_eq]
      rcases aHB a b with ⟨g1, g2⟩ | ⟨g1, g2⟩
      · exact ⟨h1, .inl ⟨q.1.trans g1, q.2.trans g2⟩⟩
      · exact ⟨h1, .inr ⟨q.2.trans g2, q.1.trans g1⟩⟩
theorem wM {s : List ByteArray} {f : List aF} {p : List aB} {v : List aA} (h : fT s f p v = true) (P V : List ByteArray) :
    (decide (2 ≤ P.length ∧ V.length = P.length - 1) && (kH (cW p P) P.length 0 && kH (dW v P V) (P.length - 1) 0)) = fZ p v P V := by
  unfold fZ
  by_cases d : 2 ≤ P.length ∧ V.length = P.length - 1
  rotate_left
  · rw [decide_eq_false d]; rfl
  rw [d.2, show dW v P V = dI v P V from funext fun j => aID h P V j, show cW p P = cI p P from funext fun j => ?_]
  unfold cW cI
  obtain ⟨c1, c2⟩ := uT h (P.getD j ByteArray.empty)
  cases q : dP p (P.getD j ByteArray.empty) with
  | false => rw [decide_eq_false (fun e => by rw [c1.1 e] at q; cases q)]; rfl
  | true =>
    rw [decide_eq_true (c1.2 q), (c2 q).1]
    congr 2
    exact Bool.beq_comm
/-! ### a route that is open alone, with guards shut and open -/
def vO (o : List ByteArray) (v : List aA) (S : ByteArray → Prop) : Prop := ∀ y ∈ v, dZ o y.f0 = true → (S y.f1 ↔ S y.f2)
theorem xH (o : List ByteArray) (S : ByteArray → Prop) : ∀ (v : List aA) (a : List ByteArray × Bool), vO o v S → (∀ x ∈ a.1, S x) → ∀ x ∈ (gD o v a).1, S x
  | [], a, _, h => h
  | y :: v, a, hc, h => by
    rw [jS]
    refine xH o S v _ (fun z hz => hc z (List.mem_cons_of_mem _ hz)) ?_
    unfold gR
    split
    · rename_i c
      rw [Bool.and_eq_true] at c
      have hy := hc y (List.mem_cons_self ..) c.1
      have both : S y.f1 ∧ S y.f2 := by
        cases h1 : dZ a.1 y.f1 with
        | true => have := h _ (eK.1 h1); exact ⟨this, hy.1 this⟩
        | false => cases h2 : dZ a.1 y.f2 with
          | true => have := h _ (eK.1 h2); exact ⟨hy.2 this, this⟩
          | false => rw [h1, h2] at c; exact absurd c.2 (by decide)
      intro x hx
      rcases (gL _ _ _).1 hx with rfl | hx
      · exact both.2
      · rcases (gL _ _ _).1 hx with rfl | hx
        · exact both.1
        · exact h x hx
    · exact h
theorem zM (o : List ByteArray) (v : List aA) (S : ByteArray → Prop) (hc : vO o v S) : ∀ (n : Nat) (l : List ByteArray), (∀ x ∈ l, S x) → ∀ x ∈ mL o v n l, S x
  | 0, _, h => h
  | n + 1, l, h => zM o v S hc n _ (xH o S v (l, false) hc h)
def mU (s : List ByteArray) (f : List aF) (p : List aB) (v : List aA) (o P V : List ByteArray) : Bool :=
  fT s f p v && (fZ p v P V && (V.all (dZ o) && decide ((iB o p v (P.getD 0 ByteArray.empty)).length = P.length)))
theorem mH {p : List aB} {v : List aA} {P V : List ByteArray} (c : fZ p v P V = true) : 2 ≤ P.length ∧ V.length = P.length - 1 := by
  unfold fZ at c
  simp only [Bool.and_eq_true, decide_eq_true_eq] at c
  exact c.1
theorem lV {p : List aB} {v : List aA} {P V : List ByteArray} (c : fZ p v P V = true) : dP p (P.getD 0 ByteArray.empty) = true := by
  have h2 := (mH c).1
  unfold fZ at c
  simp only [Bool.and_eq_true, lM, decide_eq_true_eq] at c
  have := c.2.1 0 (by omega)
  simp only [cI, Bool.and_eq_true] at this
  exact this.1
theorem qJ {p : List aB} {v : List aA} {P V : List ByteArray} (c : fZ p v P V = true) : P.getD 0 ByteArray.empty ∈ p.map (·.f0) := by
  obtain ⟨w, hw, e⟩ := mR (lV c)
  exact List.mem_map.2 ⟨w, hw, e⟩
theorem vC {s : List ByteArray} {f : List aF} {p : List aB} {v : List aA} (h : PD 1 s f p v) (o P V : List ByteArray) (ho : o.length ≤ 1000) (hP : P.length ≤ 1000) (hV : V.length ≤ 1000) : Ev (fun k => dH.f k s f p v o P V) (mU s f p v o P V) := by
  obtain ⟨ls, lf, lp, lv, s1, f1, p1, v1⟩ := h
  have hS := kY s f p v (by omega) (by omega) (by omega) (by omega)
  unfold dH.f mU
  refine Ev.bind hS ?_
  cases b : fT s f p v
  · exact cJ (by simp) (bI rfl)
  · refine aU rfl (Ev.bind (pE s f p v P V (by omega) (by omega) (by omega)) ?_)
    rw [rT b P V]
    refine gH (fun c => ?_) (fun c => bI (by rw [c]; rfl))
    rw [c]
    have hP2 := (mH c).1
    have hp := pJ b
    have hv := pN b
    have eG := vD s f p v o (P.getD 0 ByteArray.empty) (by omega) (by omega) (by omega) (qJ c) (lR b)
    have hGl := (pM (x := P.getD 0 ByteArray.empty) b o (lV c)).2.1
    rw [Bool.true_and, Bool.true_and]
    generalize iB o p v (P.getD 0 ByteArray.empty) = G at *
    refine fN ByteArray.empty V (P := fun i r => Ev (fun k => dH.l0 k s f p v o P V (i : Int)) (r.all (dZ o) && decide (G.length = P.length))) ?_ (fun i z r hi hz _ _ ih => ?_)
    · refine Ev.step (fun k => by rw [dH.l0]) (cJ (by omega) (aU (by omega) ?_))
      rw [show bE ByteArray.empty P 0 = P.getD 0 ByteArray.empty from dX ByteArray.empty P 0]
      exact Ev.bind eG (bI (by show _ = (true && _); rw [Bool.true_and]; exact decide_eq_decide.2 (by omega)))
    · refine Ev.step (fun k => by rw [dH.l0]) (aU (by omega) (aU (by omega) ?_))
      rw [dU hi (by omega), dX, hz, List.all_cons]
      exact Ev.bind (iN o z (by omega)) (gH (fun d => fQ ih (by rw [d]; rfl)) (fun d => bI (by rw [d]; rfl)))
theorem pF {s : List ByteArray} {f : List aF} {p : List aB} {v : List aA} (h : PD 1 s f p v) (o P V : List ByteArray) (ho : o.length ≤ 1000) (hP : P.length ≤ 1000) (hV : V.length ≤ 1000) : Ev (fun k => fJ.f k s f p v o P V) (mU s f p v o P V) := by
  obtain ⟨ls, lf, lp, lv, s1, f1, p1, v1⟩ := h
  have hI := pC s f p v ⟨by omega, by omega, by omega, by omega, fun x hx => by have := s1 x hx; omega, fun x hx => by have := f1 x hx; omega, fun x hx => by have := p1 x hx; omega, fun x hx => by have := v1 x hx; omega⟩
  unfold fJ.f mU
  refine Ev.bind hI ?_
  cases b : fT s f p v
  · exact cJ (by simp) (bI rfl)
  · refine aU rfl (Ev.bind (sO s f p v P V (by omega) (by omega) (by omega)) (gH (fun c => ?_) (fun c => bI (by rw [c]; rfl))))
    rw [c]
    have hP2 := (mH c).1
    have hPh := lV c
    have hp := pJ b
    have hv := pN b
    have hP14 := qQ b P V c
    have eG := vA s f p v o (P.getD 0 ByteArray.empty) (by omega) (by omega) (by omega) (lR b)
    rw [if_pos hPh] at eG
    have eW := aAJ [] P oK (by rw [List.length_nil]; omega)
    have hGl := (pM (x := P.getD 0 ByteArray.empty) b o hPh).2.1
    rw [Bool.true_and, Bool.true_and]
    refine Ev.bind (aAZ V o (by omega) (by omega)) (gH (fun d => ?_) (fun d => bI (by rw [d]; rfl)))
    rw [d, Bool.true_and, ← sJ b c d]
    refine aU (by omega) ?_
    rw [show bE ByteArray.empty P 0 = P.getD 0 ByteArray.empty from dX ByteArray.empty P 0]
    exact Ev.bind eG (Ev.bind eW (Ev.bind (xZ _ _ (by omega)) (bI rfl)))
section
variable {s : List ByteArray} {f : List aF} {p : List aB} {v : List aA} (hb : fT s f p v = true) {P V : List ByteArray} (hr : fZ p v P V = true)
include hb hr in
/-- the group of a route that is open holds its places, and goes on by open valves -/
theorem uR {o : List ByteArray} (ho : V.all (dZ o) = true) : (∀ z ∈ P, z ∈ iB o p v (P.getD 0 ByteArray.empty)) ∧ (∀ y ∈ v, dZ o y.f0 = true → dZ (iB o p v (P.getD 0 ByteArray.empty)) y.f1 = dZ (iB o p v (P.getD 0 ByteArray.empty)) y.f2) := by
  have hend := pS o (p.map (·.f0)) v (lR hb) p.length [P.getD 0 ByteArray.empty] (by rw [List.length_map]; simp) (List.pairwise_singleton _ _) (fun z hz => by rw [List.mem_singleton] at hz; subst hz; exact qJ hr)
  have h0 : P.getD 0 ByteArray.empty ∈ iB o p v (P.getD 0 ByteArray.empty) := pW o v _ p.length _ (List.mem_singleton.2 rfl)
  have each := oE o v _ hend
  have hin := xR hr ho (iB o p v (P.getD 0 ByteArray.empty)) h0 each
  refine ⟨fun z hz => ?_, each⟩
  obtain ⟨i, hi, rfl⟩ := List.getElem_of_mem hz
  have := hin i hi
  rwa [jB _ P i hi] at this
include hb hr in
theorem uL {o : List ByteArray} (ho : V.all (dZ o) = true) : mU s f p v o P V = true ↔ ∀ z ∈ iB o p v (P.getD 0 ByteArray.empty), z ∈ P := by
  unfold mU
  rw [hb, hr, ho, Bool.true_and, Bool.true_and, Bool.true_and, ← sJ hb hr ho, decide_eq_true_iff]
  have wm : ∀ z, z ∈ qG [] P ↔ z ∈ P := fun z => by rw [pK]; simp
  constructor
  · intro e z hz; rw [e] at hz; exact (wm z).1 hz
  · intro k
    exact lQ _ _ (pM hb o (lV hr)).1 (lX P [] oK) (fun z => ⟨fun hz => (wm z).2 (k z hz), fun hz => (uR hb hr ho).1 z ((wm z).1 hz)⟩)
include hr in
/-- if a route's places are closed, it is alone -/
theorem aCO {o : List ByteArray} (hc : vO o v (· ∈ P)) : ∀ z ∈ iB o p v (P.getD 0 ByteArray.empty), z ∈ P :=
  zM o v (· ∈ P) hc p.length [P.getD 0 ByteArray.empty] (fun x hx => by rw [List.mem_singleton] at hx; subst hx; exact iO _ _ 0 (by have := (mH hr).1; omega))
include hb hr in
/-- a route's valves lie between its places -/
theorem tM {y : aA} (hy : y ∈ v) (hV : y.f0 ∈ V) : y.f1 ∈ P ∧ y.f2 ∈ P := by
  have hl := mH hr
  have hone := qA (jY hb).2.2.2
  have hr2 := hr
  unfold fZ at hr2
  simp only [Bool.and_eq_true, lM, decide_eq_true_eq] at hr2
  obtain ⟨j, hj, e⟩ := List.getElem_of_mem hV
  have hd := hr2.2.2 j hj
  unfold dI sE at hd
  rw [jB _ V j hj, e] at hd
  cases q : gG y.f0 v with
  | none => rw [q] at hd; cases hd
  | some z =>
    rw [q] at hd
    simp only [Bool.and_eq_true, decide_eq_true_eq] at hd
    unfold gG at q
    have h1 := List.find?_some q
    have h1 := of_decide_eq_true h1
    have hz := hone z (List.mem_of_find?_eq_some q) y hy h1
    subst hz
    have a1 : P.getD j ByteArray.empty ∈ P := iO _ _ j (by omega)
    have a2 : P.getD (j + 1) ByteArray.empty ∈ P := iO _ _ (j + 1) (by omega)
    rw [hd.1, hd.2]
    rcases aHB (P.getD j ByteArray.empty) (P.getD (j + 1) ByteArray.empty) with ⟨g1, g2⟩ | ⟨g1, g2⟩
    · rw [g1, g2]; exact ⟨a1, a2⟩
    · rw [g1, g2]; exact ⟨a2, a1⟩
include hb hr in
/-- an open valve that is no guard does not leave the route -/
theorem wT {y : aA} (hy : y ∈ v) (hg : y.f0 ∉ fP v P V) : y.f1 ∈ P ↔ y.f2 ∈ P := by
  by_cases hV : y.f0 ∈ V
  · have := tM hb hr hy hV
    exact ⟨fun _ => this.2, fun _ => this.1⟩
  · have hq : gdB P V y = false := by
      rw [← Bool.not_eq_true]
      exact fun e => hg ((mO v P V _).2 ⟨y, hy, e, rfl⟩)
    have hv : dZ V y.f0 = false := by rw [← Bool.not_eq_true, eK]; exact hV
    simp only [gdB, hv, Bool.not_false, Bool.and_true, Bool.or_eq_false_iff] at hq
    have n1 : y.f1 ∉ P := fun e => by rw [eK.2 e] at hq; cases hq.1
    have n2 : y.f2 ∉ P := fun e => by rw [eK.2 e] at hq; cases hq.2
    exact ⟨fun e => absurd e n1, fun e => absurd e n2⟩
theorem uU {g : ByteArray} (h : g ∈ fP v P V) : g ∉ V := fun hg => by
  obtain ⟨y, _, h2, h3⟩ := (mO v P V g).1 h
  simp only [gdB, Bool.and_eq_true, Bool.not_eq_true'] at h2
  rw [h3, eK.2 hg] at h2; exact Bool.noConfusion h2.2
def mZ (v : List aA) (P V o : List ByteArray) : List ByteArray := V ++ o.filter fun x => !dZ (fP v P V) x
theorem wE (o w : List ByteArray) : V.all (dZ (mZ v P V o ++ w)) = true := List.all_eq_true.2 fun z hz => eK.2 (List.mem_append_left _ (List.mem_append_left _ hz))
theorem aAB {o : List ByteArray} {x : ByteArray} (h : x ∈ mZ v P V o) : x ∉ fP v P V := fun hg => by
  rcases List.mem_append.1 h with h | h
  · exact uU hg h
  · have := (List.mem_filter.1 h).2
    rw [eK.2 hg] at this; cases this
include hb hr in
theorem yP (o : List ByteArray) : mU s f p v (mZ v P V o) P V = true := by
  have ha := wE (v := v) (P := P) (V := V) o []
  rw [List.append_nil] at ha
  exact (uL hb hr ha).2 (aCO hr (fun y hy ho => wT hb hr hy (aAB (eK.1 ho))))
def rN (v : List aA) (P : List ByteArray) (g : ByteArray) : Bool := match gG g v with | none => false | some y => dZ P y.f1 && dZ P y.f2
include hb hr in
theorem wG (o : List ByteArray) {g : ByteArray} (hg : g ∈ fP v P V) : mU s f p v (mZ v P V o ++ [g]) P V = rN v P g := by
  have hone := qA (jY hb).2.2.2
  have ha := wE (v := v) (P := P) (V := V) o [g]
  obtain ⟨y, hy, h2, h3⟩ := (mO v P V g).1 hg
  have hf : gG g v = some y := by
    unfold gG
    cases hq : v.find? (fun y => decide (y.f0 = g)) with
    | none => have := List.find?_eq_none.1 hq y hy; simp [h3] at this
    | some z =>
      have h1 := List.find?_some hq
      have h1 := of_decide_eq_true h1
      rw [hone z (List.mem_of_find?_eq_some hq) y hy (h1.trans h3.symm)]
  unfold rN
  rw [hf, Bool.eq_iff_iff, uL hb hr ha]
  simp only [Bool.and_eq_true, eK]
  simp only [gdB, Bool.and_eq_true, Bool.or_eq_true, eK] at h2
  have hog : dZ (mZ v P V o ++ [g]) y.f0 = true := eK.2 (by rw [h3]; simp)
  obtain ⟨r1, r2⟩ := uR hb hr ha
  constructor
  · intro k
    have e := r2 y hy hog
    rw [Bool.eq_iff_iff, eK, eK] at e
    rcases h2.1 with q | q
    · exact ⟨q, k _ (e.1 (r1 _ q))⟩
    · exact ⟨k _ (e.2 (r1 _ q)), q⟩
  · intro k
    refine aCO hr (fun z hz hzo => ?_)
    rcases List.mem_append.1 (eK.1 hzo) with q | q
    · exact wT hb hr hz (aAB q)
    · rw [List.mem_singleton] at q
      have := hone z hz y hy (q.trans h3.symm)
      subst this
      exact ⟨fun _ => k.2, fun _ => k.1⟩
end
theorem xK (s : List ByteArray) (f : List aF) (p : List aB) (v : List aA) (g : ByteArray) (P V : List ByteArray) (hv : v.length ≤ 1000) (hP : P.length ≤ 1000) : Ev (fun k => eA.f k s f p v g P V) (rN v P g) := by
  unfold eA.f rN gG
  refine fN cH v (P := fun i r => Ev (fun k => eA.l0 k v g P (i : Int)) (match r.find? (fun y => decide (y.f0 = g)) with | none => false | some y => dZ P y.f1 && dZ P y.f2))
    (by refine Ev.step (fun k => by rw [eA.l0]) ?_; exact cJ (by omega) (bI rfl)) (fun i y r hi hx _ _ ih => ?_)
  refine Ev.step (fun k => by rw [eA.l0]) (aU (by omega) (aU (by omega) ?_))
  rw [dU hi (by omega), rdV, hx, List.find?_cons]
  refine cB (fun c => ?_) (fun c => ?_)
  · rw [decide_eq_true (cR.1 c)]
    exact Ev.bind (nI P _ (by omega)) (gH (fun d => Ev.bind (nI P _ (by omega)) (bI (by simp only [d, Bool.true_and]))) (fun d => bI (by simp only [d, Bool.false_and])))
  · rw [decide_eq_false (fun e => c (cR.2 e))]; exact ih
theorem FnPlantGuards : ∀ (x0 : List Int), ((x0.length ≤ 9223372036854775807 ∧ x0.length * 1 ≤ 140737488351232) ∧ ∀ z ∈ x0, (Lit.int .u8 z).wf = true) → ∃ k, bJ.f k x0 = some true := by
  intro x hx
  obtain ⟨⟨_, _⟩, xk⟩ := hx
  obtain ⟨⟨s, f, p, v, o, P, V⟩, hd, hp, ho, hP, hV⟩ := vK x xk
  dsimp only at hp ho hP hV
  have eI := pF hp o P V (by omega) (by omega) (by omega)
  have eS := vC hp o P V (by omega) (by omega) (by omega)
  have gI := aBC hp P V (by omega) (by omega)
  have gS := uO hp P V (by omega) (by omega)
  have gl := qK s f p v P V
  have alone := fun o' (h : o'.length ≤ 1000) => pF hp o' P V h (by omega) (by omega)
  have hlv := hp.lv
  have eW := yO s f p v P V (kY s f p v (by have := hp.ls; omega) (by have := hp.lf; omega) (by have := hp.lp; omega) (by omega)) (by have := hp.lp; omega) (by omega) (by omega)
  have hG : lB s f p v P V = if (fT s f p v && fZ p v P V) = true then fP v P V else [] := rfl
  have hA : mU s f p v o P V = (fT s f p v && (fZ p v P V && (V.all (dZ o) && decide ((iB o p v (P.getD 0 ByteArray.empty)).length = P.length)))) := rfl
  have eWn := xK s f p v
  refine Ev.rounds ?_
  unfold bJ.f
  refine cB (fun _ => bI rfl) (fun _ => Ev.bind hd ?_)
  dsimp only
  refine Ev.bind eI (Ev.bind gI (Ev.bind eS (cJ (by simp) (Ev.bind gS (Ev.bind (zB _ (by omega)) (aU rfl (Ev.bind eW ?_)))))))
  cases hb : fT s f p v with
  | false =>
    rw [hb] at hG hA
    refine cJ (by simp) (cJ (by rw [hA]; simp) (bI ?_))
    rw [hG]; rfl
  | true =>
    rw [Bool.true_and, wM hb P V]
    cases hr : fZ p v P V with
    | false =>
      rw [hb, hr] at hG hA
      refine cJ (by simp) (cJ (by rw [hA]; simp) (bI ?_))
      rw [hG]; rfl
    | true =>
      rw [hb, hr] at hG
      have hG : lB s f p v P V = fP v P V := hG
      rw [hG] at gl ⊢
      refine aU rfl (aU (by omega) ?_)
      have hrl : (mZ v P V o).length ≤ 56 := by
        have := List.length_filter_le (fun x => !dZ (fP v P V) x) o
        unfold mZ; rw [List.length_append]; omega
      have L1 : Ev (fun k => bJ.l1 k (mZ v P V o) 0 (s, f, p, v, o, P, V) (fP v P V)) true := by
        refine fN ByteArray.empty (fP v P V) (P := fun i r => Ev (fun k => bJ.l1 k (mZ v P V o) (i : Int) (s, f, p, v, o, P, V) (fP v P V)) true)
          (by refine Ev.step (fun k => by rw [bJ.l1]) ?_; exact cJ (by omega) (bI rfl)) (fun i g r hi hx hm _ ih => ?_)
        have hn : dZ V g = false := by rw [← Bool.not_eq_true, eK]; exact uU hm
        refine Ev.step (fun k => by rw [bJ.l1]) (aU (by omega) (aU (by omega) ?_))
        rw [dX, hx, dU hi (by omega)]
        dsimp only
        refine Ev.bind (nI V g (by omega)) (cJ (by rw [hn]; simp) (aU (by omega) (aU (by omega) ?_)))
        refine Ev.bind (alone (mZ v P V o ++ [g]) (by rw [List.length_append, List.length_singleton]; omega)) (Ev.bind (eWn g P V (by omega) (by omega)) (cJ ?_ ih))
        rw [wG hb hr o hm]; simp
      have key := fN ByteArray.empty o (P := fun i r => ∀ acc : List ByteArray, acc.length ≤ 16 + i → acc ++ (r.filter fun x => !dZ (fP v P V) x) = mZ v P V o → Ev (fun k => bJ.l0 k x acc (i : Int) (s, f, p, v, o, P, V) (fP v P V)) true)
        (fun acc ha he => by
          rw [List.filter_nil, List.append_nil] at he
          subst he
          refine Ev.step (fun k => by rw [bJ.l0]) (cJ (by dsimp only; omega) ?_)
          exact Ev.bind (alone _ (by omega)) (aU (yP hb hr o) L1)) (fun i z r hi hx _ _ ih acc ha he => ?_)
      · exact key V (by omega) rfl
      refine Ev.step (fun k => by rw [bJ.l0]) (aU (by dsimp only; omega) (aU (by omega) ?_))
      rw [dX]
      dsimp only
      rw [hx, dU hi (by omega)]
      refine Ev.bind (nI (fP v P V) z (by omega)) (gH (fun c => ih acc (by omega) ?_) (fun c => aU (by omega) (ih (acc ++ [z]) (by rw [List.length_append, List.length_singleton]; omega) ?_)))
      · rw [← he]; simp [List.filter_cons, c]
      · rw [← he]; simp [List.filter_cons, c]
end Go.Proofs.Ytjhkgbfmigfmfaa.Pure
