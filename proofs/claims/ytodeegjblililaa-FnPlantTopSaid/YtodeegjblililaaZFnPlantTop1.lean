import Derived.Test.YtodeegjblililaaZFnPlantTop0
namespace Go.Proofs.Ytodeegjblililaa.Pure
open Go Go.RowKit Go.Aw Go.Proofs.Ytodeegjblililaa.QU
set_option linter.unusedVariables false
set_option linter.unusedSimpArgs false
/-! ### general words -/
theorem ev_pos {α : Type} {c : Prop} {d : Decidable c} {g f : Nat → Option α} {r : α} (h : c) (k : Ev g r) : Ev (fun n => @ite _ c d (g n) (f n)) r := Ev.congr (fun _ => if_pos h) k
theorem ev_neg {α : Type} {c : Prop} {d : Decidable c} {g f : Nat → Option α} {r : α} (h : ¬ c) (k : Ev f r) : Ev (fun n => @ite _ c d (g n) (f n)) r := Ev.congr (fun _ => if_neg h) k
theorem ev_ret {α : Type} {a r : α} (h : a = r) : Ev (fun _ => some a) r := h ▸ Ev.now a
theorem ev_let {α β : Type} {g : Option α} {a : α} {r : β} {f : Nat → α → Option β} (h : g = some a) (k : Ev (fun n => f n a) r) : Ev (fun n => g.bind (f n)) r := by
  subst h; exact k
theorem ev_eq {α : Type} {g : Nat → Option α} {a r : α} (k : Ev g a) (h : a = r) : Ev g r := h ▸ k
theorem ev_split {α : Type} {c : Prop} {d : Decidable c} {g f : Nat → Option α} {r : α} (h : c → Ev g r) (k : ¬ c → Ev f r) : Ev (fun n => @ite _ c d (g n) (f n)) r := by
  by_cases q : c
  · exact ev_pos q (h q)
  · exact ev_neg q (k q)
/-- a value that is called on -/
theorem ev_of {α β : Type} {g : Nat → Option α} {a : α} {r : β} {f : Nat → α → Option β} (h : Ev g a) (k : Ev (fun n => f n a) r) : Ev (fun n => (g n).bind (f n)) r := Ev.bind h k
theorem ex_ret {α : Type} {a : α} : ∃ q, Ev (fun _ => some a) q := ⟨a, Ev.now a⟩
theorem ex_ite {α : Type} {c : Prop} {d : Decidable c} {g f : Nat → Option α} (h : ∃ q, Ev g q) (k : ∃ q, Ev f q) : ∃ q, Ev (fun n => @ite _ c d (g n) (f n)) q := by
  by_cases q : c
  · exact h.imp fun _ e => ev_pos q e
  · exact k.imp fun _ e => ev_neg q e
theorem ex_pos {α : Type} {c : Prop} {d : Decidable c} {g f : Nat → Option α} (h : c) (k : ∃ q, Ev g q) : ∃ q, Ev (fun n => @ite _ c d (g n) (f n)) q := k.imp fun _ e => ev_pos h e
theorem ex_bind {α β : Type} {g : Nat → Option α} {f : Nat → α → Option β} (h : ∃ a, Ev g a) (k : ∀ a, ∃ q, Ev (fun n => f n a) q) : ∃ q, Ev (fun n => (g n).bind (f n)) q := by
  obtain ⟨a, h⟩ := h
  exact (k a).imp fun _ e => Ev.bind h e
theorem ex_step {α : Type} {g f : Nat → Option α} (h : ∀ k, g (k + 1) = f k) (k : ∃ q, Ev f q) : ∃ q, Ev g q := k.imp fun _ e => Ev.step h e
theorem w64 {x : Int} (h0 : -9223372036854775808 ≤ x) (h1 : x ≤ 9223372036854775807) : wrap64 x = x := by unfold wrap64; omega
theorem wsucc {i n : Nat} (h : i < n) (hn : n ≤ 9223372036854775807) : wrap64 ((i : Int) + 1) = ((i + 1 : Nat) : Int) := by unfold wrap64; omega
theorem wplus {a : Int} (h0 : 0 ≤ a) (h1 : a ≤ 4611686018427387904) : wrap64 (a + 1) = a + 1 := by unfold wrap64; omega
theorem pre64 {i : Nat} (h : ¬ i = 0) (hi : i ≤ 9223372036854775807) : wrap64 ((i : Int) - 1) = ((i - 1 : Nat) : Int) := by unfold wrap64; omega
theorem getD_eq {α : Type} (d : α) (xs : List α) (i : Nat) (h : i < xs.length) : xs.getD i d = xs[i] := by
  rw [List.getD_eq_getElem?_getD, List.getElem?_eq_getElem h]; rfl
theorem mem_getD {α : Type} (d : α) (xs : List α) (i : Nat) (h : i < xs.length) : xs.getD i d ∈ xs := by
  rw [getD_eq d xs i h]; exact List.getElem_mem h
theorem getD_set {α : Type} (d : α) (xs : List α) (i j : Nat) (v : α) (h : i < xs.length) : (xs.set i v).getD j d = if j = i then v else xs.getD j d := by
  rw [List.getD_eq_getElem?_getD, List.getD_eq_getElem?_getD, List.getElem?_set]
  by_cases e : i = j
  · subst e; simp [h]
  · rw [if_neg e, if_neg (fun q => e q.symm)]
theorem fill_end {α : Type} (d : α) (z y : List α) (hl : y.length = z.length) (h : ∀ j, j < z.length → y.getD j d = z.getD j d) : y = z := by
  apply List.ext_getElem hl
  intro j h1 h2
  have e := h j h2
  rwa [getD_eq d y j h1, getD_eq d z j h2] at e
theorem fill_step {α : Type} (d : α) (z y : List α) (i : Nat) (hl : y.length = z.length) (hi : i < z.length) (h : ∀ j, j < i → y.getD j d = z.getD j d) (v : α) (hv : v = z.getD i d) :
    (y.set i v).length = z.length ∧ ∀ j, j < i + 1 → (y.set i v).getD j d = z.getD j d := by
  refine ⟨by simpa using hl, fun j hj => ?_⟩
  rw [getD_set d y i j v (by omega)]
  by_cases e : j = i
  · rw [if_pos e, e, hv]
  · rw [if_neg e]; exact h j (by omega)
theorem rdOf_nat {α : Type} (d : α) (xs : List α) (i : Nat) : rdOf d xs (i : Int) = xs.getD i d := by simp [rdOf]
theorem rd_nat (xs : List Int) (i : Nat) : rd xs (i : Int) = xs.getD i 0 := by simp [rd]
theorem map_getD {α β : Type} (e : β) (d : α) (f : α → β) (l : List α) (i : Nat) (h : i < l.length) : (l.map f).getD i e = f (l.getD i d) := by
  rw [getD_eq e _ i (by simpa using h), getD_eq d l i h, List.getElem_map]
/-- a list told from its end: what is left from place i on -/
theorem loopL {α : Type} (d : α) (l : List α) {P : Nat → List α → Prop} (h0 : P l.length []) (hs : ∀ i x r, i < l.length → l.getD i d = x → x ∈ l → l.drop (i + 1) = r → P (i + 1) r → P i (x :: r)) : P 0 l := by
  have key : ∀ (n i : Nat), i + n = l.length → P i (l.drop i) := fun n => by
    induction n with
    | zero =>
      intro i hi
      have e : i = l.length := by omega
      subst e; rw [List.drop_length]; exact h0
    | succ n ih =>
      intro i hi
      have hlt : i < l.length := by omega
      have e : l.drop i = l.getD i d :: l.drop (i + 1) := by rw [List.drop_eq_getElem_cons hlt, getD_eq d l i hlt]
      rw [e]
      exact hs i _ _ hlt rfl (mem_getD d l i hlt) rfl (ih (i + 1) (by omega))
  simpa using key l.length 0 (by omega)
/-- the element ahead of place i -/
def ahead {α : Type} (d : α) (l : List α) (i : Nat) : Option α := if i = 0 then none else some (l.getD (i - 1) d)
theorem ahead_zero {α : Type} (d : α) (l : List α) : ahead d l 0 = none := rfl
theorem ahead_succ {α : Type} (d : α) (l : List α) (i : Nat) : ahead d l (i + 1) = some (l.getD i d) := by simp [ahead]
theorem ahead_pos {α : Type} (d : α) (l : List α) (i : Nat) (h : ¬ i = 0) : ahead d l i = some (l.getD (i - 1) d) := if_neg h
/-! ### the order of bytes -/
theorem bl_irr : ∀ x : List UInt8, Op.bytesLess x x = false
  | [] => rfl
  | a :: x => by simp [Op.bytesLess, bl_irr x]
theorem bl_asym : ∀ x y : List UInt8, Op.bytesLess x y = true → Op.bytesLess y x = false
  | [], [], _ => rfl
  | [], _ :: _, _ => rfl
  | _ :: _, [], h => by simp [Op.bytesLess] at h
  | a :: x, b :: y, h => by
    simp only [Op.bytesLess, Bool.or_eq_true, Bool.and_eq_true, decide_eq_true_eq, beq_iff_eq] at h
    simp only [Op.bytesLess, Bool.or_eq_false_iff, Bool.and_eq_false_iff, decide_eq_false_iff_not, beq_eq_false_iff_ne]
    rcases h with h | ⟨rfl, h⟩
    · exact ⟨UInt8.lt_asymm h, .inl (fun e => by subst e; exact UInt8.lt_irrefl _ h)⟩
    · exact ⟨UInt8.lt_irrefl _, .inr (bl_asym x y h)⟩
theorem bl_tri : ∀ x y : List UInt8, Op.bytesLess x y = true ∨ x = y ∨ Op.bytesLess y x = true
  | [], [] => .inr (.inl rfl)
  | [], _ :: _ => .inl rfl
  | _ :: _, [] => .inr (.inr rfl)
  | a :: x, b :: y => by
    simp only [Op.bytesLess, Bool.or_eq_true, Bool.and_eq_true, decide_eq_true_eq, beq_iff_eq, List.cons.injEq]
    rcases UInt8.lt_or_lt_of_ne (a := a) (b := b) |> fun f => (Classical.em (a = b)).imp id f with rfl | h | h
    · rcases bl_tri x y with q | rfl | q
      · exact .inl (.inr ⟨rfl, q⟩)
      · exact .inr (.inl ⟨rfl, rfl⟩)
      · exact .inr (.inr (.inr ⟨rfl, q⟩))
    · exact .inl (.inl h)
    · exact .inr (.inr (.inl h))
theorem bl_trans : ∀ x y z : List UInt8, Op.bytesLess x y = true → Op.bytesLess y z = true → Op.bytesLess x z = true
  | [], _, _ :: _, _, _ => rfl
  | [], [], [], h, _ => h
  | [], _ :: _, [], _, h => by simp [Op.bytesLess] at h
  | _ :: _, [], _, h, _ => by simp [Op.bytesLess] at h
  | _ :: _, _ :: _, [], _, h => by simp [Op.bytesLess] at h
  | a :: x, b :: y, c :: z, h, k => by
    simp only [Op.bytesLess, Bool.or_eq_true, Bool.and_eq_true, decide_eq_true_eq, beq_iff_eq] at h k ⊢
    rcases h with h | ⟨rfl, h⟩
    · rcases k with k | ⟨rfl, k⟩
      · exact .inl (UInt8.lt_trans h k)
      · exact .inl h
    · rcases k with k | ⟨rfl, k⟩
      · exact .inl k
      · exact .inr ⟨rfl, bl_trans x y z h k⟩
theorem ba_ext {a b : ByteArray} (h : a.toList = b.toList) : a = b := by
  apply ByteArray.ext
  apply Array.ext'
  simpa [ByteArray.toList_eq] using h
theorem ba_iff {a b : ByteArray} : a.toList = b.toList ↔ a = b := ⟨ba_ext, fun h => h ▸ rfl⟩
/-- a text ahead of another -/
def lt (a b : ByteArray) : Bool := Op.bytesLess a.toList b.toList
theorem lt_irr (a : ByteArray) : lt a a = false := bl_irr _
theorem lt_asym {a b : ByteArray} (h : lt a b = true) : lt b a = false := bl_asym _ _ h
theorem lt_trans {a b c : ByteArray} (h : lt a b = true) (k : lt b c = true) : lt a c = true := bl_trans _ _ _ h k
theorem lt_tri (a b : ByteArray) : lt a b = true ∨ a = b ∨ lt b a = true := (bl_tri a.toList b.toList).imp id (·.imp ba_ext id)
theorem lt_ne {a b : ByteArray} (h : lt a b = true) : a ≠ b := fun e => by rw [e, lt_irr] at h; cases h
/-- pair by pair: the first, then the second -/
def befB (a0 a1 b0 b1 : ByteArray) : Bool := lt a0 b0 || (decide (a0 = b0) && lt a1 b1)
/-! ### names -/
theorem ev_b {α : Type} {b : Bool} {g f : Nat → Option α} {r : α} (h : b = true → Ev g r) (k : b = false → Ev f r) : Ev (fun n => if b = true then g n else f n) r := by
  cases b
  · exact ev_neg (by simp) (k rfl)
  · exact ev_pos rfl (h rfl)
/-- a yes or no that is asked -/
theorem ev_ask {α : Type} {o g f : Nat → Option α} {q : Nat → Option Bool} {b : Bool} {r : α} (hq : Ev q b) (h : b = true → Ev g r) (k : b = false → Ev f r) : Ev (fun n => (q n).bind fun t => if t = true then g n else f n) r := Ev.bind (f := fun n t => if t = true then g n else f n) hq (ev_b h k)
def okc (c : Int) : Bool := (decide (97 ≤ c) && decide (c ≤ 122)) || ((decide (48 ≤ c) && decide (c ≤ 57)) || decide (c = 45))
theorem okc_t {c : Int} (h : 97 ≤ c ∧ c ≤ 122 ∨ 48 ≤ c ∧ c ≤ 57 ∨ c = 45) : okc c = true := by simp [okc]; omega
theorem okc_f {c : Int} (h : ¬ (97 ≤ c ∧ c ≤ 122 ∨ 48 ≤ c ∧ c ≤ 57 ∨ c = 45)) : okc c = false := by
  rw [← Bool.not_eq_true]; intro q; apply h; simp [okc] at q; omega
def allFrom (s : ByteArray) (i : Nat) : Bool := decide (∀ j, j < s.size → i ≤ j → okc (bt s (j : Int)) = true)
theorem allFrom_step (s : ByteArray) (i : Nat) (h : i < s.size) : allFrom s i = (okc (bt s (i : Int)) && allFrom s (i + 1)) := by
  unfold allFrom
  rw [Bool.eq_iff_iff, Bool.and_eq_true, decide_eq_true_iff, decide_eq_true_iff]
  refine ⟨fun q => ⟨q i h (Nat.le_refl _), fun j hj hi => q j hj (by omega)⟩, fun q j hj hi => ?_⟩
  by_cases e : j = i
  · rw [e]; exact q.1
  · exact q.2 j hj (by omega)
theorem allFrom_end (s : ByteArray) : allFrom s s.size = true := by
  unfold allFrom
  rw [decide_eq_true_iff]
  intro j hj hi; omega
def nameB (s : ByteArray) : Bool := decide (1 ≤ s.size ∧ s.size ≤ 8) && allFrom s 0
/-- a walk over the places of a text -/
theorem loopN (n : Nat) {P : Nat → Prop} (h0 : P n) (hs : ∀ i, i < n → P (i + 1) → P i) : P 0 := by
  have key : ∀ (m i : Nat), i + m = n → P i := fun m => by
    induction m with
    | zero => intro i hi; have e : i = n := by omega
              subst e; exact h0
    | succ m ih => intro i hi; exact hs i (by omega) (ih (i + 1) (by omega))
  exact key n 0 (by omega)
/-- each before the next -/
def chainB {α : Type} (p : α → α → Bool) : Option α → List α → Bool
  | _, [] => true
  | none, x :: r => chainB p (some x) r
  | some y, x :: r => p y x && chainB p (some x) r
def namesB (l : List ByteArray) : Bool := l.all nameB && chainB lt none l
def hasB (l : List ByteArray) (s : ByteArray) : Bool := l.any fun x => decide (x = s)
theorem hasB_iff {l : List ByteArray} {s : ByteArray} : hasB l s = true ↔ s ∈ l := by
  unfold hasB
  rw [List.any_eq_true]
  exact ⟨fun ⟨x, h, e⟩ => by simp at e; exact e ▸ h, fun h => ⟨s, h, by simp⟩⟩
def inB (a b c : Int) : Bool := decide (b ≤ a ∧ a ≤ c)
theorem inB_t {a b c : Int} (h : b ≤ a ∧ a ≤ c) : inB a b c = true := decide_eq_true h
theorem inB_f {a b c : Int} (h : ¬ (b ≤ a ∧ a ≤ c)) : inB a b c = false := decide_eq_false h
theorem l2In_ev (a b c : Int) : Ev (fun _ => spec_l1In.f a b c) (inB a b c) := by
  unfold spec_l1In.f inB
  refine ev_split (fun h => ev_ret (decide_eq_decide.2 (by omega))) (fun h => ev_ret ?_)
  symm; apply decide_eq_false; omega
theorem l2NameOk_ev (s : ByteArray) : Ev (fun k => spec_l2NameOk.f k s) (nameB s) := by
  unfold spec_l2NameOk.f nameB
  refine Ev.bind (l2In_ev _ _ _) (ev_b (fun h => ?_) (fun h => ev_ret ?_))
  · have hs : 1 ≤ s.size ∧ s.size ≤ 8 := by have : inB _ _ _ = true := h; unfold inB at this; have := of_decide_eq_true this; omega
    rw [decide_eq_true hs, Bool.true_and]
    refine loopN s.size (P := fun i => Ev (fun k => spec_l2NameOk.l0 k s (i : Int)) (allFrom s i))
      (by refine Ev.step (fun k => by rw [spec_l2NameOk.l0]) ?_; exact ev_neg (by omega) (ev_ret (allFrom_end s).symm)) (fun i hi ih => ?_)
    refine Ev.step (fun k => by rw [spec_l2NameOk.l0]) (ev_pos (by omega) (ev_pos (by omega) ?_))
    rw [wsucc hi (by omega), allFrom_step s i hi]
    generalize bt s (i : Int) = c
    repeat' (first | (refine ev_split (fun _ => ?_) (fun _ => ?_)) | (rw [okc_t (by omega), Bool.true_and]; exact ih) | (rw [okc_f (by omega)]; exact ev_ret rfl))
  · have hs : ¬ (1 ≤ s.size ∧ s.size ≤ 8) := fun q => by have : inB _ _ _ = false := h; unfold inB at this; have := of_decide_eq_false this; omega
    rw [decide_eq_false hs]; rfl
theorem l2Has_ev (l : List ByteArray) (s : ByteArray) (hn : l.length ≤ 140737488351232) : Ev (fun k => spec_l2Has.f k l s) (hasB l s) := by
  unfold spec_l2Has.f hasB
  refine loopL ByteArray.empty l (P := fun i r => Ev (fun k => spec_l2Has.l0 k l s (i : Int)) (r.any fun x => decide (x = s)))
    (by refine Ev.step (fun k => by rw [spec_l2Has.l0]) ?_; exact ev_neg (by omega) (ev_ret rfl)) (fun i x r hi hx _ _ ih => ?_)
  refine Ev.step (fun k => by rw [spec_l2Has.l0]) (ev_pos (by omega) (ev_pos (by omega) ?_))
  rw [wsucc hi (by omega), rdOf_nat, hx]
  refine ev_split (fun c => ev_ret ?_) (fun c => ev_eq ih ?_)
  · simp [ba_iff.1 c]
  · simp [show ¬ x = s from fun e => c (ba_iff.2 e)]
theorem isName_ev (s : ByteArray) (hn : s.size ≤ 140737488351232) : Ev (fun k => impl_isName.f k s) (nameB s) := by
  unfold impl_isName.f nameB
  refine loopN s.size (P := fun i => Ev (fun k => impl_isName.l0 k s (i : Int)) (decide (1 ≤ s.size ∧ s.size ≤ 8) && allFrom s i))
    (by
      refine Ev.step (fun k => by rw [impl_isName.l0]) (ev_neg (by omega) ?_)
      rw [allFrom_end, Bool.and_true]
      refine ev_split (fun h => ev_ret (decide_eq_decide.2 (by omega))) (fun h => ev_ret ?_)
      symm; apply decide_eq_false; omega) (fun i hi ih => ?_)
  refine Ev.step (fun k => by rw [impl_isName.l0]) (ev_pos (by omega) (ev_pos (by omega) ?_))
  rw [wsucc hi (by omega), allFrom_step s i hi]
  generalize bt s (i : Int) = c
  repeat' (first | (refine ev_split (fun _ => ?_) (fun _ => ?_)) | (rw [okc_t (by omega), Bool.true_and]; exact ih) | (rw [okc_f (by omega), Bool.false_and, Bool.and_false]; exact ev_ret rfl))
theorem chain_none {α : Type} (p : α → α → Bool) (x : α) (r : List α) : chainB p none (x :: r) = chainB p (some x) r := rfl
theorem rising_ev (l : List ByteArray) (hn : l.length ≤ 140737488351232) : Ev (fun k => impl_rising.f k l) (chainB lt none l) := by
  unfold impl_rising.f
  have key : ∀ r i, l.drop (i + 1) = r → i < l.length → Ev (fun k => impl_rising.l0 k l ((i + 1 : Nat) : Int)) (chainB lt (some (l.getD i ByteArray.empty)) r) := fun r => by
    induction r with
    | nil =>
      intro i hd hi
      have : l.length ≤ i + 1 := List.drop_eq_nil_iff.1 hd
      refine Ev.step (fun k => by rw [impl_rising.l0]) ?_
      exact ev_neg (by omega) (ev_ret rfl)
    | cons x r ih =>
      intro i hd hi
      have hlt : i + 1 < l.length := by
        refine Nat.lt_of_not_le fun hle => ?_
        rw [List.drop_eq_nil_iff.2 hle] at hd; cases hd
      have e := List.drop_eq_getElem_cons hlt
      rw [hd] at e; injection e with e1 e2
      have hx : l.getD (i + 1) ByteArray.empty = x := by rw [getD_eq _ l _ hlt]; exact e1.symm
      refine Ev.step (fun k => by rw [impl_rising.l0]) (ev_pos (by omega) ?_)
      have hw : wrap64 (((i + 1 : Nat) : Int) - 1) = ((i : Nat) : Int) := by unfold wrap64; omega
      rw [hw, rdOf_nat, rdOf_nat, hx, wsucc hlt (by omega)]
      refine ev_pos (by omega) (ev_pos (by omega) (ev_pos (by omega) (ev_b (fun c => ?_) (fun c => ev_ret ?_))))
      · have c : lt (l.getD i ByteArray.empty) x = true := c
        have := ih (i + 1) e2.symm hlt
        rw [hx] at this
        simp only [chainB, c, Bool.true_and]; exact this
      · have c : lt (l.getD i ByteArray.empty) x = false := c
        simp only [chainB, c, Bool.false_and]
  cases l with
  | nil =>
    refine Ev.step (fun k => by rw [impl_rising.l0]) ?_
    exact ev_neg (show ¬ (1 : Int) < ((0 : Nat) : Int) by omega) (ev_ret rfl)
  | cons x r =>
    rw [chain_none]
    exact key r 0 rfl (by simp)
theorem names_ev (l : List ByteArray) (hn : l.length ≤ 140737488351232) (h : ∀ x ∈ l, x.size ≤ 140737488351232) : Ev (fun k => impl_names.f k l) (namesB l) := by
  unfold impl_names.f namesB
  refine loopL ByteArray.empty l (P := fun i r => Ev (fun k => impl_names.l0 k l (i : Int)) (r.all nameB && chainB lt none l))
    (by refine Ev.step (fun k => by rw [impl_names.l0]) ?_; exact ev_neg (by omega) (Ev.bind (rising_ev l hn) (ev_ret rfl))) (fun i x r hi hx hm _ ih => ?_)
  refine Ev.step (fun k => by rw [impl_names.l0]) (ev_pos (by omega) (ev_pos (by omega) ?_))
  rw [wsucc hi (by omega), rdOf_nat, hx]
  refine Ev.bind (isName_ev x (h x hm)) (ev_b (fun c => ?_) (fun c => ev_ret ?_))
  · simpa [c] using ih
  · simp [c]
theorem has_ev (l : List ByteArray) (s : ByteArray) (hn : l.length ≤ 140737488351232) : Ev (fun k => impl_has.f k l s) (hasB l s) := by
  have key : ∃ v : Int, (decide (v ≥ 0) = hasB l s) ∧ Ev (fun k => slices_Index_string_string.f k l s) v := by
    unfold slices_Index_string_string.f hasB
    refine loopL ByteArray.empty l (P := fun i r => ∃ v : Int, (decide (v ≥ 0) = r.any fun x => decide (x = s)) ∧ Ev (fun k => slices_Index_string_string.l0 k l s (i : Int)) v)
      ⟨-1, rfl, Ev.step (fun k => by rw [slices_Index_string_string.l0]) (ev_neg (by omega) (ev_ret rfl))⟩ (fun i x r hi hx _ _ ih => ?_)
    obtain ⟨v, hv, he⟩ := ih
    by_cases c : x = s
    · refine ⟨(i : Int), by simp [c], Ev.step (fun k => by rw [slices_Index_string_string.l0]) ?_⟩
      rw [rdOf_nat, hx]
      exact ev_pos (by omega) (ev_pos (by omega) (ev_pos (by rw [c]) (ev_ret rfl)))
    · refine ⟨v, by simpa [c] using hv, Ev.step (fun k => by rw [slices_Index_string_string.l0]) ?_⟩
      rw [rdOf_nat, hx, wsucc hi (by omega)]
      exact ev_pos (by omega) (ev_pos (by omega) (ev_neg (fun q => c (ba_ext q).symm) he))
  obtain ⟨v, hv, he⟩ := key
  unfold impl_has.f slices_Contains_string_string.f
  exact Ev.bind (Ev.bind he (ev_ret hv)) (ev_ret rfl)
/-! ### plants: what a valid one is -/
theorem rdF (l : List S_impl_PlantFoe) (i : Nat) : rd_impl_PlantFoe l (i : Int) = l.getD i z_impl_PlantFoe := by unfold rd_impl_PlantFoe; rw [Int.toNat_natCast]
theorem rdP (l : List S_impl_PlantPlace) (i : Nat) : rd_impl_PlantPlace l (i : Int) = l.getD i z_impl_PlantPlace := by unfold rd_impl_PlantPlace; rw [Int.toNat_natCast]
theorem rdV (l : List S_impl_PlantValve) (i : Nat) : rd_impl_PlantValve l (i : Int) = l.getD i z_impl_PlantValve := by unfold rd_impl_PlantValve; rw [Int.toNat_natCast]
def foeLt (x y : S_impl_PlantFoe) : Bool := befB x.f0 x.f1 y.f0 y.f1
def foeB (s : List ByteArray) (x : S_impl_PlantFoe) : Bool := lt x.f0 x.f1 && (hasB s x.f0 && hasB s x.f1)
def foesB (s : List ByteArray) (f : List S_impl_PlantFoe) : Bool := f.all (foeB s) && chainB foeLt none f
def placeLt (x y : S_impl_PlantPlace) : Bool := lt x.f0 y.f0
def placeB (x : S_impl_PlantPlace) : Bool := nameB x.f0 && (inB x.f1 0 1000 && nameB x.f2)
def placesB (p : List S_impl_PlantPlace) : Bool := p.all placeB && chainB placeLt none p
def placeHas (p : List S_impl_PlantPlace) (x : ByteArray) : Bool := p.any fun y => decide (y.f0 = x)
def valveLt (x y : S_impl_PlantValve) : Bool := lt x.f0 y.f0
def valveB (p : List S_impl_PlantPlace) (x : S_impl_PlantValve) : Bool := nameB x.f0 && (lt x.f1 x.f2 && (placeHas p x.f1 && (placeHas p x.f2 && nameB x.f3)))
def valvesB (p : List S_impl_PlantPlace) (v : List S_impl_PlantValve) : Bool := v.all (valveB p) && chainB valveLt none v
def validB (s : List ByteArray) (f : List S_impl_PlantFoe) (p : List S_impl_PlantPlace) (v : List S_impl_PlantValve) : Bool :=
  (decide (s.length ≤ 8) && decide (f.length ≤ 12)) && ((namesB s && foesB s f) && ((decide (p.length ≤ 14) && placesB p) && (decide (v.length ≤ 18) && valvesB p v)))
theorem l2Before_ev (a0 a1 b0 b1 : ByteArray) : Ev (fun _ => spec_l2Before.f a0 a1 b0 b1) (befB a0 a1 b0 b1) := by
  unfold spec_l2Before.f
  repeat' (first
    | with_reducible refine ev_pos (by omega) ?_
    | with_reducible refine ev_neg (by omega) ?_
    | with_reducible refine ev_b (fun c => ?_) (fun c => ?_)
    | with_reducible refine ev_split (fun c => ?_) (fun c => ?_))
  all_goals (first
    | (with_reducible refine ev_ret ?_; simp_all [chainB, lt, ba_iff, befB]; done)
    | (with_reducible refine ev_eq (ih) ?_; simp_all [chainB, lt, ba_iff, befB]; done))
theorem l2Foes1_ev (s : List ByteArray) (f : List S_impl_PlantFoe) (hs : s.length ≤ 140737488351232) (hf : f.length ≤ 140737488351232) : Ev (fun k => spec_l2StuffsOk.l1 k s f 0) (foesB s f) := by
  refine loopL z_impl_PlantFoe f (P := fun i r => Ev (fun k => spec_l2StuffsOk.l1 k s f (i : Int)) (r.all (foeB s) && chainB foeLt (ahead z_impl_PlantFoe f i) r))
    (by refine Ev.step (fun k => by rw [spec_l2StuffsOk.l1]) ?_; exact ev_neg (by omega) (ev_ret rfl)) (fun i x r hi hx _ _ ih => ?_)
  refine Ev.step (fun k => by rw [spec_l2StuffsOk.l1]) (ev_pos (by omega) (ev_pos (by omega) ?_))
  rw [wsucc hi (by omega), rdF, hx]
  rw [ahead_succ, hx] at ih
  clear hx
  by_cases z : i = 0
  · subst z
    rw [ahead_zero]
    repeat' (first
      | with_reducible refine Ev.bind (l2Has_ev _ _ hs) ?_
      | with_reducible refine ev_pos (by omega) ?_
      | with_reducible refine ev_neg (by omega) ?_
      | with_reducible refine ev_b (fun c => ?_) (fun c => ?_)
      | with_reducible refine ev_split (fun c => ?_) (fun c => ?_))
    all_goals (first
      | (with_reducible refine ev_ret ?_; simp_all [chainB, lt, ba_iff, foeB, foeLt]; done)
      | (with_reducible refine ev_eq (ih) ?_; simp_all [chainB, lt, ba_iff, foeB, foeLt]; done))
  · rw [pre64 z (by omega), rdF, ahead_pos _ _ _ z]
    generalize f.getD (i - 1) z_impl_PlantFoe = y
    repeat' (first
      | with_reducible refine Ev.bind (l2Has_ev _ _ hs) ?_
      | with_reducible refine Ev.bind (l2Before_ev _ _ _ _) ?_
      | with_reducible refine ev_pos (by omega) ?_
      | with_reducible refine ev_neg (by omega) ?_
      | with_reducible refine ev_b (fun c => ?_) (fun c => ?_)
      | with_reducible refine ev_split (fun c => ?_) (fun c => ?_))
    all_goals (first
      | (with_reducible refine ev_ret ?_; simp_all [chainB, lt, ba_iff, foeB, foeLt]; done)
      | (with_reducible refine ev_eq (ih) ?_; simp_all [chainB, lt, ba_iff, foeB, foeLt]; done))
theorem l2Stuffs_ev (s : List ByteArray) (f : List S_impl_PlantFoe) (p : List S_impl_PlantPlace) (v : List S_impl_PlantValve) (hs : s.length ≤ 140737488351232) (hf : f.length ≤ 140737488351232) :
    Ev (fun k => spec_l2StuffsOk.f k s f p v) ((decide (s.length ≤ 8) && decide (f.length ≤ 12)) && (namesB s && foesB s f)) := by
  have L1 := l2Foes1_ev s f hs hf
  generalize foesB s f = T at L1 ⊢
  have L0 : Ev (fun k => spec_l2StuffsOk.l0 k s f 0) (namesB s && T) := by
    refine loopL ByteArray.empty s (P := fun i r => Ev (fun k => spec_l2StuffsOk.l0 k s f (i : Int)) ((r.all nameB && chainB lt (ahead ByteArray.empty s i) r) && T))
      (by refine Ev.step (fun k => by rw [spec_l2StuffsOk.l0]) ?_; exact ev_neg (by omega) L1) (fun i x r hi hx _ _ ih => ?_)
    refine Ev.step (fun k => by rw [spec_l2StuffsOk.l0]) (ev_pos (by omega) (ev_pos (by omega) ?_))
    rw [wsucc hi (by omega), rdOf_nat, hx]
    rw [ahead_succ, hx] at ih
    clear hx L1
    by_cases z : i = 0
    · subst z
      rw [ahead_zero]
      repeat' (first
        | with_reducible refine Ev.bind (l2NameOk_ev _) ?_
        | with_reducible refine ev_pos (by omega) ?_
        | with_reducible refine ev_neg (by omega) ?_
        | with_reducible refine ev_b (fun c => ?_) (fun c => ?_)
        | with_reducible refine ev_split (fun c => ?_) (fun c => ?_))
      all_goals (first
        | (with_reducible refine ev_ret ?_; simp_all [chainB, lt, ba_iff]; done)
        | (with_reducible refine ev_eq (ih) ?_; simp_all [chainB, lt, ba_iff]; done))
    · rw [pre64 z (by omega), rdOf_nat, ahead_pos _ _ _ z]
      generalize s.getD (i - 1) ByteArray.empty = y
      repeat' (first
        | with_reducible refine Ev.bind (l2NameOk_ev _) ?_
        | with_reducible refine ev_pos (by omega) ?_
        | with_reducible refine ev_neg (by omega) ?_
        | with_reducible refine ev_b (fun c => ?_) (fun c => ?_)
        | with_reducible refine ev_split (fun c => ?_) (fun c => ?_))
      all_goals (first
        | (with_reducible refine ev_ret ?_; simp_all [chainB, lt, ba_iff]; done)
        | (with_reducible refine ev_eq (ih) ?_; simp_all [chainB, lt, ba_iff]; done))
  unfold spec_l2StuffsOk.f
  refine ev_split (fun c => ev_ret ?_) (fun c => ev_split (fun d => ev_ret ?_) (fun d => ev_eq L0 ?_))
  · rw [decide_eq_false (by omega : ¬ s.length ≤ 8)]; rfl
  · rw [decide_eq_false (by omega : ¬ f.length ≤ 12), Bool.and_false]; rfl
  · rw [decide_eq_true (by omega : s.length ≤ 8), decide_eq_true (by omega : f.length ≤ 12)]; rfl
theorem l2Places_ev (s : List ByteArray) (f : List S_impl_PlantFoe) (p : List S_impl_PlantPlace) (v : List S_impl_PlantValve) (hp : p.length ≤ 140737488351232) :
    Ev (fun k => spec_l2PlacesOk.f k s f p v) (decide (p.length ≤ 14) && placesB p) := by
  unfold spec_l2PlacesOk.f
  refine ev_split (fun c => ev_ret (by rw [decide_eq_false (by omega : ¬ p.length ≤ 14)]; rfl)) (fun c => ?_)
  rw [decide_eq_true (by omega : p.length ≤ 14), Bool.true_and]
  refine loopL z_impl_PlantPlace p (P := fun i r => Ev (fun k => spec_l2PlacesOk.l0 k p (i : Int)) (r.all placeB && chainB placeLt (ahead z_impl_PlantPlace p i) r))
    (by refine Ev.step (fun k => by rw [spec_l2PlacesOk.l0]) ?_; exact ev_neg (by omega) (ev_ret rfl)) (fun i x r hi hx _ _ ih => ?_)
  refine Ev.step (fun k => by rw [spec_l2PlacesOk.l0]) (ev_pos (by omega) (ev_pos (by omega) ?_))
  rw [wsucc hi (by omega), rdP, hx]
  rw [ahead_succ, hx] at ih
  clear hx
  by_cases z : i = 0
  · subst z
    rw [ahead_zero]
    repeat' (first
      | with_reducible refine Ev.bind (l2NameOk_ev _) ?_
      | with_reducible refine Ev.bind (l2In_ev _ _ _) ?_
      | with_reducible refine ev_pos (by omega) ?_
      | with_reducible refine ev_neg (by omega) ?_
      | with_reducible refine ev_b (fun c => ?_) (fun c => ?_)
      | with_reducible refine ev_split (fun c => ?_) (fun c => ?_))
    all_goals (first
      | (with_reducible refine ev_ret ?_; simp_all [chainB, lt, ba_iff, placeB, placeLt]; done)
      | (with_reducible refine ev_eq (ih) ?_; simp_all [chainB, lt, ba_iff, placeB, placeLt]; done))
  · rw [pre64 z (by omega), rdP, ahead_pos _ _ _ z]
    generalize p.getD (i - 1) z_impl_PlantPlace = y
    repeat' (first
      | with_reducible refine Ev.bind (l2NameOk_ev _) ?_
      | with_reducible refine Ev.bind (l2In_ev _ _ _) ?_
      | with_reducible refine ev_pos (by omega) ?_
      | with_reducible refine ev_neg (by omega) ?_
      | with_reducible refine ev_b (fun c => ?_) (fun c => ?_)
      | with_reducible refine ev_split (fun c => ?_) (fun c => ?_))
    all_goals (first
      | (with_reducible refine ev_ret ?_; simp_all [chainB, lt, ba_iff, placeB, placeLt]; done)
      | (with_reducible refine ev_eq (ih) ?_; simp_all [chainB, lt, ba_iff, placeB, placeLt]; done))
/-- where a place lies, -1 if there is none -/
def placeIx (x : ByteArray) : List S_impl_PlantPlace → Int → Int
  | [], _ => -1
  | y :: r, i => if y.f0 = x then i else placeIx x r (i + 1)
theorem placeIx_neg (x : ByteArray) : ∀ (r : List S_impl_PlantPlace) (i : Int), 0 ≤ i → (decide (placeIx x r i < 0) = !placeHas r x) ∧ (placeHas r x = true → i ≤ placeIx x r i)
  | [], i, h => ⟨rfl, fun h => by simp [placeHas] at h⟩
  | y :: r, i, h => by
    obtain ⟨h1, h2⟩ := placeIx_neg x r (i + 1) (by omega)
    rw [show placeIx x (y :: r) i = if y.f0 = x then i else placeIx x r (i + 1) from rfl, show placeHas (y :: r) x = (decide (y.f0 = x) || placeHas r x) from rfl]
    by_cases c : y.f0 = x
    · rw [if_pos c, decide_eq_true c, Bool.true_or]
      exact ⟨decide_eq_false (by omega), fun _ => Int.le_refl _⟩
    · rw [if_neg c, decide_eq_false c, Bool.false_or]
      exact ⟨h1, fun q => by have := h2 q; omega⟩
theorem l2Place_ev (s : List ByteArray) (f : List S_impl_PlantFoe) (p : List S_impl_PlantPlace) (v : List S_impl_PlantValve) (x : ByteArray) (hp : p.length ≤ 140737488351232) :
    Ev (fun k => spec_l2Place.f k s f p v x) (placeIx x p 0) := by
  unfold spec_l2Place.f
  refine loopL z_impl_PlantPlace p (P := fun i r => Ev (fun k => spec_l2Place.l0 k p x (i : Int)) (placeIx x r (i : Int)))
    (by refine Ev.step (fun k => by rw [spec_l2Place.l0]) ?_; exact ev_neg (by omega) (ev_ret rfl)) (fun i y r hi hx _ _ ih => ?_)
  refine Ev.step (fun k => by rw [spec_l2Place.l0]) (ev_pos (by omega) (ev_pos (by omega) ?_))
  rw [wsucc hi (by omega), rdP, hx]
  unfold placeIx
  refine ev_split (fun c => ev_ret (by rw [if_pos (ba_iff.1 c)])) (fun c => ev_eq ih (by rw [if_neg (fun e => c (ba_iff.2 e))]; push_cast; rfl))
theorem placeNeg_ev (x : ByteArray) (p : List S_impl_PlantPlace) : (placeIx x p 0 < 0) ↔ placeHas p x = false := by
  have := (placeIx_neg x p 0 (Int.le_refl _)).1
  cases h : placeHas p x <;> rw [h] at this <;> simpa using this
theorem l2Valves_ev (s : List ByteArray) (f : List S_impl_PlantFoe) (p : List S_impl_PlantPlace) (v : List S_impl_PlantValve) (hp : p.length ≤ 140737488351232) (hv : v.length ≤ 140737488351232) :
    Ev (fun k => spec_l2ValvesOk.f k s f p v) (decide (v.length ≤ 18) && valvesB p v) := by
  unfold spec_l2ValvesOk.f
  refine ev_split (fun c => ev_ret (by rw [decide_eq_false (by omega : ¬ v.length ≤ 18)]; rfl)) (fun c => ?_)
  rw [decide_eq_true (by omega : v.length ≤ 18), Bool.true_and]
  refine loopL z_impl_PlantValve v (P := fun i r => Ev (fun k => spec_l2ValvesOk.l0 k s f p v (i : Int)) (r.all (valveB p) && chainB valveLt (ahead z_impl_PlantValve v i) r))
    (by refine Ev.step (fun k => by rw [spec_l2ValvesOk.l0]) ?_; exact ev_neg (by omega) (ev_ret rfl)) (fun i x r hi hx _ _ ih => ?_)
  refine Ev.step (fun k => by rw [spec_l2ValvesOk.l0]) (ev_pos (by omega) (ev_pos (by omega) ?_))
  rw [wsucc hi (by omega), rdV, hx]
  rw [ahead_succ, hx] at ih
  clear hx
  by_cases z : i = 0
  · subst z
    rw [ahead_zero]
    repeat' (first
      | with_reducible refine Ev.bind (l2NameOk_ev _) ?_
      | with_reducible refine Ev.bind (l2Place_ev _ _ _ _ _ hp) ?_
      | with_reducible refine ev_pos (by omega) ?_
      | with_reducible refine ev_neg (by omega) ?_
      | with_reducible refine ev_b (fun c => ?_) (fun c => ?_)
      | with_reducible refine ev_split (fun c => ?_) (fun c => ?_))
    all_goals (first
      | (with_reducible refine ev_ret ?_; simp_all [chainB, lt, ba_iff, valveB, valveLt, placeNeg_ev]; done)
      | (with_reducible refine ev_eq (ih) ?_; simp_all [chainB, lt, ba_iff, valveB, valveLt, placeNeg_ev]; done))
  · rw [pre64 z (by omega), rdV, ahead_pos _ _ _ z]
    generalize v.getD (i - 1) z_impl_PlantValve = y
    repeat' (first
      | with_reducible refine Ev.bind (l2NameOk_ev _) ?_
      | with_reducible refine Ev.bind (l2Place_ev _ _ _ _ _ hp) ?_
      | with_reducible refine ev_pos (by omega) ?_
      | with_reducible refine ev_neg (by omega) ?_
      | with_reducible refine ev_b (fun c => ?_) (fun c => ?_)
      | with_reducible refine ev_split (fun c => ?_) (fun c => ?_))
    all_goals (first
      | (with_reducible refine ev_ret ?_; simp_all [chainB, lt, ba_iff, valveB, valveLt, placeNeg_ev]; done)
      | (with_reducible refine ev_eq (ih) ?_; simp_all [chainB, lt, ba_iff, valveB, valveLt, placeNeg_ev]; done))
theorem specValid_ev (s : List ByteArray) (f : List S_impl_PlantFoe) (p : List S_impl_PlantPlace) (v : List S_impl_PlantValve) (hs : s.length ≤ 140737488351232) (hf : f.length ≤ 140737488351232) (hp : p.length ≤ 140737488351232) (hv : v.length ≤ 140737488351232) :
    Ev (fun k => spec_PlantValid.f k s f p v) (validB s f p v) := by
  unfold spec_PlantValid.f validB
  have e1 := l2Stuffs_ev s f p v hs hf
  have e2 := l2Places_ev s f p v hp
  have e3 := l2Valves_ev s f p v hp hv
  rw [← Bool.and_assoc]
  generalize ((decide (s.length ≤ 8) && decide (f.length ≤ 12)) && (namesB s && foesB s f)) = b1 at e1 ⊢
  generalize (decide (p.length ≤ 14) && placesB p) = b2 at e2 ⊢
  generalize (decide (v.length ≤ 18) && valvesB p v) = b3 at e3 ⊢
  repeat' (first
    | with_reducible refine Ev.bind (e1) ?_
    | with_reducible refine Ev.bind (e2) ?_
    | with_reducible refine Ev.bind (e3) ?_
    | with_reducible refine ev_pos (by omega) ?_
    | with_reducible refine ev_neg (by omega) ?_
    | with_reducible refine ev_b (fun c => ?_) (fun c => ?_)
    | with_reducible refine ev_split (fun c => ?_) (fun c => ?_))
  all_goals (first
    | (with_reducible refine ev_ret ?_; simp_all [chainB, lt, ba_iff]; done)
    | (with_reducible refine ev_eq (ih) ?_; simp_all [chainB, lt, ba_iff]; done))
/-! ### plants: what the program says of them -/
def mkPair (x : S_impl_PlantFoe) : S_A2_string := ⟨x.f0, x.f1⟩
theorem rdA2 (l : List S_A2_string) (i : Nat) : rd_A2_string l (i : Int) = l.getD i z_A2_string := by unfold rd_A2_string; rw [Int.toNat_natCast]
theorem pairs_ev (s : List ByteArray) (f : List S_impl_PlantFoe) (p : List S_impl_PlantPlace) (v : List S_impl_PlantValve) (hf : f.length ≤ 4398046511104) :
    Ev (fun k => impl_Plant_pairs.f k s f p v) (f.map mkPair) := by
  unfold impl_Plant_pairs.f
  have key := loopL z_impl_PlantFoe f (P := fun i r => ∀ acc : List S_A2_string, acc.length = i → Ev (fun k => impl_Plant_pairs.l0 k f acc (i : Int)) (acc ++ r.map mkPair))
    (fun acc h => by refine Ev.step (fun k => by rw [impl_Plant_pairs.l0]) ?_; exact ev_neg (by omega) (ev_ret (by simp))) (fun i x r hi hx _ _ ih acc h => ?_)
  · simpa using key [] rfl
  refine Ev.step (fun k => by rw [impl_Plant_pairs.l0]) (ev_pos (by omega) (ev_pos (by omega) (ev_pos (by omega) ?_)))
  rw [wsucc hi (by omega), rdF, hx]
  refine ev_eq (ih _ (by simp [h])) (by simp [mkPair])
def pairLt (x y : S_A2_string) : Bool := befB x.f0 x.f1 y.f0 y.f1
def pairB (x : S_A2_string) : Bool := nameB x.f0 && (nameB x.f1 && lt x.f0 x.f1)
def pairsB (l : List S_A2_string) : Bool := l.all pairB && chainB pairLt none l
theorem befB_of {a0 a1 b0 b1 : ByteArray} (h : Op.bytesLess b0.toList a0.toList = false) : befB a0 a1 b0 b1 = (decide (a0 = b0 → Op.bytesLess a1.toList b1.toList = true)) := by
  unfold befB
  rcases lt_tri a0 b0 with c | c | c
  · rw [c, decide_eq_true (fun e => absurd e (lt_ne c))]; rfl
  · subst c; rw [lt_irr, decide_eq_true rfl]
    cases q : Op.bytesLess a1.toList b1.toList <;> simp [lt, q]
  · have : Op.bytesLess b0.toList a0.toList = true := c
    rw [h] at this; cases this
theorem befB_no {a0 a1 b0 b1 : ByteArray} (h : Op.bytesLess b0.toList a0.toList = true) : befB a0 a1 b0 b1 = false := by
  unfold befB
  rw [lt_asym h, decide_eq_false (fun e => lt_ne h e.symm)]; rfl
theorem foesOk_ev (l : List S_A2_string) (a : Int) (hn : l.length ≤ 140737488351232) (h : ∀ x ∈ l, x.f0.size ≤ 140737488351232 ∧ x.f1.size ≤ 140737488351232) :
    Ev (fun k => impl_foesOk.f k l a) (pairsB l && decide ((l.length : Int) ≤ a)) := by
  unfold impl_foesOk.f
  refine loopL z_A2_string l (P := fun i r => Ev (fun k => impl_foesOk.l0 k l a (i : Int)) ((r.all pairB && chainB pairLt (ahead z_A2_string l i) r) && decide ((l.length : Int) ≤ a)))
    (by refine Ev.step (fun k => by rw [impl_foesOk.l0]) ?_; exact ev_neg (by omega) (ev_ret rfl)) (fun i x r hi hx hm _ ih => ?_)
  refine Ev.step (fun k => by rw [impl_foesOk.l0]) (ev_pos (by omega) (ev_pos (by omega) ?_))
  obtain ⟨q0, q1⟩ := h x hm
  rw [wsucc hi (by omega), rdA2, hx]
  rw [ahead_succ, hx] at ih
  generalize decide ((l.length : Int) ≤ a) = D at ih ⊢
  clear hx h hm
  by_cases z : i = 0
  · subst z
    rw [ahead_zero]
    repeat' (first
      | with_reducible refine Ev.bind (isName_ev _ q0) ?_
      | with_reducible refine Ev.bind (isName_ev _ q1) ?_
      | with_reducible refine ev_pos (by omega) ?_
      | with_reducible refine ev_neg (by omega) ?_
      | with_reducible refine ev_b (fun c => ?_) (fun c => ?_)
      | with_reducible refine ev_split (fun c => ?_) (fun c => ?_))
    all_goals (first
      | (with_reducible refine ev_ret ?_; simp_all [chainB, lt, ba_iff, pairB, pairLt]; done)
      | (with_reducible refine ev_eq (ih) ?_; simp_all [chainB, lt, ba_iff, pairB, pairLt]; done))
  · rw [pre64 z (by omega), rdA2, ahead_pos _ _ _ z]
    generalize l.getD (i - 1) z_A2_string = y
    have hb := @befB_of y.f0 y.f1 x.f0 x.f1
    have hc := @befB_no y.f0 y.f1 x.f0 x.f1
    repeat' (first
      | with_reducible refine Ev.bind (isName_ev _ q0) ?_
      | with_reducible refine Ev.bind (isName_ev _ q1) ?_
      | with_reducible refine ev_pos (by omega) ?_
      | with_reducible refine ev_neg (by omega) ?_
      | with_reducible refine ev_b (fun c => ?_) (fun c => ?_)
      | with_reducible refine ev_split (fun c => ?_) (fun c => ?_))
    all_goals (first
      | (with_reducible refine ev_ret ?_; simp_all [chainB, lt, ba_iff, pairB, pairLt]; done)
      | (with_reducible refine ev_eq (ih) ?_; simp_all [chainB, lt, ba_iff, pairB, pairLt]; done))
/-- the first place of a name -/
def placeOf (x : ByteArray) : List S_impl_PlantPlace → ByteArray × Int × ByteArray × Bool
  | [] => ((⟨#[]⟩ : ByteArray), 0, (⟨#[]⟩ : ByteArray), false)
  | y :: r => if y.f0 = x then (y.f0, y.f1, y.f2, true) else placeOf x r
theorem placeOf_has (x : ByteArray) : ∀ l : List S_impl_PlantPlace, (placeOf x l).2.2.2 = placeHas l x
  | [] => rfl
  | y :: r => by
    rw [show placeHas (y :: r) x = (decide (y.f0 = x) || placeHas r x) from rfl, ← placeOf_has x r, show placeOf x (y :: r) = if y.f0 = x then (y.f0, y.f1, y.f2, true) else placeOf x r from rfl]
    by_cases c : y.f0 = x
    · rw [if_pos c, decide_eq_true c]; rfl
    · rw [if_neg c, decide_eq_false c]; rfl
theorem place_ev (s : List ByteArray) (f : List S_impl_PlantFoe) (p : List S_impl_PlantPlace) (v : List S_impl_PlantValve) (x : ByteArray) (hp : p.length ≤ 140737488351232) :
    Ev (fun k => impl_Plant_place.f k s f p v x) (placeOf x p) := by
  unfold impl_Plant_place.f
  refine loopL z_impl_PlantPlace p (P := fun i r => Ev (fun k => impl_Plant_place.l0 k p x (i : Int)) (placeOf x r))
    (by refine Ev.step (fun k => by rw [impl_Plant_place.l0]) ?_; exact ev_neg (by omega) (ev_ret rfl)) (fun i y r hi hx _ _ ih => ?_)
  refine Ev.step (fun k => by rw [impl_Plant_place.l0]) (ev_pos (by omega) (ev_pos (by omega) ?_))
  rw [wsucc hi (by omega), rdP, hx]
  unfold placeOf
  refine ev_split (fun c => ev_ret (by rw [if_pos (ba_iff.1 c)])) (fun c => ev_eq ih (by rw [if_neg (fun e => c (ba_iff.2 e))]))
theorem implValid2_ev (s : List ByteArray) (f : List S_impl_PlantFoe) (p : List S_impl_PlantPlace) (v : List S_impl_PlantValve) (hp : p.length ≤ 140737488351232) (hv : v.length ≤ 140737488351232)
    (hz : ∀ x ∈ v, x.f0.size ≤ 140737488351232 ∧ x.f3.size ≤ 140737488351232) : Ev (fun k => impl_PlantValid.l2 k s f p v 0) (valvesB p v) := by
  refine loopL z_impl_PlantValve v (P := fun i r => Ev (fun k => impl_PlantValid.l2 k s f p v (i : Int)) (r.all (valveB p) && chainB valveLt (ahead z_impl_PlantValve v i) r))
    (by refine Ev.step (fun k => by rw [impl_PlantValid.l2]) ?_; exact ev_neg (by omega) (ev_ret rfl)) (fun i x r hi hx hm _ ih => ?_)
  obtain ⟨q0, q1⟩ := hz x hm
  rw [ahead_succ, hx] at ih
  have j0 : ∀ (b : Bool) (R : Bool), R = (!b && (r.all (valveB p) && chainB valveLt (some x) r)) → Ev (fun k => impl_PlantValid.j0 k s f p v (i : Int) b) R := fun b R hR => by
    subst hR
    refine Ev.step (fun k => by rw [impl_PlantValid.j0]) ?_
    rw [wsucc hi (by omega)]
    cases b
    · exact ev_neg (by simp) ih
    · exact ev_pos rfl (ev_ret rfl)
  refine Ev.step (fun k => by rw [impl_PlantValid.l2]) (ev_pos (by omega) (ev_pos (by omega) ?_))
  rw [rdV, hx]
  refine Ev.bind (place_ev s f p v _ hp) (Ev.bind (place_ev s f p v _ hp) ?_)
  rw [placeOf_has, placeOf_has]
  clear hx hz hm
  by_cases z : i = 0
  · subst z
    rw [ahead_zero]
    repeat' (first | with_reducible refine Ev.bind (isName_ev _ q0) ?_ | with_reducible refine Ev.bind (isName_ev _ q1) ?_ | with_reducible refine ev_pos (by omega) ?_ | with_reducible refine ev_neg (by omega) ?_ | with_reducible refine ev_b (fun c => ?_) (fun c => ?_))
    all_goals (with_reducible refine j0 _ _ ?_; simp_all [chainB, valveB, lt])
  · rw [pre64 z (by omega), rdV, ahead_pos _ _ _ z]
    generalize v.getD (i - 1) z_impl_PlantValve = y
    repeat' (first | with_reducible refine Ev.bind (isName_ev _ q0) ?_ | with_reducible refine Ev.bind (isName_ev _ q1) ?_ | with_reducible refine ev_pos (by omega) ?_ | with_reducible refine ev_neg (by omega) ?_ | with_reducible refine ev_b (fun c => ?_) (fun c => ?_))
    all_goals (with_reducible refine j0 _ _ ?_; first | (simp_all [chainB, valveB, valveLt, lt]; done) | (simp_all [chainB, valveB, valveLt, lt, Bool.and_left_comm]; done))
theorem implValid1_ev (s : List ByteArray) (f : List S_impl_PlantFoe) (p : List S_impl_PlantPlace) (v : List S_impl_PlantValve) (hp : p.length ≤ 140737488351232) (hv : v.length ≤ 140737488351232)
    (hz : ∀ x ∈ v, x.f0.size ≤ 140737488351232 ∧ x.f3.size ≤ 140737488351232) (hy : ∀ x ∈ p, x.f0.size ≤ 140737488351232 ∧ x.f2.size ≤ 140737488351232) : Ev (fun k => impl_PlantValid.l1 k s f p v 0) (placesB p && valvesB p v) := by
  have L2 := implValid2_ev s f p v hp hv hz
  generalize valvesB p v = T at L2 ⊢
  refine loopL z_impl_PlantPlace p (P := fun i r => Ev (fun k => impl_PlantValid.l1 k s f p v (i : Int)) ((r.all placeB && chainB placeLt (ahead z_impl_PlantPlace p i) r) && T))
    (by refine Ev.step (fun k => by rw [impl_PlantValid.l1]) ?_; exact ev_neg (by omega) L2) (fun i x r hi hx hm _ ih => ?_)
  refine Ev.step (fun k => by rw [impl_PlantValid.l1]) (ev_pos (by omega) (ev_pos (by omega) ?_))
  obtain ⟨q0, q1⟩ := hy x hm
  rw [wsucc hi (by omega), rdP, hx]
  rw [ahead_succ, hx] at ih
  clear hx hz hy hm L2
  by_cases d : 0 ≤ x.f1 ∧ x.f1 ≤ 1000
  · have hd := inB_t d
    by_cases z : i = 0
    · subst z
      rw [ahead_zero]
      repeat' (first
        | with_reducible refine Ev.bind (isName_ev _ q0) ?_
        | with_reducible refine Ev.bind (isName_ev _ q1) ?_
        | with_reducible refine ev_pos (by omega) ?_
        | with_reducible refine ev_neg (by omega) ?_
        | with_reducible refine ev_b (fun c => ?_) (fun c => ?_)
        | with_reducible refine ev_split (fun c => ?_) (fun c => ?_))
      all_goals (first
        | (with_reducible refine ev_ret ?_; simp_all [chainB, lt, ba_iff, placeB, placeLt]; done)
        | (with_reducible refine ev_eq (ih) ?_; simp_all [chainB, lt, ba_iff, placeB, placeLt]; done))
    · rw [pre64 z (by omega), rdP, ahead_pos _ _ _ z]
      generalize p.getD (i - 1) z_impl_PlantPlace = y
      repeat' (first
        | with_reducible refine Ev.bind (isName_ev _ q0) ?_
        | with_reducible refine Ev.bind (isName_ev _ q1) ?_
        | with_reducible refine ev_pos (by omega) ?_
        | with_reducible refine ev_neg (by omega) ?_
        | with_reducible refine ev_b (fun c => ?_) (fun c => ?_)
        | with_reducible refine ev_split (fun c => ?_) (fun c => ?_))
      all_goals (first
        | (with_reducible refine ev_ret ?_; simp_all [chainB, lt, ba_iff, placeB, placeLt]; done)
        | (with_reducible refine ev_eq (ih) ?_; simp_all [chainB, lt, ba_iff, placeB, placeLt]; done))
  · have hd := inB_f d
    refine Ev.bind (isName_ev _ q0) (ev_b (fun c => ev_split (fun c1 => ev_ret ?_) (fun c1 => ev_pos (by omega) (ev_ret ?_))) (fun c => ev_ret ?_))
    all_goals simp_all [placeB]
theorem implValid0_ev (s : List ByteArray) (f : List S_impl_PlantFoe) (p : List S_impl_PlantPlace) (v : List S_impl_PlantValve) (hs : s.length ≤ 140737488351232) (hf : f.length ≤ 140737488351232) (hp : p.length ≤ 140737488351232) (hv : v.length ≤ 140737488351232)
    (hz : ∀ x ∈ v, x.f0.size ≤ 140737488351232 ∧ x.f3.size ≤ 140737488351232) (hy : ∀ x ∈ p, x.f0.size ≤ 140737488351232 ∧ x.f2.size ≤ 140737488351232) :
    Ev (fun k => impl_PlantValid.l0 k s f p v 0) (f.all (fun x => hasB s x.f0 && hasB s x.f1) && (placesB p && valvesB p v)) := by
  have L1 := implValid1_ev s f p v hp hv hz hy
  generalize (placesB p && valvesB p v) = T at L1 ⊢
  refine loopL z_impl_PlantFoe f (P := fun i r => Ev (fun k => impl_PlantValid.l0 k s f p v (i : Int)) (r.all (fun x => hasB s x.f0 && hasB s x.f1) && T))
    (by refine Ev.step (fun k => by rw [impl_PlantValid.l0]) ?_; exact ev_neg (by omega) L1) (fun i x r hi hx hm _ ih => ?_)
  refine Ev.step (fun k => by rw [impl_PlantValid.l0]) (ev_pos (by omega) (ev_pos (by omega) ?_))
  rw [wsucc hi (by omega), rdF, hx]
  clear hx hz hy hm L1
  repeat' (first
    | with_reducible refine Ev.bind (has_ev _ _ hs) ?_
    | with_reducible refine ev_pos (by omega) ?_
    | with_reducible refine ev_neg (by omega) ?_
    | with_reducible refine ev_b (fun c => ?_) (fun c => ?_)
    | with_reducible refine ev_split (fun c => ?_) (fun c => ?_))
  all_goals (first
    | (with_reducible refine ev_ret ?_; simp_all [chainB, lt, ba_iff]; done)
    | (with_reducible refine ev_eq (ih) ?_; simp_all [chainB, lt, ba_iff]; done))
theorem hasB_name {s : List ByteArray} {x : ByteArray} (hn : namesB s = true) (h : hasB s x = true) : nameB x = true := by
  unfold namesB at hn
  rw [Bool.and_eq_true] at hn
  exact List.all_eq_true.1 hn.1 x (hasB_iff.1 h)
theorem chain_map {α β : Type} {p : α → α → Bool} {q : β → β → Bool} (g : α → β) (h : ∀ x y, q (g x) (g y) = p x y) : ∀ (r : List α) (o : Option α), chainB q (o.map g) (r.map g) = chainB p o r
  | [], o => by cases o <;> rfl
  | x :: r, none => chain_map g h r (some x)
  | x :: r, some y => by
    show (q (g y) (g x) && chainB q (some (g x)) (r.map g)) = (p y x && chainB p (some x) r)
    rw [h]; congr 1; exact chain_map g h r (some x)
theorem foes_all (s : List ByteArray) (hn : namesB s = true) : ∀ f : List S_impl_PlantFoe, ((f.map mkPair).all pairB && f.all (fun x => hasB s x.f0 && hasB s x.f1)) = f.all (foeB s)
  | [] => rfl
  | x :: r => by
    rw [List.map_cons, List.all_cons, List.all_cons, List.all_cons, ← foes_all s hn r]
    have h0 := @hasB_name s x.f0 hn
    have h1 := @hasB_name s x.f1 hn
    unfold pairB foeB mkPair
    simp only
    generalize nameB x.f0 = a0 at *
    generalize nameB x.f1 = a1 at *
    generalize hasB s x.f0 = b0 at *
    generalize hasB s x.f1 = b1 at *
    generalize lt x.f0 x.f1 = c at *
    generalize List.all (List.map _ _) _ = d at *
    generalize List.all _ _ = d2 at *
    revert a0 a1 b0 b1 c d d2
    decide
theorem foes_same (s : List ByteArray) (f : List S_impl_PlantFoe) (hn : namesB s = true) : (pairsB (f.map mkPair) && f.all (fun x => hasB s x.f0 && hasB s x.f1)) = foesB s f := by
  unfold pairsB foesB
  rw [show chainB pairLt none (f.map mkPair) = chainB foeLt none f from chain_map mkPair (fun _ _ => rfl) f none]
  rw [← foes_all s hn f]
  generalize List.all (List.map _ _) _ = d at *
  generalize List.all _ _ = d2 at *
  generalize chainB _ _ _ = d3 at *
  revert d d2 d3
  decide
structure SzP (s : List ByteArray) (f : List S_impl_PlantFoe) (p : List S_impl_PlantPlace) (v : List S_impl_PlantValve) : Prop where
  hs : s.length ≤ 140737488351232
  hf : f.length ≤ 4398046511104
  hp : p.length ≤ 140737488351232
  hv : v.length ≤ 140737488351232
  s1 : ∀ x ∈ s, x.size ≤ 140737488351232
  f1 : ∀ x ∈ f, x.f0.size ≤ 140737488351232 ∧ x.f1.size ≤ 140737488351232
  p1 : ∀ x ∈ p, x.f0.size ≤ 140737488351232 ∧ x.f2.size ≤ 140737488351232
  v1 : ∀ x ∈ v, x.f0.size ≤ 140737488351232 ∧ x.f3.size ≤ 140737488351232
theorem implValid_ev (s : List ByteArray) (f : List S_impl_PlantFoe) (p : List S_impl_PlantPlace) (v : List S_impl_PlantValve) (z : SzP s f p v) :
    Ev (fun k => impl_PlantValid.f k s f p v) (validB s f p v) := by
  unfold impl_PlantValid.f validB
  have hf := z.hf
  have e0 := implValid0_ev s f p v z.hs (by omega) z.hp z.hv z.v1 z.p1
  have eN := names_ev s z.hs z.s1
  have eF := foesOk_ev (f.map mkPair) 12 (by rw [List.length_map]; omega) (fun x hx => by obtain ⟨y, hy, rfl⟩ := List.mem_map.1 hx; exact z.f1 y hy)
  have eP := pairs_ev s f p v hf
  have hsame := foes_same s f
  rw [List.length_map, show decide ((f.length : Int) ≤ 12) = decide (f.length ≤ 12) from decide_eq_decide.2 (by omega)] at eF
  generalize pairsB (f.map mkPair) = b1 at eF hsame
  generalize f.all (fun x => hasB s x.f0 && hasB s x.f1) = b2 at e0 hsame
  generalize foesB s f = b3 at hsame ⊢
  generalize placesB p = b4 at e0 ⊢
  generalize valvesB p v = b5 at e0 ⊢
  generalize namesB s = b6 at eN hsame ⊢
  generalize decide (f.length ≤ 12) = b7 at eF ⊢
  refine ev_split (fun c => ev_ret ?_) (fun c => Ev.bind eN (ev_b (fun c6 => ?_) (fun c6 => ev_ret ?_)))
  · rw [decide_eq_false (by omega : ¬ s.length ≤ 8)]; rfl
  · subst c6
    have hsame := hsame rfl
    subst hsame
    rw [decide_eq_true (by omega : s.length ≤ 8)]
    refine Ev.bind eP (Ev.bind eF (ev_b (fun c1 => ?_) (fun c1 => ev_ret ?_)))
    · rw [Bool.and_eq_true] at c1
      obtain ⟨rfl, rfl⟩ := c1
      refine ev_split (fun d => ev_ret ?_) (fun d => ev_split (fun d2 => ev_ret ?_) (fun d2 => ev_eq e0 ?_))
      · rw [decide_eq_false (by omega : ¬ p.length ≤ 14)]; simp
      · rw [decide_eq_false (by omega : ¬ v.length ≤ 18)]; simp
      · rw [decide_eq_true (by omega : p.length ≤ 14), decide_eq_true (by omega : v.length ≤ 18)]; simp
    · clear e0 eN eF
      generalize decide (p.length ≤ 14) = d1
      generalize decide (v.length ≤ 18) = d2
      revert b1 b2 b4 b5 b7 d1 d2
      decide
  · subst c6; simp
/-! ### lists that rise -/
def SortedL (l : List ByteArray) : Prop := l.Pairwise fun x y => lt x y = true
theorem chain_head {α : Type} {p : α → α → Bool} (ht : ∀ x y z, p x y = true → p y z = true → p x z = true) : ∀ (r : List α) (y : α), chainB p (some y) r = true → (∀ x ∈ r, p y x = true) ∧ r.Pairwise fun x y => p x y = true
  | [], _, _ => ⟨fun x h => (by cases h), List.Pairwise.nil⟩
  | x :: r, y, h => by
    have h : (p y x && chainB p (some x) r) = true := h
    rw [Bool.and_eq_true] at h
    obtain ⟨g1, g2⟩ := chain_head ht r x h.2
    refine ⟨fun z hz => ?_, List.pairwise_cons.2 ⟨g1, g2⟩⟩
    rcases List.mem_cons.1 hz with rfl | hz
    · exact h.1
    · exact ht _ _ _ h.1 (g1 z hz)
theorem chain_pair {α : Type} {p : α → α → Bool} (ht : ∀ x y z, p x y = true → p y z = true → p x z = true) (l : List α) (h : chainB p none l = true) : l.Pairwise fun x y => p x y = true := by
  cases l with
  | nil => exact List.Pairwise.nil
  | cons x r =>
    have h : chainB p (some x) r = true := h
    obtain ⟨g1, g2⟩ := chain_head ht r x h
    exact List.pairwise_cons.2 ⟨g1, g2⟩
theorem sorted_of {l : List ByteArray} (h : chainB lt none l = true) : SortedL l := chain_pair (p := lt) (fun _ _ _ h k => lt_trans h k) l h
theorem sorted_ext : ∀ (l m : List ByteArray), SortedL l → SortedL m → (∀ x, x ∈ l ↔ x ∈ m) → l = m
  | [], [], _, _, _ => rfl
  | [], y :: m, _, _, h => by have := (h y).2 (List.mem_cons_self ..); cases this
  | x :: l, [], _, _, h => by have := (h x).1 (List.mem_cons_self ..); cases this
  | x :: l, y :: m, hl, hm, h => by
    obtain ⟨l1, l2⟩ := List.pairwise_cons.1 hl
    obtain ⟨m1, m2⟩ := List.pairwise_cons.1 hm
    have e : x = y := by
      rcases List.mem_cons.1 ((h x).1 (List.mem_cons_self ..)) with e | hx
      · exact e
      · rcases List.mem_cons.1 ((h y).2 (List.mem_cons_self ..)) with e | hy
        · exact e.symm
        · have := lt_asym (l1 y hy); rw [m1 x hx] at this; cases this
    subst e
    congr 1
    refine sorted_ext l m l2 m2 (fun z => ⟨fun hz => ?_, fun hz => ?_⟩)
    · rcases List.mem_cons.1 ((h z).1 (List.mem_cons_of_mem _ hz)) with e | hz'
      · subst e; exact absurd rfl (lt_ne (l1 z hz))
      · exact hz'
    · rcases List.mem_cons.1 ((h z).2 (List.mem_cons_of_mem _ hz)) with e | hz'
      · subst e; exact absurd rfl (lt_ne (m1 z hz))
      · exact hz'
def insertL (x : ByteArray) : List ByteArray → List ByteArray
  | [] => [x]
  | y :: r => if lt y x = true then y :: insertL x r else if y = x then y :: r else x :: y :: r
theorem insertL_mem (x z : ByteArray) : ∀ l : List ByteArray, z ∈ insertL x l ↔ z = x ∨ z ∈ l
  | [] => by simp [insertL]
  | y :: r => by
    have ih := insertL_mem x z r
    unfold insertL
    split
    · rw [List.mem_cons, ih, List.mem_cons]
      constructor
      · rintro (h | h | h)
        · exact .inr (.inl h)
        · exact .inl h
        · exact .inr (.inr h)
      · rintro (h | h | h)
        · exact .inr (.inl h)
        · exact .inl h
        · exact .inr (.inr h)
    · split
      · rename_i e
        subst e
        rw [List.mem_cons]
        exact ⟨fun h => .inr h, fun h => h.elim .inl id⟩
      · rw [List.mem_cons]
theorem insertL_sorted (x : ByteArray) : ∀ l : List ByteArray, SortedL l → SortedL (insertL x l)
  | [], _ => List.pairwise_singleton _ _
  | y :: r, h => by
    obtain ⟨h1, h2⟩ := List.pairwise_cons.1 h
    unfold insertL
    split
    · rename_i c
      refine List.pairwise_cons.2 ⟨fun z hz => ?_, insertL_sorted x r h2⟩
      rcases (insertL_mem x z r).1 hz with rfl | hz
      · exact c
      · exact h1 z hz
    · rename_i c
      split
      · exact h
      · rename_i e
        have hlt : lt x y = true := by
          rcases lt_tri x y with q | q | q
          · exact q
          · exact absurd q.symm e
          · exact absurd q c
        refine List.pairwise_cons.2 ⟨fun z hz => ?_, h⟩
        rcases List.mem_cons.1 hz with rfl | hz
        · exact hlt
        · exact lt_trans hlt (h1 z hz)
theorem insertL_len (x : ByteArray) : ∀ l : List ByteArray, (insertL x l).length ≤ l.length + 1
  | [] => by simp [insertL]
  | y :: r => by
    have := insertL_len x r
    unfold insertL
    split
    · simp; omega
    · split <;> simp
theorem l4Insert_ev (l : List ByteArray) (x : ByteArray) (hn : l.length ≤ 1000000) : Ev (fun k => spec_l4Insert.f k l x) (insertL x l) := by
  unfold spec_l4Insert.f
  refine ev_eq (loopL ByteArray.empty l (P := fun i r => l.drop i = r → Ev (fun k => spec_l4Insert.l0 k l x (i : Int)) (l.take i ++ insertL x r)) (fun _ => ?_) (fun i y r hi hy _ hr ih hd => ?_) rfl) (by simp)
  · refine Ev.step (fun k => by rw [spec_l4Insert.l0]) ?_
    refine ev_neg (by omega) (ev_pos (by omega) (ev_pos (by omega) (ev_pos (by rw [Int.toNat_natCast]; omega) (ev_pos (by rw [Int.toNat_natCast]; omega) (ev_pos (by rw [Int.toNat_natCast]; omega) (ev_ret ?_))))))
    simp [insertL]
  · refine Ev.step (fun k => by rw [spec_l4Insert.l0]) (ev_pos (by omega) (ev_pos (by omega) ?_))
    rw [rdOf_nat, hy, wsucc hi (by omega), Int.toNat_natCast]
    have ht : l.take (i + 1) = l.take i ++ [y] := by rw [List.take_succ_eq_append_getElem hi, ← getD_eq ByteArray.empty l i hi, hy]
    refine ev_b (fun c => ev_eq (ih hr) ?_) (fun c => ev_split (fun e => ev_ret ?_) (fun e => ?_))
    · have c : lt y x = true := c
      rw [ht, show insertL x (y :: r) = y :: insertL x r from if_pos c]; simp
    · have c : lt y x = false := c
      rw [show insertL x (y :: r) = if lt y x = true then y :: insertL x r else if y = x then y :: r else x :: y :: r from rfl, c, if_neg (by simp), if_pos (ba_iff.1 e), ← hd, List.take_append_drop]
    · have c : lt y x = false := c
      refine ev_pos (by omega) (ev_pos (by omega) (ev_pos (by omega) (ev_pos (by omega) (ev_ret ?_))))
      rw [show insertL x (y :: r) = if lt y x = true then y :: insertL x r else if y = x then y :: r else x :: y :: r from rfl, c, if_neg (by simp), if_neg (fun q => e (ba_iff.2 q)), ← hd]
      simp
/-! ### sets of texts: rising lists -/
theorem sorted_nodup {l : List ByteArray} (h : SortedL l) : l.Nodup := List.Pairwise.imp (fun h => lt_ne h) h
theorem sortN_ev (a : List ByteArray) (h : a.length ≤ 4611686018427387903) (hn : a.Nodup) : ∃ r, Ev (fun _ => sort_Strings.f a) r ∧ SortedL r ∧ ∀ x, x ∈ r ↔ x ∈ a := by
  have e : sortSf a = some (sortS a) := by unfold sortSf; rw [if_pos (by omega)]
  refine ⟨sortS a, ?_, sortS_nd e hn, sortS_mem e⟩
  unfold sort_Strings.f
  rw [e]
  exact Ev.now _
/-- a set, and more put into it -/
def setW (a b : List ByteArray) : List ByteArray := b.foldl (fun l x => insertL x l) a
theorem setW_sorted : ∀ (b a : List ByteArray), SortedL a → SortedL (setW a b)
  | [], _, h => h
  | x :: b, a, h => setW_sorted b _ (insertL_sorted x a h)
theorem setW_mem (z : ByteArray) : ∀ (b a : List ByteArray), z ∈ setW a b ↔ z ∈ a ∨ z ∈ b
  | [], a => by simp [setW]
  | x :: b, a => by
    rw [show setW a (x :: b) = setW (insertL x a) b from rfl, setW_mem z b, insertL_mem, List.mem_cons]
    constructor
    · rintro ((h | h) | h)
      · exact .inr (.inl h)
      · exact .inl h
      · exact .inr (.inr h)
    · rintro (h | h | h)
      · exact .inl (.inr h)
      · exact .inl (.inl h)
      · exact .inr h
theorem setW_len : ∀ (b a : List ByteArray), (setW a b).length ≤ a.length + b.length
  | [], a => by simp [setW]
  | x :: b, a => by
    have := setW_len b (insertL x a)
    have := insertL_len x a
    rw [show setW a (x :: b) = setW (insertL x a) b from rfl, List.length_cons]
    omega
theorem sorted_nil : SortedL [] := List.Pairwise.nil
theorem setW_eq {a b c : List ByteArray} (hc : SortedL c) (ha : SortedL a) (h : ∀ x, x ∈ c ↔ x ∈ a ∨ x ∈ b) : c = setW a b :=
  sorted_ext _ _ hc (setW_sorted b a ha) (fun x => by rw [h, setW_mem])
theorem withN_ev (a b : List ByteArray) (ha : a.Nodup) (h : a.length + b.length ≤ 8796093022207) : ∃ r, Ev (fun k => impl_with.f k a b) r ∧ SortedL r ∧ ∀ x, x ∈ r ↔ x ∈ a ∨ x ∈ b := by
  have key := loopL ByteArray.empty b (P := fun i d => i + d.length = b.length → ∀ acc : List ByteArray, acc.Nodup → acc.length ≤ a.length + i → ∃ r, Ev (fun k => impl_with.l0 k a b acc (i : Int)) r ∧ SortedL r ∧ ∀ x, x ∈ r ↔ x ∈ acc ∨ x ∈ d)
    (fun _ acc hnd hacc => by
      obtain ⟨r, h1, h2, h3⟩ := sortN_ev acc (by omega) hnd
      refine ⟨r, Ev.step (fun k => by rw [impl_with.l0]) (ev_neg (by omega) (Ev.bind h1 (ev_ret rfl))), h2, fun x => by rw [h3]; simp⟩)
    (fun i y d hi hy hm hd ih hl acc hnd hacc => by
      rw [List.length_cons] at hl
      have hh := has_ev acc y (by omega)
      cases c : hasB acc y with
      | true =>
        rw [c] at hh
        obtain ⟨r, h1, h2, h3⟩ := ih (by omega) acc hnd (by omega)
        refine ⟨r, Ev.step (fun k => by rw [impl_with.l0]) (ev_pos (by omega) (ev_pos (by omega) ?_)), h2, fun x => ?_⟩
        · rw [wsucc hi (by omega), rdOf_nat, hy]
          exact Ev.bind hh (ev_pos rfl h1)
        · rw [h3, List.mem_cons]
          have := hasB_iff.1 c
          constructor
          · rintro (q | q)
            · exact .inl q
            · exact .inr (.inr q)
          · rintro (q | q | q)
            · exact .inl q
            · exact .inl (q ▸ this)
            · exact .inr q
      | false =>
        rw [c] at hh
        have hni : y ∉ acc := fun q => by rw [hasB_iff.2 q] at c; cases c
        obtain ⟨r, h1, h2, h3⟩ := ih (by omega) (acc ++ [y]) (List.nodup_append.2 ⟨hnd, by simp, fun u hu v hv e => by rw [List.mem_singleton] at hv; subst hv; exact hni (e ▸ hu)⟩) (by rw [List.length_append, List.length_singleton]; omega)
        refine ⟨r, Ev.step (fun k => by rw [impl_with.l0]) (ev_pos (by omega) (ev_pos (by omega) ?_)), h2, fun x => ?_⟩
        · rw [wsucc hi (by omega), rdOf_nat, hy]
          exact Ev.bind hh (ev_neg (by simp) (ev_pos (by omega) h1))
        · rw [h3, List.mem_cons, List.mem_append, List.mem_singleton, or_assoc])
  obtain ⟨r, h1, h2, h3⟩ := key (by omega) a ha (by omega)
  refine ⟨r, ?_, h2, h3⟩
  unfold impl_with.f
  exact ev_pos (by omega) h1
theorem setW_ev (a b : List ByteArray) (ha : SortedL a) (h : a.length + b.length ≤ 8796093022207) : Ev (fun k => impl_with.f k a b) (setW a b) := by
  obtain ⟨r, h1, h2, h3⟩ := withN_ev a b (sorted_nodup ha) h
  exact setW_eq h2 ha h3 ▸ h1
/-! ### lists without doubles -/
theorem nodup_len : ∀ (l m : List ByteArray), l.Nodup → l ⊆ m → l.length ≤ m.length
  | [], m, _, _ => Nat.zero_le _
  | x :: l, m, h, hs => by
    obtain ⟨h1, h2⟩ := List.nodup_cons.1 h
    obtain ⟨s, r, rfl⟩ := List.append_of_mem (hs (List.mem_cons_self ..))
    have := nodup_len l (s ++ r) h2 (fun z hz => by
      have hz2 := hs (List.mem_cons_of_mem _ hz)
      rcases List.mem_append.1 hz2 with q | q
      · exact List.mem_append_left _ q
      · rcases List.mem_cons.1 q with q | q
        · rw [q] at hz; exact absurd hz h1
        · exact List.mem_append_right _ q)
    rw [List.length_append] at this
    rw [List.length_append, List.length_cons, List.length_cons]; omega
/-! ### numbers, written -/
def decD (u : Nat) : List UInt8 := if h : u < 10 then [UInt8.ofNat (48 + u)] else decD (u / 10) ++ [UInt8.ofNat (48 + u % 10)]
termination_by u
decreasing_by omega
theorem dec_small {n : Nat} (h : n < 10) : decD n = [UInt8.ofNat (48 + n)] := by rw [decD, dif_pos h]
theorem dec_big {n : Nat} (h : ¬ n < 10) : decD n = decD (n / 10) ++ [UInt8.ofNat (48 + n % 10)] := by rw [decD, dif_neg h]
theorem dec_len : ∀ (m n : Nat), n ≤ m → (decD n).length ≤ n + 1
  | m, n, h => by
    by_cases c : n < 10
    · rw [dec_small c]; simp
    · rw [dec_big c]
      have := dec_len (n / 10) (n / 10) (Nat.le_refl _)
      simp; omega
termination_by m n => n
decreasing_by omega
def decB (n : Int) : ByteArray := ⟨(decD n.toNat).toArray⟩
theorem decB_size {n : Int} (h0 : 0 ≤ n) (h : n ≤ 10000) : (decB n).size ≤ 10001 := by
  have := dec_len n.toNat n.toNat (Nat.le_refl _)
  show (decD n.toNat).toArray.size ≤ 10001
  rw [List.size_toArray]; omega
theorem dig (d : Int) (h0 : 0 ≤ d) (h1 : d < 10) : UInt8.ofNat (IntKind.wrap .u8 (wrap64 (48 + d))).toNat = UInt8.ofNat (48 + d.toNat) := by
  have : d = 0 ∨ d = 1 ∨ d = 2 ∨ d = 3 ∨ d = 4 ∨ d = 5 ∨ d = 6 ∨ d = 7 ∨ d = 8 ∨ d = 9 := by omega
  rcases this with rfl | rfl | rfl | rfl | rfl | rfl | rfl | rfl | rfl | rfl <;> decide +kernel
theorem ba_app (a b : List UInt8) : (⟨a.toArray⟩ : ByteArray) ++ ⟨b.toArray⟩ = ⟨(a ++ b).toArray⟩ := by
  apply ByteArray.ext
  simp [ByteArray.data_append]
theorem l3Dec_ev : ∀ (m : Nat) (n : Int), 0 ≤ n → n ≤ 10000 → n.toNat ≤ m → Ev (fun k => spec_l3Dec.f k n) (decB n)
  | m, n, h0, h1, hm => by
    refine Ev.step (fun k => by rw [spec_l3Dec.f]) ?_
    by_cases c : n < 10
    · refine ev_pos c (ev_ret ?_)
      unfold decB
      rw [dec_small (by omega), dig n h0 c]
    · have e1 : wrap64 (Int.tdiv n 10) = n / 10 := by rw [Int.tdiv_eq_ediv_of_nonneg h0]; exact w64 (by omega) (by omega)
      have e2 : Int.tmod n 10 = n % 10 := Int.tmod_eq_emod_of_nonneg h0
      rw [e1, e2, dig (n % 10) (by omega) (by omega)]
      have hs := decB_size (n := n / 10) (by omega) (by omega)
      refine ev_neg c (Ev.bind (l3Dec_ev (n / 10).toNat (n / 10) (by omega) (by omega) (Nat.le_refl _)) (ev_pos ?_ (ev_ret ?_)))
      · have : (⟨#[UInt8.ofNat (48 + (n % 10).toNat)]⟩ : ByteArray).size = 1 := rfl
        rw [this]; omega
      · unfold decB
        rw [dec_big (n := n.toNat) (by omega), show (n / 10).toNat = n.toNat / 10 by omega, show (n % 10).toNat = n.toNat % 10 by omega]
        exact ba_app _ _
termination_by m n => n.toNat
decreasing_by omega
/-! ### numbers drawn -/
theorem xorI_nat (a b : Nat) (ha : a < 2 ^ 62) (hb : b < 2 ^ 62) : xorI .i64 (a : Int) (b : Int) = ((a ^^^ b : Nat) : Int) := by
  have hx : a ^^^ b < 2 ^ 62 := Nat.xor_lt_two_pow ha hb
  have ha' : a % 2 ^ IntKind.i64.bits = a := Nat.mod_eq_of_lt (Nat.lt_trans ha (by decide))
  have hb' : b % 2 ^ IntKind.i64.bits = b := Nat.mod_eq_of_lt (Nat.lt_trans hb (by decide))
  have e : xorI .i64 (a : Int) (b : Int) = IntKind.i64.wrap ((a ^^^ b : Nat) : Int) := by
    simp only [xorI, BitVec.ofInt_natCast, BitVec.toNat_xor, BitVec.toNat_ofNat, ha', hb']
  rw [e, IntKind.wrap_i64]
  generalize a ^^^ b = n at hx ⊢
  have : (2 : Nat) ^ 62 = 4611686018427387904 := by decide
  omega
theorem xorI_range {a b : Int} (h0 : 0 ≤ a) (h1 : a ≤ 1000000000000000) (h2 : 0 ≤ b) (h3 : b ≤ 1000000000000000) : 0 ≤ xorI .i64 a b := by
  obtain ⟨m, rfl⟩ : ∃ m : Nat, a = (m : Int) := ⟨a.toNat, by omega⟩
  obtain ⟨n, rfl⟩ : ∃ n : Nat, b = (n : Int) := ⟨b.toNat, by omega⟩
  rw [xorI_nat m n (by have : (2 : Nat) ^ 62 = 4611686018427387904 := by decide
                       omega) (by have : (2 : Nat) ^ 62 = 4611686018427387904 := by decide
                                  omega)]
  omega
structure Bytes (b : List Int) : Prop where
  len : b.length ≤ 2000
  byte : ∀ i, i < b.length → 0 ≤ b.getD i 0 ∧ b.getD i 0 ≤ 255
theorem Bytes.rd {b : List Int} (h : Bytes b) (i : Int) (h0 : 0 ≤ i) (h1 : i < b.length) : 0 ≤ rd b i ∧ rd b i ≤ 255 := by
  obtain ⟨n, rfl⟩ : ∃ n : Nat, i = (n : Int) := ⟨i.toNat, by omega⟩
  rw [rd_nat]
  exact h.byte n (by omega)
theorem pick_ok {b : List Int} (hb : Bytes b) (p n : Int) (hp : 0 ≤ p) (hp1 : p ≤ 1000000000) (hn : n ≤ 1000000000) :
    ∃ v, (0 ≤ v ∧ (1 ≤ n → v < n) ∧ (n < 1 → v = 0)) ∧ spec_l1Rd_pick.f b p n = some (v, b, p + 1) := by
  unfold spec_l1Rd_pick.f
  have hw : wrap64 (wrap64 (p + 1) - 1) = p := by rw [w64 (x := p + 1) (by omega) (by omega), w64 (by omega) (by omega)]; omega
  rw [hw, w64 (x := p + 1) (by omega) (by omega)]
  by_cases c : n < 1
  · exact ⟨0, ⟨by omega, by omega, by omega⟩, by rw [if_pos c]⟩
  by_cases e : (b.length : Int) = 0
  · exact ⟨0, ⟨by omega, by omega, by omega⟩, by rw [if_neg c, if_pos e]⟩
  have hl := hb.len
  have fin : ∀ x : Int, 0 ≤ x → (0 ≤ Int.tmod x n ∧ (1 ≤ n → Int.tmod x n < n) ∧ (n < 1 → Int.tmod x n = 0)) := fun x hx => by
    rw [Int.tmod_eq_emod_of_nonneg hx]
    exact ⟨Int.emod_nonneg _ (by omega), fun _ => Int.emod_lt_of_pos _ (by omega), fun q => by omega⟩
  rw [if_neg c, if_neg e]
  by_cases q : p < (b.length : Int)
  · have hr := hb.rd p hp q
    exact ⟨_, fin (wrap64 (rd b p)) (by rw [w64 (by omega) (by omega)]; omega), by rw [if_pos q, if_pos hp, if_pos (by omega)]⟩
  have h7 : wrap64 (wrap64 (p * 7) + 3) = p * 7 + 3 := by rw [w64 (x := p * 7) (by omega) (by omega), w64 (by omega) (by omega)]
  have m1 : Int.tmod p (b.length : Int) = p % (b.length : Int) := Int.tmod_eq_emod_of_nonneg hp
  have m2 : Int.tmod (p * 7 + 3) (b.length : Int) = (p * 7 + 3) % (b.length : Int) := Int.tmod_eq_emod_of_nonneg (by omega)
  have d1 : Int.tdiv p (b.length : Int) = p / (b.length : Int) := Int.tdiv_eq_ediv_of_nonneg hp
  have r1 := Int.emod_nonneg p e
  have r2 := Int.emod_lt_of_pos p (show (0 : Int) < (b.length : Int) by omega)
  have r3 := Int.emod_nonneg (p * 7 + 3) e
  have r4 := Int.emod_lt_of_pos (p * 7 + 3) (show (0 : Int) < (b.length : Int) by omega)
  have v1 := hb.rd _ r1 r2
  have v2 := hb.rd _ r3 r4
  have dv0 : 0 ≤ p / (b.length : Int) := Int.ediv_nonneg hp (by omega)
  have dv1 : p / (b.length : Int) ≤ p := Int.ediv_le_self _ hp
  rw [h7, m1, m2, d1, if_neg q, if_pos e, if_pos r1, if_pos r2, if_pos r3, if_pos r4, if_pos (show n ≠ 0 by omega)]
  generalize rd b (p % (b.length : Int)) = u1 at *
  generalize rd b ((p * 7 + 3) % (b.length : Int)) = u2 at *
  generalize p / (b.length : Int) = u3 at *
  rw [w64 (x := u1) (by omega) (by omega), w64 (x := u2) (by omega) (by omega), w64 (x := u1 * 131) (by omega) (by omega), w64 (x := u2 * 1117) (by omega) (by omega), w64 (x := u1 * 131 + u2 * 1117) (by omega) (by omega), w64 (x := p * 29) (by omega) (by omega),
    w64 (x := u1 * 131 + u2 * 1117 + p * 29) (by omega) (by omega), w64 (x := u3) (by omega) (by omega), w64 (x := u3 * 53) (by omega) (by omega), w64 (x := u1 * 131 + u2 * 1117 + p * 29 + u3 * 53) (by omega) (by omega)]
  obtain ⟨x, hx⟩ : ∃ x, u1 * 131 + u2 * 1117 + p * 29 + u3 * 53 = x := ⟨_, rfl⟩
  rw [hx]
  have x0 : 0 ≤ x := by omega
  have x1 : x ≤ 1000000000000 := by omega
  have y0 : 0 ≤ Int.tdiv x 64 ∧ Int.tdiv x 64 ≤ x := by rw [Int.tdiv_eq_ediv_of_nonneg x0]; exact ⟨Int.ediv_nonneg x0 (by omega), Int.ediv_le_self _ x0⟩
  rw [w64 (x := Int.tdiv x 64) (by omega) (by omega)]
  exact ⟨_, fin _ (xorI_range x0 (by omega) y0.1 (by omega)), rfl⟩
theorem of_ok {b : List Int} (hb : Bytes b) (p : Int) (hp : 0 ≤ p) (hp1 : p ≤ 1000000000) (l : List ByteArray) (h1 : 1 ≤ l.length) (h2 : l.length ≤ 1000000) : ∃ s ∈ l, spec_l1Rd_of.f b p l = some (s, b, p + 1) := by
  unfold spec_l1Rd_of.f
  obtain ⟨v, ⟨v0, v1, _⟩, e⟩ := pick_ok hb p (l.length : Int) hp hp1 (by omega)
  have v1 := v1 (by omega)
  obtain ⟨n, rfl⟩ : ∃ n : Nat, v = (n : Int) := ⟨v.toNat, by omega⟩
  refine ⟨l.getD n ByteArray.empty, mem_getD _ _ _ (by omega), ?_⟩
  rw [e]
  simp only [Option.bind_some]
  rw [if_pos v0, if_pos v1, rdOf_nat]
theorem open_ok (l : List Int) (h : ∀ x ∈ l, 0 ≤ x ∧ x ≤ 255) : ∃ b, Bytes b ∧ spec_l1Open.f l = some (b, 0) := by
  unfold spec_l1Open.f
  by_cases c : (l.length : Int) > 2000
  · refine ⟨l.take 2000, ⟨by simp; omega, fun i hi => ?_⟩, by rw [if_pos c, if_pos (by omega)]; rfl⟩
    exact h _ (List.mem_of_mem_take (mem_getD 0 _ i hi))
  · exact ⟨l, ⟨by omega, fun i hi => h _ (mem_getD 0 _ i hi)⟩, by rw [if_neg c]⟩
theorem bytes_of {l : List Int} (h : ∀ x ∈ l, (Lit.int .u8 x).wf = true) : ∀ x ∈ l, 0 ≤ x ∧ x ≤ 255 := fun x hx => by
  have := h x hx
  simpa [Lit.wf, IntKind.min, IntKind.max, IntKind.signed, IntKind.bits] using this
/-! ### answers that are there -/
/-- there is an answer, and it is so -/
def ExP {α : Type} (g : Nat → Option α) (Q : α → Prop) : Prop := ∃ q, Ev g q ∧ Q q
theorem exp_ret {α : Type} {a : α} {Q : α → Prop} (h : Q a) : ExP (fun _ => some a) Q := ⟨a, Ev.now a, h⟩
theorem exp_let {α β : Type} {g : Option α} {a : α} {f : Nat → α → Option β} {Q : β → Prop} (h : g = some a) (k : ExP (fun n => f n a) Q) : ExP (fun n => g.bind (f n)) Q := by subst h; exact k
theorem exp_bind {α β : Type} {g : Nat → Option α} {f : Nat → α → Option β} {R : α → Prop} {Q : β → Prop} (h : ExP g R) (k : ∀ a, R a → ExP (fun n => f n a) Q) : ExP (fun n => (g n).bind (f n)) Q := by
  obtain ⟨a, h1, h2⟩ := h
  obtain ⟨q, e, hq⟩ := k a h2
  exact ⟨q, Ev.bind h1 e, hq⟩
theorem exp_ite {α : Type} {c : Prop} {d : Decidable c} {g f : Nat → Option α} {Q : α → Prop} (h : c → ExP g Q) (k : ¬ c → ExP f Q) : ExP (fun n => @ite _ c d (g n) (f n)) Q := by
  by_cases q : c
  · exact (h q).imp fun _ e => ⟨ev_pos q e.1, e.2⟩
  · exact (k q).imp fun _ e => ⟨ev_neg q e.1, e.2⟩
theorem exp_pos {α : Type} {c : Prop} {d : Decidable c} {g f : Nat → Option α} {Q : α → Prop} (h : c) (k : ExP g Q) : ExP (fun n => @ite _ c d (g n) (f n)) Q := k.imp fun _ e => ⟨ev_pos h e.1, e.2⟩
theorem exp_neg {α : Type} {c : Prop} {d : Decidable c} {g f : Nat → Option α} {Q : α → Prop} (h : ¬ c) (k : ExP f Q) : ExP (fun n => @ite _ c d (g n) (f n)) Q := k.imp fun _ e => ⟨ev_neg h e.1, e.2⟩
theorem exp_step {α : Type} {g f : Nat → Option α} {Q : α → Prop} (h : ∀ k, g (k + 1) = f k) (k : ExP f Q) : ExP g Q := k.imp fun _ e => ⟨Ev.step h e.1, e.2⟩
theorem exp_mono {α : Type} {g : Nat → Option α} {Q R : α → Prop} (h : ExP g Q) (k : ∀ a, Q a → R a) : ExP g R := h.imp fun a e => ⟨e.1, k a e.2⟩
theorem exp_ev {α β : Type} {g : Nat → Option α} {a : α} {f : Nat → α → Option β} {Q : β → Prop} (h : Ev g a) (k : ExP (fun n => f n a) Q) : ExP (fun n => (g n).bind (f n)) Q := by
  obtain ⟨q, e, hq⟩ := k
  exact ⟨q, Ev.bind h e, hq⟩
theorem exp_of {α : Type} {g : Nat → Option α} {a : α} {Q : α → Prop} (h : Ev g a) (k : Q a) : ExP g Q := ⟨a, h, k⟩
/-! ### plants, drawn: what a line puts into one -/
structure PD (m : Nat) (s : List ByteArray) (f : List S_impl_PlantFoe) (p : List S_impl_PlantPlace) (v : List S_impl_PlantValve) : Prop where
  ls : s.length ≤ 8 + m
  lf : f.length ≤ 12 + m
  lp : p.length ≤ 14 + m
  lv : v.length ≤ 18 + m
  s1 : ∀ x ∈ s, x.size ≤ 1000
  f1 : ∀ x ∈ f, x.f0.size ≤ 1000 ∧ x.f1.size ≤ 1000
  p1 : ∀ x ∈ p, x.f0.size ≤ 1000 ∧ x.f2.size ≤ 1000
  v1 : ∀ x ∈ v, x.f0.size ≤ 1000 ∧ x.f1.size ≤ 1000 ∧ x.f2.size ≤ 1000 ∧ x.f3.size ≤ 1000
abbrev PC := List ByteArray × List S_impl_PlantFoe × List S_impl_PlantPlace × List S_impl_PlantValve × Int
def QC (t : PC) : Prop := PD 0 t.1 t.2.1 t.2.2.1 t.2.2.2.1
theorem qc_eta {t : PC} (h : QC t) : QC (t.1, t.2.1, t.2.2.1, t.2.2.2.1, t.2.2.2.2) := h
theorem qc_of {s : List ByteArray} {f : List S_impl_PlantFoe} {p : List S_impl_PlantPlace} {v : List S_impl_PlantValve} (h : PD 0 s f p v) (c : Int) : QC (s, f, p, v, c) := h
theorem ins_mem {α : Type} {P : α → Prop} {l : List α} {x : α} (n : Nat) (h : ∀ y ∈ l, P y) (hx : P x) : ∀ y ∈ (([] ++ l.take n) ++ [x]) ++ l.drop n, P y := fun y hy => by
  rcases List.mem_append.1 hy with hy | hy
  · rcases List.mem_append.1 hy with hy | hy
    · exact h y (List.mem_of_mem_take hy)
    · rw [List.mem_singleton] at hy; subst hy; exact hx
  · exact h y (List.mem_of_mem_drop hy)
theorem ins_len {α : Type} (l : List α) (x : α) (n : Nat) : ((([] ++ l.take n) ++ [x]) ++ l.drop n).length = l.length + 1 := by
  simp only [List.nil_append, List.length_append, List.length_take, List.length_drop, List.length_cons, List.length_nil]; omega
theorem ws_size {ws : List ByteArray} (h : ∀ w ∈ ws, w.size ≤ 1000) (i : Nat) : (rdOf ByteArray.empty ws (i : Int)).size ≤ 1000 := by
  rw [rdOf_nat]
  by_cases c : i < ws.length
  · exact h _ (mem_getD ByteArray.empty ws i c)
  · rw [List.getD_eq_getElem?_getD, List.getElem?_eq_none (by omega)]; show 0 ≤ 1000; omega
theorem l3Number_ok (a : ByteArray) : ExP (fun k => spec_l3Number.f k a) (fun _ => True) := by
  unfold spec_l3Number.f
  refine exp_ev (l2In_ev _ _ _) (exp_ite (fun c => ?_) (fun _ => exp_ret trivial))
  have ha : a.size ≤ 4 := by have := of_decide_eq_true c; omega
  have L0 : ExP (fun k => spec_l3Number.l0 k a 0 0) (fun _ => True) := by
    refine loopN a.size (P := fun i => ∀ n : Int, ExP (fun k => spec_l3Number.l0 k a n (i : Int)) (fun _ => True)) (fun n => ?_) (fun i hi ih n => ?_) 0
    · refine exp_step (fun k => by rw [spec_l3Number.l0]) ?_
      repeat' (first
        | with_reducible exact exp_ret (trivial)
        | with_reducible refine exp_pos (by omega) ?_
        | with_reducible refine exp_neg (by omega) ?_
        | with_reducible refine exp_ite (fun _ => ?_) (fun _ => ?_))
    · refine exp_step (fun k => by rw [spec_l3Number.l0]) ?_
      rw [wsucc hi (by omega)]
      repeat' (first
        | with_reducible exact (ih _)
        | with_reducible exact exp_ret (trivial)
        | with_reducible refine exp_pos (by omega) ?_
        | with_reducible refine exp_neg (by omega) ?_
        | with_reducible refine exp_ite (fun _ => ?_) (fun _ => ?_))
  have L1 : ExP (fun k => spec_l3Number.l1 k a 0 0) (fun _ => True) := by
    refine loopN a.size (P := fun i => ∀ n : Int, ExP (fun k => spec_l3Number.l1 k a n (i : Int)) (fun _ => True)) (fun n => ?_) (fun i hi ih n => ?_) 0
    · refine exp_step (fun k => by rw [spec_l3Number.l1]) ?_
      repeat' (first
        | with_reducible exact exp_ret (trivial)
        | with_reducible refine exp_pos (by omega) ?_
        | with_reducible refine exp_neg (by omega) ?_
        | with_reducible refine exp_ite (fun _ => ?_) (fun _ => ?_))
    · refine exp_step (fun k => by rw [spec_l3Number.l1]) ?_
      rw [wsucc hi (by omega)]
      repeat' (first
        | with_reducible exact (ih _)
        | with_reducible exact exp_ret (trivial)
        | with_reducible refine exp_pos (by omega) ?_
        | with_reducible refine exp_neg (by omega) ?_
        | with_reducible refine exp_ite (fun _ => ?_) (fun _ => ?_))
  repeat' (first
    | with_reducible exact exp_ret (trivial)
    | with_reducible exact (L0)
    | with_reducible exact (L1)
    | with_reducible refine exp_pos (by omega) ?_
    | with_reducible refine exp_neg (by omega) ?_
    | with_reducible refine exp_ite (fun _ => ?_) (fun _ => ?_))
section
variable {s : List ByteArray} {f : List S_impl_PlantFoe} {p : List S_impl_PlantPlace} {v : List S_impl_PlantValve} {ws : List ByteArray} (h : PD 0 s f p v) (hw : ∀ w ∈ ws, w.size ≤ 1000)
include h hw
theorem l3Stuff_ok : ExP (fun k => spec_l3Stuff.f k s f p v ws) QC := by
  obtain ⟨ls, lf, lp, lv, s1, f1, p1, v1⟩ := h
  have h : PD 0 s f p v := ⟨ls, lf, lp, lv, s1, f1, p1, v1⟩
  have w1 := ws_size hw 1
  have L : s.length ≤ 7 → ExP (fun k => spec_l3Stuff.l0 k s f p v ws 0) QC := fun hs => by
    have fin : ∀ n : Nat, QC ((([] ++ s.take n) ++ [rdOf ByteArray.empty ws 1]) ++ s.drop n, f, p, v, 0) := fun n => ⟨by dsimp only; rw [ins_len]; omega, lf, lp, lv, ins_mem n s1 w1, f1, p1, v1⟩
    refine loopL ByteArray.empty s (P := fun i _ => ExP (fun k => spec_l3Stuff.l0 k s f p v ws (i : Int)) QC) ?_ (fun i x r hi hx hm _ ih => ?_)
    · refine exp_step (fun k => by rw [spec_l3Stuff.l0]) ?_
      rw [Int.toNat_natCast]
      repeat' (first
        | with_reducible exact exp_ret (fin _)
        | with_reducible refine exp_pos (by omega) ?_
        | with_reducible refine exp_neg (by omega) ?_
        | with_reducible refine exp_ite (fun _ => ?_) (fun _ => ?_))
    · refine exp_step (fun k => by rw [spec_l3Stuff.l0]) ?_
      rw [Int.toNat_natCast, wsucc hi (by omega)]
      repeat' (first
        | with_reducible exact (ih)
        | with_reducible exact exp_ret (fin _)
        | with_reducible refine exp_pos (by omega) ?_
        | with_reducible refine exp_neg (by omega) ?_
        | with_reducible refine exp_ite (fun _ => ?_) (fun _ => ?_))
  unfold spec_l3Stuff.f
  repeat' (first
    | with_reducible refine exp_ev (l2NameOk_ev _) ?_
    | with_reducible refine exp_ev (l2Has_ev _ _ (by omega)) ?_
    | with_reducible exact exp_ret (qc_of h _)
    | with_reducible exact (L (by omega))
    | with_reducible refine exp_pos (by omega) ?_
    | with_reducible refine exp_neg (by omega) ?_
    | with_reducible refine exp_ite (fun _ => ?_) (fun _ => ?_))
omit hw in
theorem l2Foes_ok (a b : ByteArray) : ExP (fun k => spec_l2Foes.f k s f p v a b) (fun _ => True) := by
  obtain ⟨ls, lf, lp, lv, s1, f1, p1, v1⟩ := h
  unfold spec_l2Foes.f
  refine loopL z_impl_PlantFoe f (P := fun i _ => ExP (fun k => spec_l2Foes.l0 k f a b (i : Int)) (fun _ => True)) ?_ (fun i x r hi hx hm _ ih => ?_)
  · refine exp_step (fun k => by rw [spec_l2Foes.l0]) ?_
    repeat' (first
      | with_reducible exact exp_ret (trivial)
      | with_reducible refine exp_pos (by omega) ?_
      | with_reducible refine exp_neg (by omega) ?_
      | with_reducible refine exp_ite (fun _ => ?_) (fun _ => ?_))
  · refine exp_step (fun k => by rw [spec_l2Foes.l0]) ?_
    rw [wsucc hi (by omega)]
    repeat' (first
      | with_reducible exact (ih)
      | with_reducible exact exp_ret (trivial)
      | with_reducible refine exp_pos (by omega) ?_
      | with_reducible refine exp_neg (by omega) ?_
      | with_reducible refine exp_ite (fun _ => ?_) (fun _ => ?_))
theorem l3Foe_ok : ExP (fun k => spec_l3Foe.f k s f p v ws) QC := by
  have hF := fun a b => l2Foes_ok h a b
  obtain ⟨ls, lf, lp, lv, s1, f1, p1, v1⟩ := h
  have h : PD 0 s f p v := ⟨ls, lf, lp, lv, s1, f1, p1, v1⟩
  have w1 := ws_size hw 1
  have w2 := ws_size hw 2
  have L0 : f.length ≤ 11 → ExP (fun k => spec_l3Foe.l0 k s f p v ws 0) QC := fun hs => by
    have fin : ∀ n : Nat, QC (s, (([] ++ f.take n) ++ [(⟨rdOf ByteArray.empty ws 2, rdOf ByteArray.empty ws 1⟩ : S_impl_PlantFoe)]) ++ f.drop n, p, v, 0) := fun n => ⟨ls, by dsimp only; rw [ins_len]; omega, lp, lv, s1, ins_mem n f1 ⟨w2, w1⟩, p1, v1⟩
    refine loopL z_impl_PlantFoe f (P := fun i _ => ExP (fun k => spec_l3Foe.l0 k s f p v ws (i : Int)) QC) ?_ (fun i x r hi hx hm _ ih => ?_)
    · refine exp_step (fun k => by rw [spec_l3Foe.l0]) ?_
      rw [Int.toNat_natCast]
      repeat' (first
        | with_reducible refine exp_ev (l2Before_ev _ _ _ _) ?_
        | with_reducible exact exp_ret (fin _)
        | with_reducible refine exp_pos (by omega) ?_
        | with_reducible refine exp_neg (by omega) ?_
        | with_reducible refine exp_ite (fun _ => ?_) (fun _ => ?_))
    · refine exp_step (fun k => by rw [spec_l3Foe.l0]) ?_
      rw [Int.toNat_natCast, wsucc hi (by omega)]
      repeat' (first
        | with_reducible refine exp_ev (l2Before_ev _ _ _ _) ?_
        | with_reducible exact (ih)
        | with_reducible exact exp_ret (fin _)
        | with_reducible refine exp_pos (by omega) ?_
        | with_reducible refine exp_neg (by omega) ?_
        | with_reducible refine exp_ite (fun _ => ?_) (fun _ => ?_))
  have L1 : f.length ≤ 11 → ExP (fun k => spec_l3Foe.l1 k s f p v ws 0) QC := fun hs => by
    have fin : ∀ n : Nat, QC (s, (([] ++ f.take n) ++ [(⟨rdOf ByteArray.empty ws 1, rdOf ByteArray.empty ws 2⟩ : S_impl_PlantFoe)]) ++ f.drop n, p, v, 0) := fun n => ⟨ls, by dsimp only; rw [ins_len]; omega, lp, lv, s1, ins_mem n f1 ⟨w1, w2⟩, p1, v1⟩
    refine loopL z_impl_PlantFoe f (P := fun i _ => ExP (fun k => spec_l3Foe.l1 k s f p v ws (i : Int)) QC) ?_ (fun i x r hi hx hm _ ih => ?_)
    · refine exp_step (fun k => by rw [spec_l3Foe.l1]) ?_
      rw [Int.toNat_natCast]
      repeat' (first
        | with_reducible refine exp_ev (l2Before_ev _ _ _ _) ?_
        | with_reducible exact exp_ret (fin _)
        | with_reducible refine exp_pos (by omega) ?_
        | with_reducible refine exp_neg (by omega) ?_
        | with_reducible refine exp_ite (fun _ => ?_) (fun _ => ?_))
    · refine exp_step (fun k => by rw [spec_l3Foe.l1]) ?_
      rw [Int.toNat_natCast, wsucc hi (by omega)]
      repeat' (first
        | with_reducible refine exp_ev (l2Before_ev _ _ _ _) ?_
        | with_reducible exact (ih)
        | with_reducible exact exp_ret (fin _)
        | with_reducible refine exp_pos (by omega) ?_
        | with_reducible refine exp_neg (by omega) ?_
        | with_reducible refine exp_ite (fun _ => ?_) (fun _ => ?_))
  unfold spec_l3Foe.f
  repeat' (first
    | with_reducible refine exp_ev (l2NameOk_ev _) ?_
    | with_reducible refine exp_bind (hF _ _) (fun t ht => ?_)
    | with_reducible refine exp_ev (l2Has_ev _ _ (by omega)) ?_
    | with_reducible exact exp_ret (qc_of h _)
    | with_reducible exact (L0 (by omega))
    | with_reducible exact (L1 (by omega))
    | with_reducible refine exp_pos (by omega) ?_
    | with_reducible refine exp_neg (by omega) ?_
    | with_reducible refine exp_ite (fun _ => ?_) (fun _ => ?_))
omit hw in
theorem l3PutPlace_ok (a : ByteArray) (n : Int) (c : ByteArray) (ha : a.size ≤ 1000) (hc : c.size ≤ 1000) : ExP (fun k => spec_l3PutPlace.f k s f p v a n c) QC := by
  obtain ⟨ls, lf, lp, lv, s1, f1, p1, v1⟩ := h
  have h : PD 0 s f p v := ⟨ls, lf, lp, lv, s1, f1, p1, v1⟩
  have L : p.length ≤ 13 → ExP (fun k => spec_l3PutPlace.l0 k s f p v a n c 0) QC := fun hs => by
    have fin : ∀ j : Nat, QC (s, f, (([] ++ p.take j) ++ [(⟨a, n, c⟩ : S_impl_PlantPlace)]) ++ p.drop j, v, 0) := fun j => ⟨ls, lf, by dsimp only; rw [ins_len]; omega, lv, s1, f1, ins_mem j p1 ⟨ha, hc⟩, v1⟩
    refine loopL z_impl_PlantPlace p (P := fun i _ => ExP (fun k => spec_l3PutPlace.l0 k s f p v a n c (i : Int)) QC) ?_ (fun i x r hi hx hm _ ih => ?_)
    · refine exp_step (fun k => by rw [spec_l3PutPlace.l0]) ?_
      rw [Int.toNat_natCast]
      repeat' (first
        | with_reducible exact exp_ret (fin _)
        | with_reducible refine exp_pos (by omega) ?_
        | with_reducible refine exp_neg (by omega) ?_
        | with_reducible refine exp_ite (fun _ => ?_) (fun _ => ?_))
    · refine exp_step (fun k => by rw [spec_l3PutPlace.l0]) ?_
      rw [Int.toNat_natCast, wsucc hi (by omega)]
      repeat' (first
        | with_reducible exact (ih)
        | with_reducible exact exp_ret (fin _)
        | with_reducible refine exp_pos (by omega) ?_
        | with_reducible refine exp_neg (by omega) ?_
        | with_reducible refine exp_ite (fun _ => ?_) (fun _ => ?_))
  unfold spec_l3PutPlace.f
  repeat' (first
    | with_reducible refine exp_ev (l2Place_ev _ _ _ _ _ (by omega)) ?_
    | with_reducible exact exp_ret (qc_of h _)
    | with_reducible exact (L (by omega))
    | with_reducible refine exp_pos (by omega) ?_
    | with_reducible refine exp_neg (by omega) ?_
    | with_reducible refine exp_ite (fun _ => ?_) (fun _ => ?_))
theorem l3Vessel_ok : ExP (fun k => spec_l3Vessel.f k s f p v ws) QC := by
  have hP := fun n => l3PutPlace_ok h (rdOf ByteArray.empty ws 1) n (rdOf ByteArray.empty ws 3) (ws_size hw 1) (ws_size hw 3)
  have hN := fun a => l3Number_ok a
  unfold spec_l3Vessel.f
  repeat' (first
    | with_reducible refine exp_ev (l2NameOk_ev _) ?_
    | with_reducible refine exp_bind (hN _) (fun t ht => ?_)
    | with_reducible refine exp_ev (l2In_ev _ _ _) ?_
    | with_reducible refine exp_bind (hP _) (fun t ht => ?_)
    | with_reducible exact exp_ret (qc_of h _)
    | with_reducible exact exp_ret (qc_eta ht)
    | with_reducible refine exp_pos (by omega) ?_
    | with_reducible refine exp_neg (by omega) ?_
    | with_reducible refine exp_ite (fun _ => ?_) (fun _ => ?_))
theorem l3Joint_ok : ExP (fun k => spec_l3Joint.f k s f p v ws) QC := by
  have hP := l3PutPlace_ok h (rdOf ByteArray.empty ws 1) 0 (rdOf ByteArray.empty ws 2) (ws_size hw 1) (ws_size hw 2)
  unfold spec_l3Joint.f
  repeat' (first
    | with_reducible refine exp_ev (l2NameOk_ev _) ?_
    | with_reducible refine exp_bind (hP) (fun t ht => ?_)
    | with_reducible exact exp_ret (qc_of h _)
    | with_reducible exact exp_ret (qc_eta ht)
    | with_reducible refine exp_pos (by omega) ?_
    | with_reducible refine exp_neg (by omega) ?_
    | with_reducible refine exp_ite (fun _ => ?_) (fun _ => ?_))
omit hw in
theorem l2Valve_ok (a : ByteArray) : ExP (fun k => spec_l2Valve.f k s f p v a) (fun _ => True) := by
  obtain ⟨ls, lf, lp, lv, s1, f1, p1, v1⟩ := h
  unfold spec_l2Valve.f
  refine loopL z_impl_PlantValve v (P := fun i _ => ExP (fun k => spec_l2Valve.l0 k v a (i : Int)) (fun _ => True)) ?_ (fun i x r hi hx hm _ ih => ?_)
  · refine exp_step (fun k => by rw [spec_l2Valve.l0]) ?_
    repeat' (first
      | with_reducible exact exp_ret (trivial)
      | with_reducible refine exp_pos (by omega) ?_
      | with_reducible refine exp_neg (by omega) ?_
      | with_reducible refine exp_ite (fun _ => ?_) (fun _ => ?_))
  · refine exp_step (fun k => by rw [spec_l2Valve.l0]) ?_
    rw [wsucc hi (by omega)]
    repeat' (first
      | with_reducible exact (ih)
      | with_reducible exact exp_ret (trivial)
      | with_reducible refine exp_pos (by omega) ?_
      | with_reducible refine exp_neg (by omega) ?_
      | with_reducible refine exp_ite (fun _ => ?_) (fun _ => ?_))
theorem l3Valve_ok : ExP (fun k => spec_l3Valve.f k s f p v ws) QC := by
  have hV := fun a => l2Valve_ok h a
  obtain ⟨ls, lf, lp, lv, s1, f1, p1, v1⟩ := h
  have h : PD 0 s f p v := ⟨ls, lf, lp, lv, s1, f1, p1, v1⟩
  have w1 := ws_size hw 1
  have w2 := ws_size hw 2
  have w3 := ws_size hw 3
  have w4 := ws_size hw 4
  have L0 : v.length ≤ 17 → ExP (fun k => spec_l3Valve.l0 k s f p v ws 0) QC := fun hs => by
    have fin : ∀ n : Nat, QC (s, f, p, (([] ++ v.take n) ++ [(⟨rdOf ByteArray.empty ws 1, rdOf ByteArray.empty ws 3, rdOf ByteArray.empty ws 2, rdOf ByteArray.empty ws 4⟩ : S_impl_PlantValve)]) ++ v.drop n, 0) := fun n => ⟨ls, lf, lp, by dsimp only; rw [ins_len]; omega, s1, f1, p1, ins_mem n v1 ⟨w1, w3, w2, w4⟩⟩
    refine loopL z_impl_PlantValve v (P := fun i _ => ExP (fun k => spec_l3Valve.l0 k s f p v ws (i : Int)) QC) ?_ (fun i x r hi hx hm _ ih => ?_)
    · refine exp_step (fun k => by rw [spec_l3Valve.l0]) ?_
      rw [Int.toNat_natCast]
      repeat' (first
        | with_reducible exact exp_ret (fin _)
        | with_reducible refine exp_pos (by omega) ?_
        | with_reducible refine exp_neg (by omega) ?_
        | with_reducible refine exp_ite (fun _ => ?_) (fun _ => ?_))
    · refine exp_step (fun k => by rw [spec_l3Valve.l0]) ?_
      rw [Int.toNat_natCast, wsucc hi (by omega)]
      repeat' (first
        | with_reducible exact (ih)
        | with_reducible exact exp_ret (fin _)
        | with_reducible refine exp_pos (by omega) ?_
        | with_reducible refine exp_neg (by omega) ?_
        | with_reducible refine exp_ite (fun _ => ?_) (fun _ => ?_))
  have L1 : v.length ≤ 17 → ExP (fun k => spec_l3Valve.l1 k s f p v ws 0) QC := fun hs => by
    have fin : ∀ n : Nat, QC (s, f, p, (([] ++ v.take n) ++ [(⟨rdOf ByteArray.empty ws 1, rdOf ByteArray.empty ws 2, rdOf ByteArray.empty ws 3, rdOf ByteArray.empty ws 4⟩ : S_impl_PlantValve)]) ++ v.drop n, 0) := fun n => ⟨ls, lf, lp, by dsimp only; rw [ins_len]; omega, s1, f1, p1, ins_mem n v1 ⟨w1, w2, w3, w4⟩⟩
    refine loopL z_impl_PlantValve v (P := fun i _ => ExP (fun k => spec_l3Valve.l1 k s f p v ws (i : Int)) QC) ?_ (fun i x r hi hx hm _ ih => ?_)
    · refine exp_step (fun k => by rw [spec_l3Valve.l1]) ?_
      rw [Int.toNat_natCast]
      repeat' (first
        | with_reducible exact exp_ret (fin _)
        | with_reducible refine exp_pos (by omega) ?_
        | with_reducible refine exp_neg (by omega) ?_
        | with_reducible refine exp_ite (fun _ => ?_) (fun _ => ?_))
    · refine exp_step (fun k => by rw [spec_l3Valve.l1]) ?_
      rw [Int.toNat_natCast, wsucc hi (by omega)]
      repeat' (first
        | with_reducible exact (ih)
        | with_reducible exact exp_ret (fin _)
        | with_reducible refine exp_pos (by omega) ?_
        | with_reducible refine exp_neg (by omega) ?_
        | with_reducible refine exp_ite (fun _ => ?_) (fun _ => ?_))
  unfold spec_l3Valve.f
  repeat' (first
    | with_reducible refine exp_ev (l2NameOk_ev _) ?_
    | with_reducible refine exp_bind (hV _) (fun t ht => ?_)
    | with_reducible refine exp_ev (l2Place_ev _ _ _ _ _ (by omega)) ?_
    | with_reducible exact exp_ret (qc_of h _)
    | with_reducible exact (L0 (by omega))
    | with_reducible exact (L1 (by omega))
    | with_reducible refine exp_pos (by omega) ?_
    | with_reducible refine exp_neg (by omega) ?_
    | with_reducible refine exp_ite (fun _ => ?_) (fun _ => ?_))
theorem l2Try_ok (h0 : 1 ≤ ws.length) : ExP (fun k => spec_l2Try.f k s f p v ws) (fun t => PD 0 t.1 t.2.1 t.2.2.1 t.2.2.2) := by
  have e1 := l3Stuff_ok h hw
  have e2 := l3Foe_ok h hw
  have e3 := l3Vessel_ok h hw
  have e4 := l3Joint_ok h hw
  have e5 := l3Valve_ok h hw
  have hP : ExP (fun k => spec_l3Put.f k s f p v ws) QC := by
    unfold spec_l3Put.f
    repeat' (first
      | with_reducible refine exp_bind (e1) (fun t ht => ?_)
      | with_reducible refine exp_bind (e2) (fun t ht => ?_)
      | with_reducible refine exp_bind (e3) (fun t ht => ?_)
      | with_reducible refine exp_bind (e4) (fun t ht => ?_)
      | with_reducible refine exp_bind (e5) (fun t ht => ?_)
      | with_reducible exact exp_ret (qc_of h _)
      | with_reducible exact exp_ret (qc_eta ht)
      | with_reducible refine exp_pos (by omega) ?_
      | with_reducible refine exp_neg (by omega) ?_
      | with_reducible refine exp_ite (fun _ => ?_) (fun _ => ?_))
  unfold spec_l2Try.f
  exact exp_bind hP (fun t ht => exp_ite (fun _ => exp_ret ht) (fun _ => exp_ret h))
end
theorem l2Copy_ok {m : Nat} (hm : m ≤ 10) {s : List ByteArray} {f : List S_impl_PlantFoe} {p : List S_impl_PlantPlace} {v : List S_impl_PlantValve} (h : PD m s f p v) : spec_l2Copy.f s f p v = some (s, f, p, v) := by
  obtain ⟨ls, lf, lp, lv, _⟩ := h
  unfold spec_l2Copy.f
  rw [if_pos (by omega), if_pos (by omega), if_pos (by omega), if_pos (by omega)]; rfl
/-! ### plants, drawn -/
abbrev TPl := List ByteArray × List S_impl_PlantFoe × List S_impl_PlantPlace × List S_impl_PlantValve × List Int × Int
def QD (m : Nat) (b : List Int) (hi : Int) (t : TPl) : Prop := PD m t.1 t.2.1 t.2.2.1 t.2.2.2.1 ∧ t.2.2.2.2.1 = b ∧ 0 ≤ t.2.2.2.2.2 ∧ t.2.2.2.2.2 ≤ hi
theorem decS {n : Int} (h0 : 0 ≤ n) (h : n ≤ 100) : (decB n).size ≤ 101 := by
  have := dec_len n.toNat n.toNat (Nat.le_refl _)
  show (_ : List UInt8).toArray.size ≤ 101
  rw [List.size_toArray]; omega
theorem ws3 {a b c : ByteArray} (ha : a.size ≤ 1000) (hb : b.size ≤ 1000) (hc : c.size ≤ 1000) : ∀ w ∈ [a, b, c], w.size ≤ 1000 := fun w hw => by
  simp only [List.mem_cons, List.mem_nil_iff, or_false] at hw
  rcases hw with rfl | rfl | rfl <;> assumption
theorem ws4 {a b c d : ByteArray} (ha : a.size ≤ 1000) (hb : b.size ≤ 1000) (hc : c.size ≤ 1000) (hd : d.size ≤ 1000) : ∀ w ∈ [a, b, c, d], w.size ≤ 1000 := fun w hw => by
  simp only [List.mem_cons, List.mem_nil_iff, or_false] at hw
  rcases hw with rfl | rfl | rfl | rfl <;> assumption
theorem ws5 {a b c d e : ByteArray} (ha : a.size ≤ 1000) (hb : b.size ≤ 1000) (hc : c.size ≤ 1000) (hd : d.size ≤ 1000) (he : e.size ≤ 1000) : ∀ w ∈ [a, b, c, d, e], w.size ≤ 1000 := fun w hw => by
  simp only [List.mem_cons, List.mem_nil_iff, or_false] at hw
  rcases hw with rfl | rfl | rfl | rfl | rfl <;> assumption
theorem rdP_size {p : List S_impl_PlantPlace} (h : ∀ x ∈ p, x.f0.size ≤ 1000 ∧ x.f2.size ≤ 1000) (a : Int) (h0 : 0 ≤ a) (h1 : a < p.length) : (rd_impl_PlantPlace p a).f0.size ≤ 1000 := by
  obtain ⟨n, rfl⟩ : ∃ n : Nat, a = (n : Int) := ⟨a.toNat, by omega⟩
  rw [rdP]
  exact (h _ (mem_getD z_impl_PlantPlace p n (by omega))).1
theorem memS {l : List ByteArray} {s : ByteArray} (h : s ∈ l) (hl : (l.all fun x => decide (x.size ≤ 1000)) = true) : s.size ≤ 1000 := of_decide_eq_true (List.all_eq_true.1 hl s h)
theorem dr_l5 {b : List Int} (hb : Bytes b) : ∀ (m i : Nat) (s : List ByteArray) (f : List S_impl_PlantFoe) (p : List S_impl_PlantPlace) (v : List S_impl_PlantValve) (q : Int), i + m = 40 → PD 0 s f p v → 0 ≤ q → q + 2 * m ≤ 100000 → ExP (fun k => spec_l2Draw.l5 k (i : Int) b q s f p v) (QD 0 b 100000)
  | 0, i, s, f, p, v, q, hi, h, h0, hq => by
    refine exp_step (fun k => by rw [spec_l2Draw.l5]) (exp_neg (by omega) ?_)
    exact exp_let (l2Copy_ok (by omega) h) (exp_ret ⟨h, rfl, h0, by dsimp only; omega⟩)
  | m + 1, i, s, f, p, v, q, hi, h, h0, hq => by
    refine exp_step (fun k => by rw [spec_l2Draw.l5]) (exp_pos (by omega) (exp_ev (l3Dec_ev i (i : Int) (by omega) (by omega) (by omega)) ?_))
    have hds := decS (n := (i : Int)) (by omega) (by omega)
    have z1 : (⟨#[121]⟩ : ByteArray).size = 1 := rfl
    refine exp_pos (by omega) ?_
    obtain ⟨x, hx, e1⟩ := of_ok hb q h0 (by omega) ([(⟨#[121, 48]⟩ : ByteArray), (⟨#[121, 49]⟩ : ByteArray), (⟨#[121, 50]⟩ : ByteArray), (⟨#[121, 51]⟩ : ByteArray)] : List ByteArray) (by decide) (by decide)
    refine exp_let e1 ?_
    dsimp only
    obtain ⟨y, hy, e2⟩ := of_ok hb (q + 1) (by omega) (by omega) ([(⟨#[121, 48]⟩ : ByteArray), (⟨#[121, 49]⟩ : ByteArray), (⟨#[121, 50]⟩ : ByteArray), (⟨#[97]⟩ : ByteArray)] : List ByteArray) (by decide) (by decide)
    refine exp_let e2 ?_
    dsimp only
    refine exp_bind (l2Try_ok h (ws5 (by decide) (by rw [ByteArray.size_append]; omega) (memS hx (by decide)) (memS hy (by decide)) (by decide)) (by simp)) (fun t ht => ?_)
    rw [wsucc (n := 100) (by omega) (by omega)]
    exact dr_l5 hb m (i + 1) _ _ _ _ _ (by omega) ht (by omega) (by omega)
theorem dr_l4 {b : List Int} (hb : Bytes b) (t0 : Int × List Int × Int) (hb0 : t0.2.1 = b) (h00 : 0 ≤ t0.2.2) (h01 : t0.2.2 ≤ 90000) : ∀ (m i : Nat) (s : List ByteArray) (f : List S_impl_PlantFoe) (p : List S_impl_PlantPlace) (v : List S_impl_PlantValve), i + m = 20 → PD 0 s f p v → ExP (fun k => spec_l2Draw.l4 k (i : Int) t0 s f p v) (QD 0 b 100000)
  | 0, i, s, f, p, v, hi, h => by
    refine exp_step (fun k => by rw [spec_l2Draw.l4]) (exp_neg (by omega) ?_)
    rw [hb0]
    exact dr_l5 hb 40 0 s f p v _ (by omega) h h00 (by omega)
  | m + 1, i, s, f, p, v, hi, h => by
    refine exp_step (fun k => by rw [spec_l2Draw.l4]) (exp_pos (by omega) (exp_ev (l3Dec_ev i (i : Int) (by omega) (by omega) (by omega)) ?_))
    have hds := decS (n := (i : Int)) (by omega) (by omega)
    have z1 : (⟨#[121]⟩ : ByteArray).size = 1 := rfl
    refine exp_pos (by omega) (exp_bind (l2Try_ok h (ws3 (by decide) (by rw [ByteArray.size_append]; omega) (by decide)) (by simp)) (fun t ht => ?_))
    rw [wsucc (n := 100) (by omega) (by omega)]
    exact dr_l4 hb t0 hb0 h00 h01 m (i + 1) _ _ _ _ (by omega) ht
theorem dr_l7 {b : List Int} (hb : Bytes b) : ∀ (m i : Nat) (s : List ByteArray) (f : List S_impl_PlantFoe) (p : List S_impl_PlantPlace) (v : List S_impl_PlantValve) (q : Int), i + m = 40 → PD 0 s f p v → 0 ≤ q → q + 2 * m ≤ 100000 → ExP (fun k => spec_l2Draw.l7 k (i : Int) b q s f p v) (QD 0 b 100000)
  | 0, i, s, f, p, v, q, hi, h, h0, hq => by
    refine exp_step (fun k => by rw [spec_l2Draw.l7]) (exp_neg (by omega) ?_)
    exact exp_let (l2Copy_ok (by omega) h) (exp_ret ⟨h, rfl, h0, by dsimp only; omega⟩)
  | m + 1, i, s, f, p, v, q, hi, h, h0, hq => by
    refine exp_step (fun k => by rw [spec_l2Draw.l7]) (exp_pos (by omega) (exp_ev (l3Dec_ev i (i : Int) (by omega) (by omega) (by omega)) ?_))
    have hds := decS (n := (i : Int)) (by omega) (by omega)
    have z1 : (⟨#[121]⟩ : ByteArray).size = 1 := rfl
    refine exp_pos (by omega) ?_
    obtain ⟨x, hx, e1⟩ := of_ok hb q h0 (by omega) ([(⟨#[121, 48]⟩ : ByteArray), (⟨#[121, 49]⟩ : ByteArray), (⟨#[121, 50]⟩ : ByteArray), (⟨#[121, 51]⟩ : ByteArray)] : List ByteArray) (by decide) (by decide)
    refine exp_let e1 ?_
    dsimp only
    obtain ⟨y, hy, e2⟩ := of_ok hb (q + 1) (by omega) (by omega) ([(⟨#[121, 48]⟩ : ByteArray), (⟨#[121, 49]⟩ : ByteArray), (⟨#[121, 50]⟩ : ByteArray), (⟨#[97]⟩ : ByteArray)] : List ByteArray) (by decide) (by decide)
    refine exp_let e2 ?_
    dsimp only
    refine exp_bind (l2Try_ok h (ws5 (by decide) (by rw [ByteArray.size_append]; omega) (memS hx (by decide)) (memS hy (by decide)) (by decide)) (by simp)) (fun t ht => ?_)
    rw [wsucc (n := 100) (by omega) (by omega)]
    exact dr_l7 hb m (i + 1) _ _ _ _ _ (by omega) ht (by omega) (by omega)
theorem dr_l6 {b : List Int} (hb : Bytes b) (t0 : Int × List Int × Int) (hb0 : t0.2.1 = b) (h00 : 0 ≤ t0.2.2) (h01 : t0.2.2 ≤ 90000) : ∀ (m i : Nat) (s : List ByteArray) (f : List S_impl_PlantFoe) (p : List S_impl_PlantPlace) (v : List S_impl_PlantValve), i + m = 20 → PD 0 s f p v → ExP (fun k => spec_l2Draw.l6 k (i : Int) t0 s f p v) (QD 0 b 100000)
  | 0, i, s, f, p, v, hi, h => by
    refine exp_step (fun k => by rw [spec_l2Draw.l6]) (exp_neg (by omega) ?_)
    rw [hb0]
    exact dr_l7 hb 40 0 s f p v _ (by omega) h h00 (by omega)
  | m + 1, i, s, f, p, v, hi, h => by
    refine exp_step (fun k => by rw [spec_l2Draw.l6]) (exp_pos (by omega) (exp_ev (l3Dec_ev i (i : Int) (by omega) (by omega) (by omega)) ?_))
    have hds := decS (n := (i : Int)) (by omega) (by omega)
    have z1 : (⟨#[121]⟩ : ByteArray).size = 1 := rfl
    refine exp_pos (by omega) (exp_bind (l2Try_ok h (ws3 (by decide) (by rw [ByteArray.size_append]; omega) (by decide)) (by simp)) (fun t ht => ?_))
    rw [wsucc (n := 100) (by omega) (by omega)]
    exact dr_l6 hb t0 hb0 h00 h01 m (i + 1) _ _ _ _ (by omega) ht
theorem dr_l11 {b : List Int} (hb : Bytes b) : ∀ (m i : Nat) (s : List ByteArray) (f : List S_impl_PlantFoe) (p : List S_impl_PlantPlace) (v : List S_impl_PlantValve) (q : Int), i + m = 40 → PD 0 s f p v → 0 ≤ q → q + 2 * m ≤ 100000 → ExP (fun k => spec_l2Draw.l11 k (i : Int) b q s f p v) (QD 0 b 100000)
  | 0, i, s, f, p, v, q, hi, h, h0, hq => by
    refine exp_step (fun k => by rw [spec_l2Draw.l11]) (exp_neg (by omega) ?_)
    exact exp_let (l2Copy_ok (by omega) h) (exp_ret ⟨h, rfl, h0, by dsimp only; omega⟩)
  | m + 1, i, s, f, p, v, q, hi, h, h0, hq => by
    refine exp_step (fun k => by rw [spec_l2Draw.l11]) (exp_pos (by omega) (exp_ev (l3Dec_ev i (i : Int) (by omega) (by omega) (by omega)) ?_))
    have hds := decS (n := (i : Int)) (by omega) (by omega)
    have z1 : (⟨#[121]⟩ : ByteArray).size = 1 := rfl
    refine exp_pos (by omega) ?_
    obtain ⟨x, hx, e1⟩ := of_ok hb q h0 (by omega) ([(⟨#[121, 48]⟩ : ByteArray), (⟨#[121, 49]⟩ : ByteArray), (⟨#[121, 50]⟩ : ByteArray), (⟨#[121, 51]⟩ : ByteArray)] : List ByteArray) (by decide) (by decide)
    refine exp_let e1 ?_
    dsimp only
    obtain ⟨y, hy, e2⟩ := of_ok hb (q + 1) (by omega) (by omega) ([(⟨#[121, 48]⟩ : ByteArray), (⟨#[121, 49]⟩ : ByteArray), (⟨#[121, 50]⟩ : ByteArray), (⟨#[97]⟩ : ByteArray)] : List ByteArray) (by decide) (by decide)
    refine exp_let e2 ?_
    dsimp only
    refine exp_bind (l2Try_ok h (ws5 (by decide) (by rw [ByteArray.size_append]; omega) (memS hx (by decide)) (memS hy (by decide)) (by decide)) (by simp)) (fun t ht => ?_)
    rw [wsucc (n := 100) (by omega) (by omega)]
    exact dr_l11 hb m (i + 1) _ _ _ _ _ (by omega) ht (by omega) (by omega)
theorem dr_l10 {b : List Int} (hb : Bytes b) (t0 : Int × List Int × Int) (hb0 : t0.2.1 = b) (h00 : 0 ≤ t0.2.2) (h01 : t0.2.2 ≤ 90000) : ∀ (m i : Nat) (s : List ByteArray) (f : List S_impl_PlantFoe) (p : List S_impl_PlantPlace) (v : List S_impl_PlantValve), i + m = 20 → PD 0 s f p v → ExP (fun k => spec_l2Draw.l10 k (i : Int) t0 s f p v) (QD 0 b 100000)
  | 0, i, s, f, p, v, hi, h => by
    refine exp_step (fun k => by rw [spec_l2Draw.l10]) (exp_neg (by omega) ?_)
    rw [hb0]
    exact dr_l11 hb 40 0 s f p v _ (by omega) h h00 (by omega)
  | m + 1, i, s, f, p, v, hi, h => by
    refine exp_step (fun k => by rw [spec_l2Draw.l10]) (exp_pos (by omega) (exp_ev (l3Dec_ev i (i : Int) (by omega) (by omega) (by omega)) ?_))
    have hds := decS (n := (i : Int)) (by omega) (by omega)
    have z1 : (⟨#[121]⟩ : ByteArray).size = 1 := rfl
    refine exp_pos (by omega) (exp_bind (l2Try_ok h (ws3 (by decide) (by rw [ByteArray.size_append]; omega) (by decide)) (by simp)) (fun t ht => ?_))
    rw [wsucc (n := 100) (by omega) (by omega)]
    exact dr_l10 hb t0 hb0 h00 h01 m (i + 1) _ _ _ _ (by omega) ht
theorem dr_l13 {b : List Int} (hb : Bytes b) : ∀ (m i : Nat) (s : List ByteArray) (f : List S_impl_PlantFoe) (p : List S_impl_PlantPlace) (v : List S_impl_PlantValve) (q : Int), i + m = 40 → PD 0 s f p v → 0 ≤ q → q + 2 * m ≤ 100000 → ExP (fun k => spec_l2Draw.l13 k (i : Int) b q s f p v) (QD 0 b 100000)
  | 0, i, s, f, p, v, q, hi, h, h0, hq => by
    refine exp_step (fun k => by rw [spec_l2Draw.l13]) (exp_neg (by omega) ?_)
    exact exp_let (l2Copy_ok (by omega) h) (exp_ret ⟨h, rfl, h0, by dsimp only; omega⟩)
  | m + 1, i, s, f, p, v, q, hi, h, h0, hq => by
    refine exp_step (fun k => by rw [spec_l2Draw.l13]) (exp_pos (by omega) (exp_ev (l3Dec_ev i (i : Int) (by omega) (by omega) (by omega)) ?_))
    have hds := decS (n := (i : Int)) (by omega) (by omega)
    have z1 : (⟨#[121]⟩ : ByteArray).size = 1 := rfl
    refine exp_pos (by omega) ?_
    obtain ⟨x, hx, e1⟩ := of_ok hb q h0 (by omega) ([(⟨#[121, 48]⟩ : ByteArray), (⟨#[121, 49]⟩ : ByteArray), (⟨#[121, 50]⟩ : ByteArray), (⟨#[121, 51]⟩ : ByteArray)] : List ByteArray) (by decide) (by decide)
    refine exp_let e1 ?_
    dsimp only
    obtain ⟨y, hy, e2⟩ := of_ok hb (q + 1) (by omega) (by omega) ([(⟨#[121, 48]⟩ : ByteArray), (⟨#[121, 49]⟩ : ByteArray), (⟨#[121, 50]⟩ : ByteArray), (⟨#[97]⟩ : ByteArray)] : List ByteArray) (by decide) (by decide)
    refine exp_let e2 ?_
    dsimp only
    refine exp_bind (l2Try_ok h (ws5 (by decide) (by rw [ByteArray.size_append]; omega) (memS hx (by decide)) (memS hy (by decide)) (by decide)) (by simp)) (fun t ht => ?_)
    rw [wsucc (n := 100) (by omega) (by omega)]
    exact dr_l13 hb m (i + 1) _ _ _ _ _ (by omega) ht (by omega) (by omega)
theorem dr_l12 {b : List Int} (hb : Bytes b) (t0 : Int × List Int × Int) (hb0 : t0.2.1 = b) (h00 : 0 ≤ t0.2.2) (h01 : t0.2.2 ≤ 90000) : ∀ (m i : Nat) (s : List ByteArray) (f : List S_impl_PlantFoe) (p : List S_impl_PlantPlace) (v : List S_impl_PlantValve), i + m = 20 → PD 0 s f p v → ExP (fun k => spec_l2Draw.l12 k (i : Int) t0 s f p v) (QD 0 b 100000)
  | 0, i, s, f, p, v, hi, h => by
    refine exp_step (fun k => by rw [spec_l2Draw.l12]) (exp_neg (by omega) ?_)
    rw [hb0]
    exact dr_l13 hb 40 0 s f p v _ (by omega) h h00 (by omega)
  | m + 1, i, s, f, p, v, hi, h => by
    refine exp_step (fun k => by rw [spec_l2Draw.l12]) (exp_pos (by omega) (exp_ev (l3Dec_ev i (i : Int) (by omega) (by omega) (by omega)) ?_))
    have hds := decS (n := (i : Int)) (by omega) (by omega)
    have z1 : (⟨#[121]⟩ : ByteArray).size = 1 := rfl
    refine exp_pos (by omega) (exp_bind (l2Try_ok h (ws3 (by decide) (by rw [ByteArray.size_append]; omega) (by decide)) (by simp)) (fun t ht => ?_))
    rw [wsucc (n := 100) (by omega) (by omega)]
    exact dr_l12 hb t0 hb0 h00 h01 m (i + 1) _ _ _ _ (by omega) ht
theorem dr_l3 {b : List Int} (hb : Bytes b) : ∀ (m : Nat) (s : List ByteArray) (f : List S_impl_PlantFoe) (p : List S_impl_PlantPlace) (v : List S_impl_PlantValve) (q : Int), m ≤ 13 → PD 0 s f p v → 0 ≤ q → q + 10 * m ≤ 80000 → ExP (fun k => spec_l2Draw.l3 k (m : Int) b q s f p v) (QD 0 b 100000)
  | 0, s, f, p, v, q, hm, h, h0, hq => by
    refine exp_step (fun k => by rw [spec_l2Draw.l3]) (exp_neg (by omega) ?_)
    obtain ⟨w, _, e⟩ := pick_ok hb q 24 h0 (by omega) (by omega)
    refine exp_let e (exp_ite (fun _ => ?_) (fun _ => exp_let (l2Copy_ok (by omega) h) (exp_ret ⟨h, rfl, by dsimp only; omega, by dsimp only; omega⟩)))
    exact dr_l6 hb (w, b, q + 1) rfl (by dsimp only; omega) (by dsimp only; omega) 20 0 s f p v (by omega) h
  | m + 1, s, f, p, v, q, hm, h, h0, hq => by
    have hlp := h.lp
    refine exp_step (fun k => by rw [spec_l2Draw.l3]) (exp_pos (by omega) (exp_ite (fun hl => ?_) (fun _ => ?_)))
    · obtain ⟨w, ⟨w0, w1, _⟩, e⟩ := pick_ok hb q 16 h0 (by omega) (by omega)
      have w1 := w1 (by omega)
      refine exp_let e ?_
      dsimp only
      refine exp_ev (l3Dec_ev w.toNat w (by omega) (by omega) (by omega)) ?_
      have hds := decS (n := w) (by omega) (by omega)
      have z1 : (⟨#[120]⟩ : ByteArray).size = 1 := rfl
      refine exp_pos (by omega) ?_
      obtain ⟨x, ⟨x0, x1, _⟩, e1⟩ := pick_ok hb (q + 1) (p.length : Int) (by omega) (by omega) (by omega)
      have x1 := x1 (by omega)
      refine exp_let e1 (exp_pos x0 (exp_pos x1 ?_))
      dsimp only
      obtain ⟨y, ⟨y0, y1, _⟩, e2⟩ := pick_ok hb (q + 1 + 1) (p.length : Int) (by omega) (by omega) (by omega)
      have y1 := y1 (by omega)
      refine exp_let e2 (exp_pos y0 (exp_pos y1 ?_))
      dsimp only
      obtain ⟨z, hz, e3⟩ := of_ok hb (q + 1 + 1 + 1) (by omega) (by omega) ([(⟨#[101, 97, 115, 116]⟩ : ByteArray), (⟨#[119, 101, 115, 116]⟩ : ByteArray)] : List ByteArray) (by decide) (by decide)
      refine exp_let e3 ?_
      dsimp only
      refine exp_bind (l2Try_ok h (ws5 (by decide) (by rw [ByteArray.size_append]; omega) (rdP_size h.p1 x x0 x1) (rdP_size h.p1 y y0 y1) (memS hz (by decide))) (by simp)) (fun t ht => ?_)
      rw [show wrap64 (((m + 1 : Nat) : Int) - 1) = (m : Int) by unfold wrap64; omega]
      exact dr_l3 hb m _ _ _ _ _ (by omega) ht (by omega) (by omega)
    · obtain ⟨w, _, e⟩ := pick_ok hb q 24 h0 (by omega) (by omega)
      refine exp_let e (exp_ite (fun _ => ?_) (fun _ => exp_let (l2Copy_ok (by omega) h) (exp_ret ⟨h, rfl, by dsimp only; omega, by dsimp only; omega⟩)))
      exact dr_l4 hb (w, b, q + 1) rfl (by dsimp only; omega) (by dsimp only; omega) 20 0 s f p v (by omega) h
theorem dr_j0 {b : List Int} (hb : Bytes b) (i : Nat) (hi : i < 9) (fl : Bool) (s0 : ByteArray) (hs0 : s0.size ≤ 1000) (s : List ByteArray) (f : List S_impl_PlantFoe) (p : List S_impl_PlantPlace) (v : List S_impl_PlantValve) (q : Int) (h : PD 0 s f p v) (h0 : 0 ≤ q) (hq : q ≤ 70000)
    (K : ∀ (s : List ByteArray) (f : List S_impl_PlantFoe) (p : List S_impl_PlantPlace) (v : List S_impl_PlantValve) (q' : Int), PD 0 s f p v → q ≤ q' → q' ≤ q + 1 → ExP (fun k => spec_l2Draw.l2 k ((i + 1 : Nat) : Int) b q' s f p v) (QD 0 b 100000)) : ExP (fun k => spec_l2Draw.j0 k (i : Int) fl (s0, b, q) s f p v) (QD 0 b 100000) := by
  have hz : ∀ w ∈ ([(⟨#[97]⟩ : ByteArray), (⟨#[98]⟩ : ByteArray), (⟨#[106, 49]⟩ : ByteArray), (⟨#[106, 50]⟩ : ByteArray), (⟨#[106, 51]⟩ : ByteArray), (⟨#[107, 45, 107]⟩ : ByteArray), (⟨#[118, 49]⟩ : ByteArray), (⟨#[118, 50]⟩ : ByteArray), (⟨#[122]⟩ : ByteArray)] : List ByteArray), w.size ≤ 1000 := fun w hw => memS hw (by decide)
  refine exp_step (fun k => by rw [spec_l2Draw.j0]) (exp_ite (fun _ => exp_pos (by omega) (exp_pos (by omega) ?_)) (fun _ => exp_pos (by omega) (exp_pos (by omega) ?_)))
  · rw [wsucc (n := 100) (by omega) (by omega)]
    exact exp_bind (l2Try_ok h (ws3 (by decide) (ws_size hz i) hs0) (by simp)) (fun t ht => K _ _ _ _ _ ht (by dsimp only; omega) (by dsimp only; omega))
  · rw [wsucc (n := 100) (by omega) (by omega)]
    obtain ⟨w, ⟨w0, w1, _⟩, e⟩ := pick_ok hb q 60 h0 (by omega) (by omega)
    have w1 := w1 (by omega)
    refine exp_let e ?_
    dsimp only
    rw [show wrap64 (1 + w) = 1 + w from w64 (by omega) (by omega)]
    refine exp_ev (l3Dec_ev (1 + w).toNat (1 + w) (by omega) (by omega) (by omega)) ?_
    have hds := decS (n := 1 + w) (by omega) (by omega)
    exact exp_bind (l2Try_ok h (ws4 (by decide) (ws_size hz i) (by omega) hs0) (by simp)) (fun t ht => K _ _ _ _ _ ht (by omega) (by omega))
theorem dr_l2 {b : List Int} (hb : Bytes b) : ∀ (m i : Nat) (s : List ByteArray) (f : List S_impl_PlantFoe) (p : List S_impl_PlantPlace) (v : List S_impl_PlantValve) (q : Int), i + m = 9 → PD 0 s f p v → 0 ≤ q → q + 5 * m ≤ 60000 → ExP (fun k => spec_l2Draw.l2 k (i : Int) b q s f p v) (QD 0 b 100000)
  | 0, i, s, f, p, v, q, hi, h, h0, hq => by
    refine exp_step (fun k => by rw [spec_l2Draw.l2]) (exp_neg (by omega) ?_)
    obtain ⟨w, ⟨w0, w1, _⟩, e⟩ := pick_ok hb q 13 h0 (by omega) (by omega)
    have w1 := w1 (by omega)
    obtain ⟨n, rfl⟩ : ∃ n : Nat, w = (n : Int) := ⟨w.toNat, by omega⟩
    refine exp_let e ?_
    exact dr_l3 hb n s f p v (q + 1) (by omega) h (by omega) (by omega)
  | m + 1, i, s, f, p, v, q, hi, h, h0, hq => by
    refine exp_step (fun k => by rw [spec_l2Draw.l2]) (exp_pos (by omega) ?_)
    obtain ⟨w, _, e⟩ := pick_ok hb q 6 h0 (by omega) (by omega)
    refine exp_let e ?_
    dsimp only
    rw [wsucc (n := 100) (by omega) (by omega)]
    refine exp_ite (fun _ => dr_l2 hb m (i + 1) _ _ _ _ _ (by omega) h (by omega) (by omega)) (fun _ => ?_)
    obtain ⟨z, hz, e3⟩ := of_ok hb (q + 1) (by omega) (by omega) ([(⟨#[101, 97, 115, 116]⟩ : ByteArray), (⟨#[119, 101, 115, 116]⟩ : ByteArray)] : List ByteArray) (by decide) (by decide)
    refine exp_let e3 ?_
    have K : ∀ (s : List ByteArray) (f : List S_impl_PlantFoe) (p : List S_impl_PlantPlace) (v : List S_impl_PlantValve) (q' : Int), PD 0 s f p v → q + 1 + 1 ≤ q' → q' ≤ q + 1 + 1 + 1 → ExP (fun k => spec_l2Draw.l2 k ((i + 1 : Nat) : Int) b q' s f p v) (QD 0 b 100000) := fun s f p v q' h h1 h2 => dr_l2 hb m (i + 1) s f p v q' (by omega) h (by omega) (by omega)
    have hzs := memS hz (by decide)
    exact exp_ite (fun _ => dr_j0 hb i (by omega) _ z hzs s f p v _ h (by omega) (by omega) K) (fun _ => dr_j0 hb i (by omega) _ z hzs s f p v _ h (by omega) (by omega) K)
theorem dr_l9 {b : List Int} (hb : Bytes b) : ∀ (m : Nat) (s : List ByteArray) (f : List S_impl_PlantFoe) (p : List S_impl_PlantPlace) (v : List S_impl_PlantValve) (q : Int), m ≤ 13 → PD 0 s f p v → 0 ≤ q → q + 10 * m ≤ 80000 → ExP (fun k => spec_l2Draw.l9 k (m : Int) b q s f p v) (QD 0 b 100000)
  | 0, s, f, p, v, q, hm, h, h0, hq => by
    refine exp_step (fun k => by rw [spec_l2Draw.l9]) (exp_neg (by omega) ?_)
    obtain ⟨w, _, e⟩ := pick_ok hb q 24 h0 (by omega) (by omega)
    refine exp_let e (exp_ite (fun _ => ?_) (fun _ => exp_let (l2Copy_ok (by omega) h) (exp_ret ⟨h, rfl, by dsimp only; omega, by dsimp only; omega⟩)))
    exact dr_l12 hb (w, b, q + 1) rfl (by dsimp only; omega) (by dsimp only; omega) 20 0 s f p v (by omega) h
  | m + 1, s, f, p, v, q, hm, h, h0, hq => by
    have hlp := h.lp
    refine exp_step (fun k => by rw [spec_l2Draw.l9]) (exp_pos (by omega) (exp_ite (fun hl => ?_) (fun _ => ?_)))
    · obtain ⟨w, ⟨w0, w1, _⟩, e⟩ := pick_ok hb q 16 h0 (by omega) (by omega)
      have w1 := w1 (by omega)
      refine exp_let e ?_
      dsimp only
      refine exp_ev (l3Dec_ev w.toNat w (by omega) (by omega) (by omega)) ?_
      have hds := decS (n := w) (by omega) (by omega)
      have z1 : (⟨#[120]⟩ : ByteArray).size = 1 := rfl
      refine exp_pos (by omega) ?_
      obtain ⟨x, ⟨x0, x1, _⟩, e1⟩ := pick_ok hb (q + 1) (p.length : Int) (by omega) (by omega) (by omega)
      have x1 := x1 (by omega)
      refine exp_let e1 (exp_pos x0 (exp_pos x1 ?_))
      dsimp only
      obtain ⟨y, ⟨y0, y1, _⟩, e2⟩ := pick_ok hb (q + 1 + 1) (p.length : Int) (by omega) (by omega) (by omega)
      have y1 := y1 (by omega)
      refine exp_let e2 (exp_pos y0 (exp_pos y1 ?_))
      dsimp only
      obtain ⟨z, hz, e3⟩ := of_ok hb (q + 1 + 1 + 1) (by omega) (by omega) ([(⟨#[101, 97, 115, 116]⟩ : ByteArray), (⟨#[119, 101, 115, 116]⟩ : ByteArray)] : List ByteArray) (by decide) (by decide)
      refine exp_let e3 ?_
      dsimp only
      refine exp_bind (l2Try_ok h (ws5 (by decide) (by rw [ByteArray.size_append]; omega) (rdP_size h.p1 x x0 x1) (rdP_size h.p1 y y0 y1) (memS hz (by decide))) (by simp)) (fun t ht => ?_)
      rw [show wrap64 (((m + 1 : Nat) : Int) - 1) = (m : Int) by unfold wrap64; omega]
      exact dr_l9 hb m _ _ _ _ _ (by omega) ht (by omega) (by omega)
    · obtain ⟨w, _, e⟩ := pick_ok hb q 24 h0 (by omega) (by omega)
      refine exp_let e (exp_ite (fun _ => ?_) (fun _ => exp_let (l2Copy_ok (by omega) h) (exp_ret ⟨h, rfl, by dsimp only; omega, by dsimp only; omega⟩)))
      exact dr_l10 hb (w, b, q + 1) rfl (by dsimp only; omega) (by dsimp only; omega) 20 0 s f p v (by omega) h
theorem dr_j1 {b : List Int} (hb : Bytes b) (i : Nat) (hi : i < 9) (fl : Bool) (s0 : ByteArray) (hs0 : s0.size ≤ 1000) (s : List ByteArray) (f : List S_impl_PlantFoe) (p : List S_impl_PlantPlace) (v : List S_impl_PlantValve) (q : Int) (h : PD 0 s f p v) (h0 : 0 ≤ q) (hq : q ≤ 70000)
    (K : ∀ (s : List ByteArray) (f : List S_impl_PlantFoe) (p : List S_impl_PlantPlace) (v : List S_impl_PlantValve) (q' : Int), PD 0 s f p v → q ≤ q' → q' ≤ q + 1 → ExP (fun k => spec_l2Draw.l8 k ((i + 1 : Nat) : Int) b q' s f p v) (QD 0 b 100000)) : ExP (fun k => spec_l2Draw.j1 k (i : Int) fl (s0, b, q) s f p v) (QD 0 b 100000) := by
  have hz : ∀ w ∈ ([(⟨#[97]⟩ : ByteArray), (⟨#[98]⟩ : ByteArray), (⟨#[106, 49]⟩ : ByteArray), (⟨#[106, 50]⟩ : ByteArray), (⟨#[106, 51]⟩ : ByteArray), (⟨#[107, 45, 107]⟩ : ByteArray), (⟨#[118, 49]⟩ : ByteArray), (⟨#[118, 50]⟩ : ByteArray), (⟨#[122]⟩ : ByteArray)] : List ByteArray), w.size ≤ 1000 := fun w hw => memS hw (by decide)
  refine exp_step (fun k => by rw [spec_l2Draw.j1]) (exp_ite (fun _ => exp_pos (by omega) (exp_pos (by omega) ?_)) (fun _ => exp_pos (by omega) (exp_pos (by omega) ?_)))
  · rw [wsucc (n := 100) (by omega) (by omega)]
    exact exp_bind (l2Try_ok h (ws3 (by decide) (ws_size hz i) hs0) (by simp)) (fun t ht => K _ _ _ _ _ ht (by dsimp only; omega) (by dsimp only; omega))
  · rw [wsucc (n := 100) (by omega) (by omega)]
    obtain ⟨w, ⟨w0, w1, _⟩, e⟩ := pick_ok hb q 60 h0 (by omega) (by omega)
    have w1 := w1 (by omega)
    refine exp_let e ?_
    dsimp only
    rw [show wrap64 (1 + w) = 1 + w from w64 (by omega) (by omega)]
    refine exp_ev (l3Dec_ev (1 + w).toNat (1 + w) (by omega) (by omega) (by omega)) ?_
    have hds := decS (n := 1 + w) (by omega) (by omega)
    exact exp_bind (l2Try_ok h (ws4 (by decide) (ws_size hz i) (by omega) hs0) (by simp)) (fun t ht => K _ _ _ _ _ ht (by omega) (by omega))
theorem dr_l8 {b : List Int} (hb : Bytes b) : ∀ (m i : Nat) (s : List ByteArray) (f : List S_impl_PlantFoe) (p : List S_impl_PlantPlace) (v : List S_impl_PlantValve) (q : Int), i + m = 9 → PD 0 s f p v → 0 ≤ q → q + 5 * m ≤ 60000 → ExP (fun k => spec_l2Draw.l8 k (i : Int) b q s f p v) (QD 0 b 100000)
  | 0, i, s, f, p, v, q, hi, h, h0, hq => by
    refine exp_step (fun k => by rw [spec_l2Draw.l8]) (exp_neg (by omega) ?_)
    obtain ⟨w, ⟨w0, w1, _⟩, e⟩ := pick_ok hb q 13 h0 (by omega) (by omega)
    have w1 := w1 (by omega)
    obtain ⟨n, rfl⟩ : ∃ n : Nat, w = (n : Int) := ⟨w.toNat, by omega⟩
    refine exp_let e ?_
    exact dr_l9 hb n s f p v (q + 1) (by omega) h (by omega) (by omega)
  | m + 1, i, s, f, p, v, q, hi, h, h0, hq => by
    refine exp_step (fun k => by rw [spec_l2Draw.l8]) (exp_pos (by omega) ?_)
    obtain ⟨w, _, e⟩ := pick_ok hb q 6 h0 (by omega) (by omega)
    refine exp_let e ?_
    dsimp only
    rw [wsucc (n := 100) (by omega) (by omega)]
    refine exp_ite (fun _ => dr_l8 hb m (i + 1) _ _ _ _ _ (by omega) h (by omega) (by omega)) (fun _ => ?_)
    obtain ⟨z, hz, e3⟩ := of_ok hb (q + 1) (by omega) (by omega) ([(⟨#[101, 97, 115, 116]⟩ : ByteArray), (⟨#[119, 101, 115, 116]⟩ : ByteArray)] : List ByteArray) (by decide) (by decide)
    refine exp_let e3 ?_
    have K : ∀ (s : List ByteArray) (f : List S_impl_PlantFoe) (p : List S_impl_PlantPlace) (v : List S_impl_PlantValve) (q' : Int), PD 0 s f p v → q + 1 + 1 ≤ q' → q' ≤ q + 1 + 1 + 1 → ExP (fun k => spec_l2Draw.l8 k ((i + 1 : Nat) : Int) b q' s f p v) (QD 0 b 100000) := fun s f p v q' h h1 h2 => dr_l8 hb m (i + 1) s f p v q' (by omega) h (by omega) (by omega)
    have hzs := memS hz (by decide)
    exact exp_ite (fun _ => dr_j1 hb i (by omega) _ z hzs s f p v _ h (by omega) (by omega) K) (fun _ => dr_j1 hb i (by omega) _ z hzs s f p v _ h (by omega) (by omega) K)
theorem dr_l1 {b : List Int} (hb : Bytes b) : ∀ (m : Nat) (s : List ByteArray) (f : List S_impl_PlantFoe) (p : List S_impl_PlantPlace) (v : List S_impl_PlantValve) (q : Int), m ≤ 4 → PD 0 s f p v → 0 ≤ q → q + 5 * m ≤ 50000 → ExP (fun k => spec_l2Draw.l1 k (m : Int) b q s f p v) (QD 0 b 100000)
  | 0, s, f, p, v, q, hm, h, h0, hq => by
    have K := dr_l8 hb 9 0 s f p v q (by omega) h h0 (by omega)
    refine exp_step (fun k => by rw [spec_l2Draw.l1]) (exp_neg (by omega) ?_)
    exact K
  | m + 1, s, f, p, v, q, hm, h, h0, hq => by
    have hls := h.ls
    have K := dr_l2 hb 9 0 s f p v q (by omega) h h0 (by omega)
    refine exp_step (fun k => by rw [spec_l2Draw.l1]) (exp_pos (by omega) (exp_ite (fun hl => ?_) (fun _ => ?_)))
    rotate_left
    · exact K
    obtain ⟨x, hx, e1⟩ := of_ok hb q h0 (by omega) s (by omega) (by omega)
    refine exp_let e1 ?_
    dsimp only
    obtain ⟨y, hy, e2⟩ := of_ok hb (q + 1) (by omega) (by omega) s (by omega) (by omega)
    refine exp_let e2 ?_
    dsimp only
    refine exp_bind (l2Try_ok h (ws3 (by decide) (h.s1 x hx) (h.s1 y hy)) (by simp)) (fun t ht => ?_)
    rw [show wrap64 (((m + 1 : Nat) : Int) - 1) = (m : Int) by unfold wrap64; omega]
    exact dr_l1 hb m _ _ _ _ _ (by omega) ht (by omega) (by omega)
theorem dr_l0 {b : List Int} (hb : Bytes b) (X : List ByteArray) (hX : X.length = 4) (hXs : ∀ w ∈ X, w.size ≤ 1000) : ∀ (m i : Nat) (s : List ByteArray) (q : Int), i + m = 4 → s.length ≤ i → (∀ x ∈ s, x.size ≤ 1000) → 0 ≤ q → q + 2 * m ≤ 40000 → ExP (fun k => spec_l2Draw.l0 k X (i : Int) b q s [] [] []) (QD 0 b 100000)
  | 0, i, s, q, hi, hs, hs1, h0, hq => by
    refine exp_step (fun k => by rw [spec_l2Draw.l0]) (exp_neg (by omega) ?_)
    obtain ⟨w, ⟨w0, w1, _⟩, e⟩ := pick_ok hb q 4 h0 (by omega) (by omega)
    have w1 := w1 (by omega)
    obtain ⟨n, rfl⟩ : ∃ n : Nat, w = (n : Int) := ⟨w.toNat, by omega⟩
    refine exp_let e ?_
    exact dr_l1 hb n s [] [] [] (q + 1) (by omega) ⟨by omega, by simp, by simp, by simp, hs1, fun x hx => (by cases hx), fun x hx => (by cases hx), fun x hx => (by cases hx)⟩ (by omega) (by omega)
  | m + 1, i, s, q, hi, hs, hs1, h0, hq => by
    refine exp_step (fun k => by rw [spec_l2Draw.l0]) (exp_pos (by omega) ?_)
    obtain ⟨w, _, e⟩ := pick_ok hb q 5 h0 (by omega) (by omega)
    refine exp_let e ?_
    dsimp only
    rw [wsucc (n := 100) (by omega) (by omega)]
    refine exp_ite (fun _ => exp_pos (by omega) (exp_pos (by omega) ?_)) (fun _ => dr_l0 hb X hX hXs m (i + 1) s _ (by omega) (by omega) hs1 (by omega) (by omega))
    refine dr_l0 hb X hX hXs m (i + 1) _ _ (by omega) (by simp; omega) (fun x hx => ?_) (by omega) (by omega)
    rcases List.mem_append.1 hx with hx | hx
    · exact hs1 x hx
    · rw [List.mem_singleton] at hx; subst hx; exact ws_size hXs i
theorem l2Draw_ok {b : List Int} (hb : Bytes b) : ExP (fun k => spec_l2Draw.f k b 0) (QD 0 b 100000) := by
  unfold spec_l2Draw.f
  exact dr_l0 hb _ rfl (fun w hw => memS hw (by decide)) 4 0 [] 0 (by omega) (by simp) (fun x hx => (by cases hx)) (by omega) (by omega)
/-! ### plants, spoilt -/
theorem exp_pick {β : Type} {b : List Int} (hb : Bytes b) {q n : Int} (h0 : 0 ≤ q) (hq : q ≤ 1000000) (hn : n ≤ 1000000) {f : Nat → Int × List Int × Int → Option β} {Q : β → Prop} (k : ∀ v, 0 ≤ v → (1 ≤ n → v < n) → ExP (fun m => f m (v, b, q + 1)) Q) : ExP (fun m => (spec_l1Rd_pick.f b q n).bind (f m)) Q := by
  obtain ⟨v, ⟨v0, v1, _⟩, e⟩ := pick_ok hb q n h0 (by omega) (by omega)
  exact exp_let e (k v v0 v1)
theorem exp_draw {β : Type} {b : List Int} (hb : Bytes b) {q : Int} {l : List ByteArray} (h0 : 0 ≤ q) (hq : q ≤ 1000000) (h1 : 1 ≤ l.length) (h2 : l.length ≤ 1000) (hz : ∀ w ∈ l, w.size ≤ 1000) {f : Nat → ByteArray × List Int × Int → Option β} {Q : β → Prop} (k : ∀ s, s.size ≤ 1000 → ExP (fun m => f m (s, b, q + 1)) Q) : ExP (fun m => (spec_l1Rd_of.f b q l).bind (f m)) Q := by
  obtain ⟨s, hs, e⟩ := of_ok hb q h0 (by omega) l h1 (by omega)
  exact exp_let e (k s (hz s hs))
theorem set_mem' {α : Type} {P : α → Prop} {l : List α} {x : α} (n : Nat) (h : ∀ y ∈ l, P y) (hx : P x) : ∀ y ∈ l.set n x, P y := fun y hy => by
  rcases List.mem_or_eq_of_mem_set hy with hy | hy
  · exact h y hy
  · subst hy; exact hx
theorem app_mem' {α : Type} {P : α → Prop} {l : List α} {x : α} (h : ∀ y ∈ l, P y) (hx : P x) : ∀ y ∈ l ++ [x], P y := fun y hy => by
  rcases List.mem_append.1 hy with hy | hy
  · exact h y hy
  · rw [List.mem_singleton] at hy; subst hy; exact hx
theorem PD.up {m n : Nat} {s : List ByteArray} {f : List S_impl_PlantFoe} {p : List S_impl_PlantPlace} {v : List S_impl_PlantValve} (h : PD m s f p v) (hmn : m ≤ n) : PD n s f p v := by
  obtain ⟨ls, lf, lp, lv, s1, f1, p1, v1⟩ := h
  exact ⟨by omega, by omega, by omega, by omega, s1, f1, p1, v1⟩
theorem rdP_ok {p : List S_impl_PlantPlace} (h : ∀ x ∈ p, x.f0.size ≤ 1000 ∧ x.f2.size ≤ 1000) (a : Int) (h0 : 0 ≤ a) (h1 : a < p.length) : (rd_impl_PlantPlace p a).f0.size ≤ 1000 ∧ (rd_impl_PlantPlace p a).f2.size ≤ 1000 := by
  obtain ⟨n, rfl⟩ : ∃ n : Nat, a = (n : Int) := ⟨a.toNat, by omega⟩
  rw [rdP]
  exact h _ (mem_getD z_impl_PlantPlace p n (by omega))
theorem rdV_ok {p : List S_impl_PlantValve} (h : ∀ x ∈ p, x.f0.size ≤ 1000 ∧ x.f1.size ≤ 1000 ∧ x.f2.size ≤ 1000 ∧ x.f3.size ≤ 1000) (a : Int) (h0 : 0 ≤ a) (h1 : a < p.length) : (rd_impl_PlantValve p a).f0.size ≤ 1000 ∧ (rd_impl_PlantValve p a).f1.size ≤ 1000 ∧ (rd_impl_PlantValve p a).f2.size ≤ 1000 ∧ (rd_impl_PlantValve p a).f3.size ≤ 1000 := by
  obtain ⟨n, rfl⟩ : ∃ n : Nat, a = (n : Int) := ⟨a.toNat, by omega⟩
  rw [rdV]
  exact h _ (mem_getD z_impl_PlantValve p n (by omega))
theorem sp_j0 {b : List Int} {s : List ByteArray} {f : List S_impl_PlantFoe} {p : List S_impl_PlantPlace} {v : List S_impl_PlantValve} {q : Int} (h : PD 1 s f p v) (h0 : 0 ≤ q) (hq : q ≤ 200000) : ExP (fun k => spec_l2Spoil.j0 k b q s f p v) (QD 1 b 200000) :=
  exp_step (fun k => by rw [spec_l2Spoil.j0]) (exp_ret ⟨h, rfl, h0, hq⟩)
theorem sp_l0 {b : List Int} (t : Int × List Int × Int) (hb0 : t.2.1 = b) (c0 : 0 ≤ t.1) (c1 : t.1 < 2) (h0 : 0 ≤ t.2.2) (hq : t.2.2 ≤ 200000) (f : List S_impl_PlantFoe) (p : List S_impl_PlantPlace) (v : List S_impl_PlantValve) : ∀ (m i : Nat) (s : List ByteArray), i + m ≤ 50 → 10 ≤ m + s.length → PD 1 s f p v → ExP (fun k => spec_l2Spoil.l0 k (i : Int) t s f p v) (QD 1 b 200000)
  | 0, i, s, hi, hm, h => by have := h.ls; omega
  | m + 1, i, s, hi, hm, h => by
    have hls := h.ls
    refine exp_step (fun k => by rw [spec_l2Spoil.l0]) ?_
    rw [show wrap64 (8 + t.1) = 8 + t.1 from w64 (by omega) (by omega), show wrap64 (10 + (i : Int)) = ((10 + i : Nat) : Int) by unfold wrap64; omega, wsucc (n := 100) (by omega) (by omega)]
    refine exp_ite (fun c => ?_) (fun c => ?_)
    · refine exp_ev (l3Dec_ev (10 + i) ((10 + i : Nat) : Int) (by omega) (by omega) (by omega)) ?_
      have hds := decS (n := ((10 + i : Nat) : Int)) (by omega) (by omega)
      have z1 : (⟨#[122]⟩ : ByteArray).size = 1 := rfl
      refine exp_pos (by omega) (exp_pos (by omega) ?_)
      obtain ⟨ls, lf, lp, lv, s1, f1, p1, v1⟩ := h
      exact sp_l0 t hb0 c0 c1 h0 hq f p v m (i + 1) _ (by omega) (by rw [List.length_append, List.length_singleton]; omega) ⟨by rw [List.length_append, List.length_singleton]; omega, lf, lp, lv, app_mem' s1 (by rw [ByteArray.size_append]; omega), f1, p1, v1⟩
    · rw [hb0]; exact sp_j0 h h0 hq
theorem sp_l1 {b : List Int} (t : Int × List Int × Int) (hb0 : t.2.1 = b) (c0 : 0 ≤ t.1) (c1 : t.1 < 2) (h0 : 0 ≤ t.2.2) (hq : t.2.2 ≤ 200000) (s : List ByteArray) (f : List S_impl_PlantFoe) (v : List S_impl_PlantValve) : ∀ (m i : Nat) (p : List S_impl_PlantPlace), i + m ≤ 50 → 16 ≤ m + p.length → PD 1 s f p v → ExP (fun k => spec_l2Spoil.l1 k (i : Int) t s f p v) (QD 1 b 200000)
  | 0, i, p, hi, hm, h => by have := h.lp; omega
  | m + 1, i, p, hi, hm, h => by
    have hls := h.lp
    refine exp_step (fun k => by rw [spec_l2Spoil.l1]) ?_
    rw [show wrap64 (14 + t.1) = 14 + t.1 from w64 (by omega) (by omega), show wrap64 (10 + (i : Int)) = ((10 + i : Nat) : Int) by unfold wrap64; omega, wsucc (n := 100) (by omega) (by omega)]
    refine exp_ite (fun c => ?_) (fun c => ?_)
    · refine exp_ev (l3Dec_ev (10 + i) ((10 + i : Nat) : Int) (by omega) (by omega) (by omega)) ?_
      have hds := decS (n := ((10 + i : Nat) : Int)) (by omega) (by omega)
      have z1 : (⟨#[122, 122]⟩ : ByteArray).size = 2 := rfl
      refine exp_pos (by omega) (exp_pos (by omega) ?_)
      obtain ⟨ls, lf, lp, lv, s1, f1, p1, v1⟩ := h
      exact sp_l1 t hb0 c0 c1 h0 hq s f v m (i + 1) _ (by omega) (by rw [List.length_append, List.length_singleton]; omega) ⟨ls, lf, by rw [List.length_append, List.length_singleton]; omega, lv, s1, f1, app_mem' p1 ⟨by show (_ ++ _ : ByteArray).size ≤ 1000; rw [ByteArray.size_append]; omega, by show 1 ≤ 1000; omega⟩, v1⟩
    · rw [hb0]; exact sp_j0 h h0 hq
theorem sp_l2 {b : List Int} (t : Int × List Int × Int) (hb0 : t.2.1 = b) (c0 : 0 ≤ t.1) (c1 : t.1 < 2) (h0 : 0 ≤ t.2.2) (hq : t.2.2 ≤ 200000) (s : List ByteArray) (f : List S_impl_PlantFoe) (p : List S_impl_PlantPlace) : ∀ (m i : Nat) (v : List S_impl_PlantValve), i + m ≤ 50 → 20 ≤ m + v.length → PD 1 s f p v → ExP (fun k => spec_l2Spoil.l2 k (i : Int) t s f p v) (QD 1 b 200000)
  | 0, i, v, hi, hm, h => by have := h.lv; omega
  | m + 1, i, v, hi, hm, h => by
    have hls := h.lv
    refine exp_step (fun k => by rw [spec_l2Spoil.l2]) ?_
    rw [show wrap64 (18 + t.1) = 18 + t.1 from w64 (by omega) (by omega), show wrap64 (10 + (i : Int)) = ((10 + i : Nat) : Int) by unfold wrap64; omega, wsucc (n := 100) (by omega) (by omega)]
    refine exp_ite (fun c => exp_ite (fun d => ?_) (fun d => ?_)) (fun c => ?_)
    · refine exp_ev (l3Dec_ev (10 + i) ((10 + i : Nat) : Int) (by omega) (by omega) (by omega)) ?_
      have hds := decS (n := ((10 + i : Nat) : Int)) (by omega) (by omega)
      have z1 : (⟨#[122, 122]⟩ : ByteArray).size = 2 := rfl
      refine exp_pos (by omega) (exp_pos (by omega) (exp_pos (by omega) (exp_pos (by omega) ?_)))
      obtain ⟨ls, lf, lp, lv, s1, f1, p1, v1⟩ := h
      have a0 := (rdP_ok p1 0 (by omega) (by omega)).1
      have a1 := (rdP_ok p1 1 (by omega) (by omega)).1
      exact sp_l2 t hb0 c0 c1 h0 hq s f p m (i + 1) _ (by omega) (by rw [List.length_append, List.length_singleton]; omega) ⟨ls, lf, lp, by rw [List.length_append, List.length_singleton]; omega, s1, f1, p1, app_mem' v1 ⟨by show (_ ++ _ : ByteArray).size ≤ 1000; rw [ByteArray.size_append]; omega, a0, a1, by show 1 ≤ 1000; omega⟩⟩
    · rw [hb0]; exact sp_j0 h h0 hq
    · rw [hb0]; exact sp_j0 h h0 hq
theorem sp_j1 {b : List Int} (hb : Bytes b) {s : List ByteArray} {f : List S_impl_PlantFoe} {p : List S_impl_PlantPlace} {v : List S_impl_PlantValve} (h : PD 1 s f p v) (c : Int) (q : Int) (h0 : 0 ≤ q) (hq : q ≤ 150000) (fl : Bool) : ExP (fun k => spec_l2Spoil.j1 k fl (s, f, p, v) (c, b, q)) (QD 1 b 200000) := by
  obtain ⟨ls, lf, lp, lv, s1, f1, p1, v1⟩ := h
  have h : PD 1 s f p v := ⟨ls, lf, lp, lv, s1, f1, p1, v1⟩
  refine exp_step (fun k => by rw [spec_l2Spoil.j1]) (exp_ite (fun _ => exp_ite (fun hl => ?_) (fun _ => ?_)) (fun _ => ?_))
  · refine exp_pick hb h0 (by omega) (by dsimp only; omega) (fun a a0 a1 => ?_)
    have a1 := a1 (by dsimp only at hl ⊢; omega)
    dsimp only at a1 hl ⊢
    have hx := rdV_ok v1 a a0 a1
    have fin : ∀ (x : S_impl_PlantValve) (q' : Int), (x.f0.size ≤ 1000 ∧ x.f1.size ≤ 1000 ∧ x.f2.size ≤ 1000 ∧ x.f3.size ≤ 1000) → 0 ≤ q' → q' ≤ 200000 → ExP (fun k => spec_l2Spoil.j0 k b q' s f p (v.set a.toNat x)) (QD 1 b 200000) := fun x q' g g0 g1 => sp_j0 ⟨ls, lf, lp, by rw [List.length_set]; omega, s1, f1, p1, set_mem' _ v1 g⟩ g0 g1
    refine exp_pick hb (by omega) (by omega) (by omega) (fun d d0 d1 => ?_)
    dsimp only
    refine exp_ite (fun _ => ?_) (fun _ => exp_ite (fun _ => ?_) (fun _ => exp_ite (fun _ => ?_) (fun _ => ?_)))
    · refine exp_draw hb (by omega) (by omega) (by decide) (by decide) (fun w hw => memS hw (by decide)) (fun w hw => exp_pos a0 (exp_pos a1 (fin _ _ ⟨hw, hx.2⟩ (by dsimp only; omega) (by dsimp only; omega))))
    · refine exp_pos a0 (exp_pos a1 (exp_draw hb (by omega) (by omega) (by simp) (by simp) (ws4 (by decide) (by decide) hx.2.2.1 (by decide)) (fun w hw => fin _ _ ⟨hx.1, hw, hx.2.2⟩ (by dsimp only; omega) (by dsimp only; omega))))
    · refine exp_draw hb (by omega) (by omega) (by decide) (by decide) (fun w hw => memS hw (by decide)) (fun w hw => exp_pos a0 (exp_pos a1 (fin _ _ ⟨hx.1, hx.2.1, hw, hx.2.2.2⟩ (by dsimp only; omega) (by dsimp only; omega))))
    · exact exp_pos a0 (exp_pos a1 (fin _ _ ⟨hx.1, hx.2.1, hx.2.2.1, by show 0 ≤ 1000; omega⟩ (by omega) (by omega)))
  · exact sp_j0 h h0 (by dsimp only; omega)
  · dsimp only
    refine exp_ite (fun _ => ?_) (fun _ => exp_ite (fun _ => ?_) (fun _ => ?_))
    · exact exp_pick hb h0 (by omega) (by omega) (fun a a0 a1 => sp_l0 (a, b, q + 1) rfl a0 (a1 (by omega)) (by dsimp only; omega) (by dsimp only; omega) f p v 20 0 s (by omega) (by omega) h)
    · exact exp_pick hb h0 (by omega) (by omega) (fun a a0 a1 => sp_l1 (a, b, q + 1) rfl a0 (a1 (by omega)) (by dsimp only; omega) (by dsimp only; omega) s f v 20 0 p (by omega) (by omega) h)
    · exact exp_pick hb h0 (by omega) (by omega) (fun a a0 a1 => sp_l2 (a, b, q + 1) rfl a0 (a1 (by omega)) (by dsimp only; omega) (by dsimp only; omega) s f p 20 0 v (by omega) (by omega) h)
theorem l2Spoil_ok {b : List Int} (hb : Bytes b) {s : List ByteArray} {f : List S_impl_PlantFoe} {p : List S_impl_PlantPlace} {v : List S_impl_PlantValve} (hh : PD 0 s f p v) (q : Int) (h0 : 0 ≤ q) (hq : q ≤ 120000) : ExP (fun k => spec_l2Spoil.f k b q s f p v) (QD 1 b 200000) := by
  unfold spec_l2Spoil.f
  have h := hh.up (n := 1) (by omega)
  obtain ⟨ls, lf, lp, lv, s1, f1, p1, v1⟩ := hh
  refine exp_let (l2Copy_ok (m := 1) (by omega) h) (exp_pick hb h0 (by omega) (by omega) (fun c _ _ => ?_))
  dsimp only
  refine exp_ite (fun _ => ?_) (fun _ => exp_ite (fun _ => ?_) (fun _ => exp_ite (fun _ => ?_) (fun _ => exp_ite (fun _ => ?_) (fun _ => exp_ite (fun _ => ?_) (fun _ => ?_)))))
  · refine exp_draw hb (by omega) (by omega) (by decide) (by decide) (fun w hw => memS hw (by decide)) (fun w hw => exp_pos (by omega) (sp_j0 ⟨by rw [List.length_append, List.length_singleton]; omega, by omega, by omega, by omega, app_mem' s1 hw, f1, p1, v1⟩ (by dsimp only; omega) (by dsimp only; omega)))
  · refine exp_draw hb (by omega) (by omega) (by decide) (by decide) (fun w hw => memS hw (by decide)) (fun w hw => exp_draw hb (by dsimp only; omega) (by dsimp only; omega) (by decide) (by decide) (fun w hw => memS hw (by decide)) (fun z hz => exp_pos (by omega) (sp_j0 ⟨by omega, by rw [List.length_append, List.length_singleton]; omega, by omega, by omega, s1, app_mem' f1 ⟨hw, hz⟩, p1, v1⟩ (by dsimp only; omega) (by dsimp only; omega))))
  · refine exp_ite (fun hl => exp_pick hb (by omega) (by omega) (by omega) (fun a a0 a1 => ?_)) (fun _ => sp_j0 h (by omega) (by omega))
    have a1 := a1 (by omega)
    have hx := rdP_ok p1 a a0 a1
    refine exp_draw hb (by dsimp only; omega) (by dsimp only; omega) (by decide) (by decide) (fun w hw => memS hw (by decide)) (fun w hw => exp_pos a0 (exp_pos a1 (sp_j0 ⟨by omega, by omega, by rw [List.length_set]; omega, by omega, s1, f1, set_mem' _ p1 ⟨hw, hx.2⟩, v1⟩ (by dsimp only; omega) (by dsimp only; omega))))
  · refine exp_ite (fun hl => exp_pick hb (by omega) (by omega) (by omega) (fun a a0 a1 => ?_)) (fun _ => sp_j0 h (by omega) (by omega))
    have a1 := a1 (by omega)
    have hx := rdP_ok p1 a a0 a1
    refine exp_pick hb (by dsimp only; omega) (by dsimp only; omega) (by omega) (fun d d0 d1 => ?_)
    have d1 := d1 (by omega)
    exact exp_pos d0 (exp_pos d1 (exp_pos a0 (exp_pos a1 (sp_j0 ⟨by omega, by omega, by rw [List.length_set]; omega, by omega, s1, f1, set_mem' _ p1 ⟨hx.1, hx.2⟩, v1⟩ (by dsimp only; omega) (by dsimp only; omega)))))
  · refine exp_ite (fun hl => exp_pick hb (by omega) (by omega) (by omega) (fun a a0 a1 => ?_)) (fun _ => sp_j0 h (by omega) (by omega))
    have a1 := a1 (by omega)
    have hx := rdP_ok p1 a a0 a1
    refine exp_draw hb (by dsimp only; omega) (by dsimp only; omega) (by decide) (by decide) (fun w hw => memS hw (by decide)) (fun w hw => exp_pos a0 (exp_pos a1 (sp_j0 ⟨by omega, by omega, by rw [List.length_set]; omega, by omega, s1, f1, set_mem' _ p1 ⟨hx.1, hw⟩, v1⟩ (by dsimp only; omega) (by dsimp only; omega))))
  · exact exp_ite (fun _ => sp_j1 hb h c (q + 1) (by omega) (by omega) _) (fun _ => sp_j1 hb h c (q + 1) (by omega) (by omega) _)
theorem l2Any_ok {b : List Int} (hb : Bytes b) : ExP (fun k => spec_l2Any.f k b 0) (QD 1 b 300000) := by
  unfold spec_l2Any.f
  refine exp_bind (l2Draw_ok hb) (fun t ht => ?_)
  obtain ⟨h, hbb, h0, h1⟩ := ht
  rw [hbb]
  refine exp_pick hb h0 (by omega) (by omega) (fun c _ _ => exp_ite (fun _ => ?_) (fun _ => exp_ret ⟨h.up (by omega), rfl, by dsimp only; omega, by dsimp only; omega⟩))
  refine exp_bind (l2Spoil_ok hb h _ (by dsimp only; omega) (by dsimp only; omega)) (fun z hz => ?_)
  obtain ⟨g, gb, g0, g1⟩ := hz
  exact exp_ret ⟨g, gb, g0, by dsimp only; omega⟩
theorem l6Valve_ok {β : Type} {b : List Int} (hb : Bytes b) {q : Int} (h0 : 0 ≤ q) (hq : q ≤ 900000) {s : List ByteArray} {f : List S_impl_PlantFoe} {p : List S_impl_PlantPlace} {v : List S_impl_PlantValve} (h : PD 1 s f p v) {g : Nat → ByteArray × List Int × Int → Option β} {Q : β → Prop} (k : ∀ x q', x.size ≤ 1000 → q ≤ q' → q' ≤ q + 2 → ExP (fun m => g m (x, b, q')) Q) : ExP (fun m => (spec_l6Valve.f b q s f p v).bind (g m)) Q := by
  have key : ∃ x q', x.size ≤ 1000 ∧ q ≤ q' ∧ q' ≤ q + 2 ∧ spec_l6Valve.f b q s f p v = some (x, b, q') := by
    have hl := h.lv
    have tl : ∀ q' : Int, 0 ≤ q' → q' ≤ 1000000 → ∃ x : ByteArray, x.size ≤ 1000 ∧ spec_l1Rd_of.f b q' ([(⟨#[110, 111, 110, 101]⟩ : ByteArray), (⟨#[]⟩ : ByteArray), (⟨#[120, 49]⟩ : ByteArray)] : List ByteArray) = some (x, b, q' + 1) := fun q' g0 g1 => by
      obtain ⟨x, hx, e⟩ := of_ok hb q' g0 (by omega) ([(⟨#[110, 111, 110, 101]⟩ : ByteArray), (⟨#[]⟩ : ByteArray), (⟨#[120, 49]⟩ : ByteArray)] : List ByteArray) (by decide) (by decide)
      exact ⟨x, memS hx (by decide), e⟩
    unfold spec_l6Valve.f
    by_cases c : (v.length : Int) > 0
    · rw [if_pos c]
      obtain ⟨a, _, e⟩ := pick_ok hb q 12 h0 (by omega) (by omega)
      rw [e]; simp only [Option.bind_some]
      by_cases d : a > 0
      · rw [if_pos d]
        obtain ⟨w, ⟨w0, w1, _⟩, e2⟩ := pick_ok hb (q + 1) (v.length : Int) (by omega) (by omega) (by omega)
        have w1 := w1 (by omega)
        rw [e2]; simp only [Option.bind_some]
        rw [if_pos w0, if_pos w1]
        exact ⟨_, q + 1 + 1, (rdV_ok h.v1 w w0 w1).1, by omega, by omega, rfl⟩
      · rw [if_neg d]
        obtain ⟨x, hx, e2⟩ := tl (q + 1) (by omega) (by omega)
        rw [e2]; exact ⟨x, q + 1 + 1, hx, by omega, by omega, rfl⟩
    · rw [if_neg c]
      obtain ⟨x, hx, e2⟩ := tl q h0 (by omega)
      rw [e2]; exact ⟨x, q + 1, hx, by omega, by omega, rfl⟩
  obtain ⟨x, q', h1, h2, h3, e⟩ := key
  exact exp_let e (k x q' h1 h2 h3)
abbrev TTu := List ByteArray × List S_impl_PlantFoe × List S_impl_PlantPlace × List S_impl_PlantValve × List ByteArray × List Bool
def QTu (t : TTu) : Prop := PD 1 t.1 t.2.1 t.2.2.1 t.2.2.2.1 ∧ t.2.2.2.2.1.length ≤ 20 ∧ t.2.2.2.2.2.length = t.2.2.2.2.1.length ∧ ∀ x ∈ t.2.2.2.2.1, x.size ≤ 1000
theorem turnsLoop {b : List Int} (hb : Bytes b) (l0 : List Int) (t : TPl) (h : PD 1 t.1 t.2.1 t.2.2.1 t.2.2.2.1) : ∀ (m : Nat) (l : List ByteArray) (o : List Bool) (q : Int), m + l.length ≤ 20 → o.length = l.length → (∀ x ∈ l, x.size ≤ 1000) → 0 ≤ q → q + 5 * m ≤ 800000 → ExP (fun k => spec_DrawPlantTurns.l0 k l0 l o (m : Int) t b q) QTu
  | 0, l, o, q, hm, ho, hl, h0, hq => by
    exact exp_step (fun k => by rw [spec_DrawPlantTurns.l0]) (exp_neg (by omega) (exp_ret (Q := QTu) ⟨h, by dsimp only; omega, ho, hl⟩))
  | m + 1, l, o, q, hm, ho, hl, h0, hq => by
    refine exp_step (fun k => by rw [spec_DrawPlantTurns.l0]) (exp_pos (by omega) (l6Valve_ok hb h0 (by omega) h (fun x q' hx g0 g1 => ?_)))
    dsimp only
    refine exp_pos (by omega) ?_
    refine exp_pick hb (by omega) (by omega) (by omega) (fun c _ _ => exp_pos (by omega) ?_)
    rw [show wrap64 (((m + 1 : Nat) : Int) - 1) = (m : Int) by unfold wrap64; omega]
    exact turnsLoop hb l0 t h m _ _ _ (by rw [List.length_append, List.length_singleton]; omega) (by rw [List.length_append, List.length_append, List.length_singleton, List.length_singleton, ho]) (app_mem' hl hx) (by dsimp only; omega) (by dsimp only; omega)
theorem turns_ok (x : List Int) (h : ∀ z ∈ x, (Lit.int .u8 z).wf = true) : ExP (fun k => spec_DrawPlantTurns.f k x) QTu := by
  unfold spec_DrawPlantTurns.f
  obtain ⟨b, hb, e⟩ := open_ok x (bytes_of h)
  refine exp_let e ?_
  dsimp only
  refine exp_bind (l2Any_ok hb) (fun t ht => ?_)
  obtain ⟨g, gb, g0, g1⟩ := ht
  rw [gb]
  refine exp_pick hb g0 (by omega) (by omega) (fun c c0 c1 => ?_)
  have c1 := c1 (by omega)
  obtain ⟨n, rfl⟩ : ∃ n : Nat, c = (n : Int) := ⟨c.toNat, by omega⟩
  exact turnsLoop hb x t g n [] [] _ (by simp; omega) rfl (fun x hx => (by cases hx)) (by dsimp only; omega) (by dsimp only; omega)
/-! ### lengths of a valid plant -/
theorem valid_v {s : List ByteArray} {f : List S_impl_PlantFoe} {p : List S_impl_PlantPlace} {v : List S_impl_PlantValve} (h : validB s f p v = true) : v.length ≤ 18 := by
  simp only [validB, Bool.and_eq_true, decide_eq_true_eq] at h; exact h.2.2.2.1
theorem valid_p {s : List ByteArray} {f : List S_impl_PlantFoe} {p : List S_impl_PlantPlace} {v : List S_impl_PlantValve} (h : validB s f p v = true) : p.length ≤ 14 := by
  simp only [validB, Bool.and_eq_true, decide_eq_true_eq] at h; exact h.2.2.1.1
def ok_impl_PlantMark (z : S_impl_PlantMark) : Prop := z.f0.size ≤ 140737488351232 ∧ z.f1.size ≤ 140737488351232
/-! ### places that are joined -/
def sweepS (o : List ByteArray) (a : List ByteArray × Bool) (y : S_impl_PlantValve) : List ByteArray × Bool :=
  if (hasB o y.f0 && (hasB a.1 y.f1 != hasB a.1 y.f2)) = true then (insertL y.f2 (insertL y.f1 a.1), true) else a
def sweepL (o : List ByteArray) (v : List S_impl_PlantValve) (a : List ByteArray × Bool) : List ByteArray × Bool := v.foldl (sweepS o) a
theorem sweep_cons (o : List ByteArray) (y : S_impl_PlantValve) (v : List S_impl_PlantValve) (a : List ByteArray × Bool) : sweepL o (y :: v) a = sweepL o v (sweepS o a y) := rfl
theorem insertL_len_of {x : ByteArray} : ∀ l : List ByteArray, l.length ≤ (insertL x l).length
  | [] => by simp [insertL]
  | y :: r => by
    have := insertL_len_of (x := x) r
    unfold insertL
    split
    · simp; omega
    · split <;> simp
theorem insertL_new {x : ByteArray} : ∀ l : List ByteArray, x ∉ l → (insertL x l).length = l.length + 1
  | [], _ => by simp [insertL]
  | y :: r, h => by
    have ih := insertL_new r (fun q => h (List.mem_cons_of_mem _ q))
    have hne : ¬ y = x := fun e => h (e ▸ List.mem_cons_self ..)
    unfold insertL
    split
    · simp [ih]
    · first | (rw [if_neg hne]; simp) | simp
theorem sweepS_grows (o : List ByteArray) (a : List ByteArray × Bool) (y : S_impl_PlantValve) : sweepS o a y = a ∨ ((sweepS o a y).2 = true ∧ a.1.length < (sweepS o a y).1.length) := by
  unfold sweepS
  split
  · rename_i h
    refine .inr ⟨rfl, ?_⟩
    show a.1.length < (insertL y.f2 (insertL y.f1 a.1)).length
    rw [Bool.and_eq_true] at h
    have h2 := h.2
    by_cases c : y.f1 ∈ a.1
    · have c2 : y.f2 ∉ a.1 := fun q => by rw [hasB_iff.2 c, hasB_iff.2 q] at h2; cases h2
      by_cases e : y.f2 = y.f1
      · exact absurd (e ▸ c) c2
      · have : y.f2 ∉ insertL y.f1 a.1 := fun q => by rcases (insertL_mem y.f1 y.f2 a.1).1 q with q | q; exact e q; exact c2 q
        rw [insertL_new _ this]
        have := insertL_len_of (x := y.f1) a.1
        omega
    · have h3 := insertL_new a.1 c
      have := insertL_len_of (x := y.f2) (insertL y.f1 a.1)
      omega
  · exact .inl rfl
theorem sweep_grows (o : List ByteArray) : ∀ (v : List S_impl_PlantValve) (a : List ByteArray × Bool), sweepL o v a = a ∨ ((sweepL o v a).2 = true ∧ a.1.length < (sweepL o v a).1.length)
  | [], a => .inl rfl
  | y :: v, a => by
    rw [sweep_cons]
    rcases sweep_grows o v (sweepS o a y) with h | ⟨h1, h2⟩
    · rw [h]; exact sweepS_grows o a y
    · rcases sweepS_grows o a y with k | ⟨_, k2⟩
      · rw [k] at h1 h2 ⊢; exact .inr ⟨h1, h2⟩
      · exact .inr ⟨h1, by omega⟩
theorem sweepS_ok (o N : List ByteArray) (a : List ByteArray × Bool) (y : S_impl_PlantValve) (h1 : SortedL a.1) (h2 : ∀ x ∈ a.1, x ∈ N) (hy : y.f1 ∈ N ∧ y.f2 ∈ N) : SortedL (sweepS o a y).1 ∧ ∀ x ∈ (sweepS o a y).1, x ∈ N := by
  unfold sweepS
  split
  · refine ⟨insertL_sorted _ _ (insertL_sorted _ _ h1), fun x hx => ?_⟩
    rcases (insertL_mem _ _ _).1 hx with rfl | hx
    · exact hy.2
    · rcases (insertL_mem _ _ _).1 hx with rfl | hx
      · exact hy.1
      · exact h2 x hx
  · exact ⟨h1, h2⟩
theorem sweep_ok (o N : List ByteArray) : ∀ (v : List S_impl_PlantValve) (a : List ByteArray × Bool), SortedL a.1 → (∀ x ∈ a.1, x ∈ N) → (∀ y ∈ v, y.f1 ∈ N ∧ y.f2 ∈ N) → SortedL (sweepL o v a).1 ∧ ∀ x ∈ (sweepL o v a).1, x ∈ N
  | [], a, h1, h2, _ => ⟨h1, h2⟩
  | y :: v, a, h1, h2, hv => by
    obtain ⟨k1, k2⟩ := sweepS_ok o N a y h1 h2 (hv y (List.mem_cons_self ..))
    exact sweep_ok o N v _ k1 k2 (fun z hz => hv z (List.mem_cons_of_mem _ hz))
theorem sweep_flag (o : List ByteArray) : ∀ (v : List S_impl_PlantValve) (l : List ByteArray) (c : Bool), (sweepL o v (l, c)).1 = (sweepL o v (l, false)).1 ∧ (sweepL o v (l, c)).2 = (c || (sweepL o v (l, false)).2)
  | [], l, c => by cases c <;> simp [sweepL]
  | y :: v, l, c => by
    rw [sweep_cons, sweep_cons]
    by_cases h : (hasB o y.f0 && (hasB l y.f1 != hasB l y.f2)) = true
    · rw [show sweepS o (l, c) y = (insertL y.f2 (insertL y.f1 l), true) from if_pos h, show sweepS o (l, false) y = (insertL y.f2 (insertL y.f1 l), true) from if_pos h]
      refine ⟨rfl, ?_⟩
      obtain ⟨_, q⟩ := sweep_flag o v (insertL y.f2 (insertL y.f1 l)) true
      rw [q]; simp
    · rw [show sweepS o (l, c) y = (l, c) from if_neg h, show sweepS o (l, false) y = (l, false) from if_neg h]
      exact sweep_flag o v l c
def growN (o : List ByteArray) (v : List S_impl_PlantValve) : Nat → List ByteArray → List ByteArray
  | 0, l => l
  | n + 1, l => growN o v n (sweepL o v (l, false)).1
theorem growN_fix (o : List ByteArray) (v : List S_impl_PlantValve) (l : List ByteArray) (h : sweepL o v (l, false) = (l, false)) : ∀ n, growN o v n l = l
  | 0 => rfl
  | n + 1 => by rw [show growN o v (n + 1) l = growN o v n (sweepL o v (l, false)).1 from rfl, h]; exact growN_fix o v l h n
theorem growN_ok (o N : List ByteArray) (v : List S_impl_PlantValve) (hv : ∀ y ∈ v, y.f1 ∈ N ∧ y.f2 ∈ N) : ∀ (n : Nat) (l : List ByteArray), SortedL l → (∀ x ∈ l, x ∈ N) → SortedL (growN o v n l) ∧ ∀ x ∈ growN o v n l, x ∈ N
  | 0, l, h1, h2 => ⟨h1, h2⟩
  | n + 1, l, h1, h2 => by
    obtain ⟨k1, k2⟩ := sweep_ok o N v (l, false) h1 h2 hv
    exact growN_ok o N v hv n _ k1 k2
/-- all that is joined with a place -/
def groupL (o : List ByteArray) (p : List S_impl_PlantPlace) (v : List S_impl_PlantValve) (x : ByteArray) : List ByteArray := growN o v p.length [x]
theorem group_len (N : List ByteArray) {l : List ByteArray} (h1 : SortedL l) (h2 : ∀ x ∈ l, x ∈ N) : l.length ≤ N.length := nodup_len l N (sorted_nodup h1) h2
theorem specGroup_ev (s : List ByteArray) (f : List S_impl_PlantFoe) (p : List S_impl_PlantPlace) (v : List S_impl_PlantValve) (o : List ByteArray) (x : ByteArray) (hp : p.length ≤ 1000) (hv : v.length ≤ 1000) (ho : o.length ≤ 140737488351232) (hx : x ∈ p.map (·.f0)) (hN : ∀ y ∈ v, y.f1 ∈ p.map (·.f0) ∧ y.f2 ∈ p.map (·.f0)) :
    Ev (fun k => spec_l4Group.f k s f p v o x) (groupL o p v x) := by
  unfold spec_l4Group.f groupL
  have inner : ∀ (i : Nat) (R : List ByteArray) (a : List ByteArray), SortedL a → (∀ x ∈ a, x ∈ p.map (·.f0)) → Ev (fun k => spec_l4Group.l0 k p v o (sweepL o v (a, false)).1 (wrap64 ((i : Int) + 1))) R → Ev (fun k => spec_l4Group.l1 k p v o a (i : Int) 0) R := fun i R a h1 h2 hk => by
    have key := loopL z_impl_PlantValve v (P := fun j r => ∀ a : List ByteArray, SortedL a → (∀ x ∈ a, x ∈ p.map (·.f0)) → Ev (fun k => spec_l4Group.l0 k p v o (sweepL o r (a, false)).1 (wrap64 ((i : Int) + 1))) R → Ev (fun k => spec_l4Group.l1 k p v o a (i : Int) (j : Int)) R)
      (fun a _ _ hk => by refine Ev.step (fun k => by rw [spec_l4Group.l1]) ?_; exact ev_neg (by omega) hk) (fun j y r hj hy hm _ ih a h1 h2 hk => ?_)
    · exact key a h1 h2 hk
    have hal := group_len _ h1 h2
    rw [List.length_map] at hal
    refine Ev.step (fun k => by rw [spec_l4Group.l1]) (ev_pos (by omega) (ev_pos (by omega) ?_))
    rw [wsucc hj (by omega), rdV, hy]
    rw [sweep_cons] at hk
    obtain ⟨q1, q2⟩ := sweepS_ok o (p.map (·.f0)) (a, false) y h1 h2 (hN y hm)
    refine Ev.bind (l2Has_ev o y.f0 ho) (ev_b (fun c => ?_) (fun c => ?_))
    · refine Ev.bind (l2Has_ev a y.f1 (by omega)) (Ev.bind (l2Has_ev a y.f2 (by omega)) (ev_b (fun d => ?_) (fun d => ?_)))
      · have e : sweepS o (a, false) y = (insertL y.f2 (insertL y.f1 a), true) := if_pos (by show (hasB o y.f0 && (hasB a y.f1 != hasB a y.f2)) = true; rw [c, d]; rfl)
        rw [e] at hk q1 q2
        rw [(sweep_flag o r _ true).1] at hk
        have := insertL_len y.f1 a
        exact Ev.bind (l4Insert_ev a y.f1 (by omega)) (Ev.bind (l4Insert_ev _ y.f2 (by omega)) (ih _ q1 q2 hk))
      · have e : sweepS o (a, false) y = (a, false) := if_neg (by show ¬ (hasB o y.f0 && (hasB a y.f1 != hasB a y.f2)) = true; rw [c, d]; simp)
        rw [e] at hk
        exact ih a h1 h2 hk
    · have e : sweepS o (a, false) y = (a, false) := if_neg (by show ¬ (hasB o y.f0 && (hasB a y.f1 != hasB a y.f2)) = true; rw [c]; simp)
      rw [e] at hk
      exact ih a h1 h2 hk
  have key : ∀ (n i : Nat), i + n = p.length → ∀ a : List ByteArray, SortedL a → (∀ x ∈ a, x ∈ p.map (·.f0)) → Ev (fun k => spec_l4Group.l0 k p v o a (i : Int)) (growN o v n a) := fun n => by
    induction n with
    | zero =>
      intro i hi a _ _
      refine Ev.step (fun k => by rw [spec_l4Group.l0]) ?_
      exact ev_neg (by omega) (ev_ret rfl)
    | succ n ih =>
      intro i hi a h1 h2
      obtain ⟨q1, q2⟩ := sweep_ok o (p.map (·.f0)) v (a, false) h1 h2 hN
      refine Ev.step (fun k => by rw [spec_l4Group.l0]) (ev_pos (by omega) (inner i _ a h1 h2 ?_))
      rw [wsucc (show i < p.length by omega) (by omega)]
      exact ih (i + 1) (by omega) _ q1 q2
  exact key p.length 0 (by omega) [x] (List.pairwise_singleton _ _) (fun z hz => by rw [List.mem_singleton] at hz; subst hz; exact hx)
theorem implGroup_ev (s : List ByteArray) (f : List S_impl_PlantFoe) (p : List S_impl_PlantPlace) (v : List S_impl_PlantValve) (o : List ByteArray) (x : ByteArray) (hp : p.length ≤ 1000) (hv : v.length ≤ 1000) (ho : o.length ≤ 140737488351232) (hN : ∀ y ∈ v, y.f1 ∈ p.map (·.f0) ∧ y.f2 ∈ p.map (·.f0)) :
    Ev (fun k => impl_group.f k s f p v o x) (if placeHas p x = true then groupL o p v x else []) := by
  unfold impl_group.f groupL
  refine Ev.bind (place_ev s f p v x (by omega)) ?_
  rw [placeOf_has]
  refine ev_b (fun hx => ?_) (fun hx => ev_ret (by rw [hx]; rfl))
  rw [if_pos hx]
  have hx : x ∈ p.map (·.f0) := by
    unfold placeHas at hx
    obtain ⟨y, hy, e⟩ := List.any_eq_true.1 hx
    exact List.mem_map.2 ⟨y, hy, of_decide_eq_true e⟩
  have inner : ∀ (R : List ByteArray) (a : List ByteArray), SortedL a → (∀ x ∈ a, x ∈ p.map (·.f0)) → Ev (fun k => impl_group.l0 k v o (sweepL o v (a, false)).1 (sweepL o v (a, false)).2) R → Ev (fun k => impl_group.l1 k v o a false 0) R := fun R a h1 h2 hk => by
    have key := loopL z_impl_PlantValve v (P := fun j r => ∀ (a : List ByteArray) (c : Bool), SortedL a → (∀ x ∈ a, x ∈ p.map (·.f0)) → Ev (fun k => impl_group.l0 k v o (sweepL o r (a, c)).1 (sweepL o r (a, c)).2) R → Ev (fun k => impl_group.l1 k v o a c (j : Int)) R)
      (fun a c _ _ hk => by refine Ev.step (fun k => by rw [impl_group.l1]) ?_; exact ev_neg (by omega) hk) (fun j y r hj hy hm _ ih a c h1 h2 hk => ?_)
    · exact key a false h1 h2 hk
    have hal := group_len _ h1 h2
    rw [List.length_map] at hal
    refine Ev.step (fun k => by rw [impl_group.l1]) (ev_pos (by omega) (ev_pos (by omega) ?_))
    rw [wsucc hj (by omega), rdV, hy]
    rw [sweep_cons] at hk
    obtain ⟨q1, q2⟩ := sweepS_ok o (p.map (·.f0)) (a, c) y h1 h2 (hN y hm)
    refine Ev.bind (has_ev o y.f0 ho) (ev_b (fun d0 => ?_) (fun d0 => ?_))
    · refine Ev.bind (has_ev a y.f1 (by omega)) (Ev.bind (has_ev a y.f2 (by omega)) (ev_b (fun d => ?_) (fun d => ?_)))
      · have e : sweepS o (a, c) y = (insertL y.f2 (insertL y.f1 a), true) := if_pos (by show (hasB o y.f0 && (hasB a y.f1 != hasB a y.f2)) = true; rw [d0, d]; rfl)
        rw [e] at hk q1 q2
        exact Ev.bind (setW_ev a [y.f1, y.f2] h1 (by simp; omega)) (ih _ true q1 q2 hk)
      · have e : sweepS o (a, c) y = (a, c) := if_neg (by show ¬ (hasB o y.f0 && (hasB a y.f1 != hasB a y.f2)) = true; rw [d0, d]; simp)
        rw [e] at hk
        exact ih a c h1 h2 hk
    · have e : sweepS o (a, c) y = (a, c) := if_neg (by show ¬ (hasB o y.f0 && (hasB a y.f1 != hasB a y.f2)) = true; rw [d0]; simp)
      rw [e] at hk
      exact ih a c h1 h2 hk
  have key : ∀ (n : Nat) (a : List ByteArray), p.length < n + a.length → SortedL a → (∀ x ∈ a, x ∈ p.map (·.f0)) → Ev (fun k => impl_group.l0 k v o a true) (growN o v n a) := fun n => by
    induction n with
    | zero =>
      intro a ha h1 h2
      have hal := group_len _ h1 h2
      rw [List.length_map] at hal
      omega
    | succ n ih =>
      intro a ha h1 h2
      obtain ⟨q1, q2⟩ := sweep_ok o (p.map (·.f0)) v (a, false) h1 h2 hN
      refine Ev.step (fun k => by rw [impl_group.l0]) (ev_pos rfl (inner _ a h1 h2 ?_))
      rcases sweep_grows o v (a, false) with e | ⟨e1, e2⟩
      · rw [e, growN_fix o v a e]
        refine Ev.step (fun k => by rw [impl_group.l0]) ?_
        exact ev_neg (by simp) (ev_ret rfl)
      · rw [e1]
        have e2 : a.length < (sweepL o v (a, false)).1.length := e2
        exact ih _ (by omega) q1 q2
  exact key p.length [x] (by simp) (List.pairwise_singleton _ _) (fun z hz => by rw [List.mem_singleton] at hz; subst hz; exact hx)
theorem valid_ends {s : List ByteArray} {f : List S_impl_PlantFoe} {p : List S_impl_PlantPlace} {v : List S_impl_PlantValve} (h : validB s f p v = true) : ∀ y ∈ v, y.f1 ∈ p.map (·.f0) ∧ y.f2 ∈ p.map (·.f0) := fun y hy => by
  simp only [validB, valvesB, Bool.and_eq_true, List.all_eq_true] at h
  have := h.2.2.2.2.1 y hy
  simp only [valveB, Bool.and_eq_true] at this
  have mem : ∀ x, placeHas p x = true → x ∈ p.map (·.f0) := fun x hx => by
    unfold placeHas at hx
    obtain ⟨y, hy, e⟩ := List.any_eq_true.1 hx
    exact List.mem_map.2 ⟨y, hy, of_decide_eq_true e⟩
  exact ⟨mem _ this.2.2.1, mem _ this.2.2.2.1⟩
theorem group_ok {s : List ByteArray} {f : List S_impl_PlantFoe} {p : List S_impl_PlantPlace} {v : List S_impl_PlantValve} (h : validB s f p v = true) (o : List ByteArray) {x : ByteArray} (hx : placeHas p x = true) : SortedL (groupL o p v x) ∧ (groupL o p v x).length ≤ 14 ∧ ∀ z ∈ groupL o p v x, z ∈ p.map (·.f0) := by
  have hx : x ∈ p.map (·.f0) := by
    unfold placeHas at hx
    obtain ⟨y, hy, e⟩ := List.any_eq_true.1 hx
    exact List.mem_map.2 ⟨y, hy, of_decide_eq_true e⟩
  obtain ⟨h1, h2⟩ := growN_ok o (p.map (·.f0)) v (valid_ends h) p.length [x] (List.pairwise_singleton _ _) (fun z hz => by rw [List.mem_singleton] at hz; subst hz; exact hx)
  have := group_len _ h1 h2
  rw [List.length_map] at this
  have := valid_p h
  exact ⟨h1, by unfold groupL; omega, h2⟩
/-! ### the index of open valves -/
def knownL (v : List S_impl_PlantValve) (o : List ByteArray) : List ByteArray := (v.filter fun y => hasB o y.f0).map (·.f0)
theorem known_cons (y : S_impl_PlantValve) (v : List S_impl_PlantValve) (o : List ByteArray) : knownL (y :: v) o = if hasB o y.f0 = true then y.f0 :: knownL v o else knownL v o := by
  unfold knownL
  rw [List.filter_cons]
  split <;> rfl
theorem known_len (v : List S_impl_PlantValve) (o : List ByteArray) : (knownL v o).length ≤ v.length := by
  unfold knownL; rw [List.length_map]; exact List.length_filter_le _ _
def headOf (o : List ByteArray) (p : List S_impl_PlantPlace) (v : List S_impl_PlantValve) (x : S_impl_PlantPlace) : S_impl_PlantMark := ⟨x.f0, (groupL o p v x.f0).getD 0 ByteArray.empty⟩
def marksL (o : List ByteArray) (p : List S_impl_PlantPlace) (v : List S_impl_PlantValve) : List S_impl_PlantMark := p.map (headOf o p v)
theorem group_known (o : List ByteArray) (v : List S_impl_PlantValve) : ∀ (n : Nat) (a : List ByteArray) , growN (knownL v o) v n a = growN o v n a := by
  have hk : ∀ y ∈ v, hasB (knownL v o) y.f0 = hasB o y.f0 := fun y hy => by
    cases c : hasB o y.f0 with
    | true => rw [hasB_iff]; exact List.mem_map.2 ⟨y, List.mem_filter.2 ⟨hy, c⟩, rfl⟩
    | false =>
      rw [← Bool.not_eq_true, hasB_iff]
      intro q
      obtain ⟨z, hz, e⟩ := List.mem_map.1 q
      have := (List.mem_filter.1 hz).2
      have e : z.f0 = y.f0 := e
      rw [e, c] at this; cases this
  have hs : ∀ (w : List S_impl_PlantValve) (a : List ByteArray × Bool), (∀ y ∈ w, y ∈ v) → sweepL (knownL v o) w a = sweepL o w a := fun w => by
    induction w with
    | nil => intro a _; rfl
    | cons y w ih =>
      intro a hw
      rw [sweep_cons, sweep_cons, show sweepS (knownL v o) a y = sweepS o a y by unfold sweepS; rw [hk y (hw y (List.mem_cons_self ..))]]
      exact ih _ (fun z hz => hw z (List.mem_cons_of_mem _ hz))
  intro n
  induction n with
  | zero => intro a; rfl
  | succ n ih => intro a; rw [show growN (knownL v o) v (n + 1) a = growN (knownL v o) v n (sweepL (knownL v o) v (a, false)).1 from rfl, hs v _ (fun _ h => h), ih]; rfl
theorem marks_known (o : List ByteArray) (p : List S_impl_PlantPlace) (v : List S_impl_PlantValve) : marksL (knownL v o) p v = marksL o p v := by
  unfold marksL
  apply List.map_congr_left
  intro x _
  unfold headOf groupL
  rw [group_known]
theorem marks_cons (o : List ByteArray) (p : List S_impl_PlantPlace) (v : List S_impl_PlantValve) (x : S_impl_PlantPlace) (r : List S_impl_PlantPlace) : (x :: r).map (headOf o p v) = headOf o p v x :: r.map (headOf o p v) := rfl
theorem place_in {p : List S_impl_PlantPlace} {x : S_impl_PlantPlace} (h : x ∈ p) : placeHas p x.f0 = true := by
  unfold placeHas
  exact List.any_eq_true.2 ⟨x, h, decide_eq_true rfl⟩
theorem group_full {s : List ByteArray} {f : List S_impl_PlantFoe} {p : List S_impl_PlantPlace} {v : List S_impl_PlantValve} (h : validB s f p v = true) (o : List ByteArray) {x : ByteArray} (hx : placeHas p x = true) : 0 < (groupL o p v x).length := by
  have hm : ∀ (n : Nat) (a : List ByteArray), x ∈ a → x ∈ growN o v n a := fun n => by
    induction n with
    | zero => intro a h; exact h
    | succ n ih =>
      intro a h
      have sw : ∀ (w : List S_impl_PlantValve) (a : List ByteArray × Bool), x ∈ a.1 → x ∈ (sweepL o w a).1 := fun w => by
        induction w with
        | nil => intro a h; exact h
        | cons y w ihw =>
          intro a h
          refine ihw _ ?_
          unfold sweepS
          split
          · exact (insertL_mem _ _ _).2 (.inr ((insertL_mem _ _ _).2 (.inr h)))
          · exact h
      exact ih _ (sw v (a, false) h)
  exact List.length_pos_of_mem (hm p.length [x] (List.mem_singleton.2 rfl))
section
variable (s : List ByteArray) (f : List S_impl_PlantFoe) (p : List S_impl_PlantPlace) (v : List S_impl_PlantValve) (o : List ByteArray)
theorem l6Known_ev (hv : v.length ≤ 1000000) (ho : o.length ≤ 140737488351232) : Ev (fun k => spec_l6Known.f k s f p v o) (knownL v o) := by
  unfold spec_l6Known.f
  have key := loopL z_impl_PlantValve v (P := fun i r => ∀ acc : List ByteArray, acc.length ≤ i → Ev (fun k => spec_l6Known.l0 k v o acc (i : Int)) (acc ++ knownL r o))
    (fun acc h => by refine Ev.step (fun k => by rw [spec_l6Known.l0]) ?_; exact ev_neg (by omega) (ev_ret (by simp [knownL]))) (fun i y r hi hx _ _ ih acc h => ?_)
  · simpa using key [] (Nat.zero_le _)
  refine Ev.step (fun k => by rw [spec_l6Known.l0]) (ev_pos (by omega) (ev_pos (by omega) ?_))
  rw [wsucc hi (by omega), rdV, hx, known_cons]
  refine Ev.bind (l2Has_ev o y.f0 ho) (ev_b (fun c => ev_pos (by omega) (ev_eq (ih _ (by simp; omega)) ?_)) (fun c => ev_eq (ih _ (by omega)) ?_))
  · rw [if_pos c]; simp
  · rw [if_neg (by rw [c]; simp)]
theorem specIndex_ev (hV : validB s f p v = true) (ho : o.length ≤ 140737488351232) (hv0 : Ev (fun k => spec_PlantValid.f k s f p v) true) : Ev (fun k => spec_PlantIndexOf.f k s f p v o) (knownL v o, marksL o p v) := by
  have hv := valid_v hV
  have hp := valid_p hV
  unfold spec_PlantIndexOf.f
  refine Ev.bind hv0 (ev_pos rfl (Ev.bind (l6Known_ev s f p v o (by omega) ho) ?_))
  generalize knownL v o = K
  have key := loopL z_impl_PlantPlace p (P := fun i r => ∀ acc : List S_impl_PlantMark, acc.length = i → Ev (fun k => spec_PlantIndexOf.l0 k s f p v o (i : Int) K acc) (K, acc ++ r.map (headOf o p v)))
    (fun acc h => by refine Ev.step (fun k => by rw [spec_PlantIndexOf.l0]) ?_; exact ev_neg (by omega) (ev_ret (by simp))) (fun i x r hi hx hm _ ih acc h => ?_)
  · exact ev_eq (key [] rfl) (by simp [marksL])
  refine Ev.step (fun k => by rw [spec_PlantIndexOf.l0]) (ev_pos (by omega) (ev_pos (by omega) ?_))
  rw [wsucc hi (by omega), rdP, hx, marks_cons]
  have hg := group_full hV o (place_in hm)
  refine Ev.bind (specGroup_ev s f p v o x.f0 (by omega) (by omega) ho (List.mem_map.2 ⟨x, hm, rfl⟩) (valid_ends hV)) (ev_pos (by omega) (ev_pos (by omega) ?_))
  rw [show rdOf ByteArray.empty (groupL o p v x.f0) 0 = (groupL o p v x.f0).getD 0 ByteArray.empty from rdOf_nat ByteArray.empty _ 0]
  exact ev_eq (ih _ (by simp [h])) (by simp [headOf])
theorem implIndex_ev (hV : validB s f p v = true) (ho : o.length ≤ 140737488351232) (hv0 : Ev (fun k => impl_PlantValid.f k s f p v) true) : Ev (fun k => impl_PlantIndexOf.f k s f p v o) (knownL v o, marksL o p v) := by
  have hv := valid_v hV
  have hp := valid_p hV
  have hkl := known_len v o
  unfold impl_PlantIndexOf.f
  refine Ev.bind hv0 (ev_pos rfl ?_)
  have L1 : Ev (fun k => impl_PlantIndexOf.l1 k s f p v o 0 (knownL v o) []) (knownL v o, marksL o p v) := by
    rw [← marks_known]
    generalize knownL v o = K at *
    have key := loopL z_impl_PlantPlace p (P := fun i r => ∀ acc : List S_impl_PlantMark, acc.length = i → Ev (fun k => impl_PlantIndexOf.l1 k s f p v o (i : Int) K acc) (K, acc ++ r.map (headOf K p v)))
      (fun acc h => by refine Ev.step (fun k => by rw [impl_PlantIndexOf.l1]) ?_; exact ev_neg (by omega) (ev_ret (by simp))) (fun i x r hi hx hm _ ih acc h => ?_)
    · exact ev_eq (key [] rfl) (by simp [marksL])
    refine Ev.step (fun k => by rw [impl_PlantIndexOf.l1]) (ev_pos (by omega) (ev_pos (by omega) ?_))
    rw [wsucc hi (by omega), rdP, hx, marks_cons]
    have hg := group_full hV K (place_in hm)
    have eG := implGroup_ev s f p v K x.f0 (by omega) (by omega) (by omega) (valid_ends hV)
    rw [if_pos (place_in hm)] at eG
    refine Ev.bind eG (ev_pos (by omega) (ev_pos (by omega) ?_))
    rw [show rdOf ByteArray.empty (groupL K p v x.f0) 0 = (groupL K p v x.f0).getD 0 ByteArray.empty from rdOf_nat ByteArray.empty _ 0]
    exact ev_eq (ih _ (by simp [h])) (by simp [headOf])
  have key := loopL z_impl_PlantValve v (P := fun i r => ∀ acc : List ByteArray, acc.length ≤ i → acc ++ knownL r o = knownL v o → Ev (fun k => impl_PlantIndexOf.l0 k s f p v o (i : Int) acc []) (knownL v o, marksL o p v))
    (fun acc h e => by
      refine Ev.step (fun k => by rw [impl_PlantIndexOf.l0]) ?_
      rw [show acc = knownL v o by rw [← e]; simp [knownL]]
      exact ev_neg (by omega) L1) (fun i y r hi hx _ _ ih acc h e => ?_)
  · exact key [] (Nat.zero_le _) rfl
  refine Ev.step (fun k => by rw [impl_PlantIndexOf.l0]) (ev_pos (by omega) (ev_pos (by omega) ?_))
  rw [wsucc hi (by omega), rdV, hx]
  rw [known_cons] at e
  refine Ev.bind (has_ev o y.f0 ho) (ev_b (fun c => ev_pos (by omega) (ih _ (by simp; omega) ?_)) (fun c => ih _ (by omega) ?_))
  · rw [if_pos c] at e; rw [← e]; simp
  · rw [if_neg (by rw [c]; simp)] at e; exact e
end
theorem name_len {x : ByteArray} (h : nameB x = true) : x.size ≤ 140737488351232 := by
  unfold nameB at h
  rw [Bool.and_eq_true, decide_eq_true_iff] at h
  omega
theorem place_name {s : List ByteArray} {f : List S_impl_PlantFoe} {p : List S_impl_PlantPlace} {v : List S_impl_PlantValve} (h : validB s f p v = true) : ∀ x ∈ p.map (·.f0), nameB x = true := fun x hx => by
  obtain ⟨y, hy, rfl⟩ := List.mem_map.1 hx
  simp only [validB, placesB, Bool.and_eq_true, List.all_eq_true] at h
  have := h.2.2.1.2.1 y hy
  simp only [placeB, Bool.and_eq_true] at this
  exact this.1
theorem marks_ok {s : List ByteArray} {f : List S_impl_PlantFoe} {p : List S_impl_PlantPlace} {v : List S_impl_PlantValve} (h : validB s f p v = true) (o : List ByteArray) : ∀ z ∈ marksL o p v, ok_impl_PlantMark z := fun z hz => by
  obtain ⟨x, hx, rfl⟩ := List.mem_map.1 hz
  have hn := place_name h
  refine ⟨name_len (hn _ (List.mem_map.2 ⟨x, hx, rfl⟩)), ?_⟩
  have hg := group_full h o (place_in hx)
  exact name_len (hn _ ((group_ok h o (place_in hx)).2.2 _ (mem_getD ByteArray.empty _ 0 hg)))
theorem known_ok {s : List ByteArray} {f : List S_impl_PlantFoe} {p : List S_impl_PlantPlace} {v : List S_impl_PlantValve} (h : validB s f p v = true) (o : List ByteArray) : ∀ z ∈ knownL v o, z.size ≤ 140737488351232 := fun z hz => by
  obtain ⟨y, hy, rfl⟩ := List.mem_map.1 hz
  simp only [validB, valvesB, Bool.and_eq_true, List.all_eq_true] at h
  have := h.2.2.2.2.1 y (List.mem_filter.1 hy).1
  simp only [valveB, Bool.and_eq_true] at this
  exact name_len this.1
def indexR (b : Bool) (o : List ByteArray) (p : List S_impl_PlantPlace) (v : List S_impl_PlantValve) : List ByteArray × List S_impl_PlantMark := if b = true then (knownL v o, marksL o p v) else ([], [])
theorem indexR_ok {s : List ByteArray} {f : List S_impl_PlantFoe} {p : List S_impl_PlantPlace} {v : List S_impl_PlantValve} (o : List ByteArray) : (indexR (validB s f p v) o p v).1.length ≤ 18 ∧ (indexR (validB s f p v) o p v).2.length ≤ 14 ∧ (∀ z ∈ (indexR (validB s f p v) o p v).1, z.size ≤ 140737488351232) ∧ ∀ z ∈ (indexR (validB s f p v) o p v).2, ok_impl_PlantMark z := by
  cases h : validB s f p v with
  | false => exact ⟨by simp [indexR], by simp [indexR], fun z hz => (by cases hz), fun z hz => (by cases hz)⟩
  | true =>
    have h1 := known_len v o
    have h2 := valid_v h
    have h3 := valid_p h
    refine ⟨by show (knownL v o).length ≤ 18; omega, by show (p.map (headOf o p v)).length ≤ 14; rw [List.length_map]; omega, known_ok h o, marks_ok h o⟩
theorem specIndexR_ev {s : List ByteArray} {f : List S_impl_PlantFoe} {p : List S_impl_PlantPlace} {v : List S_impl_PlantValve} (o : List ByteArray) (ho : o.length ≤ 140737488351232) (hS : Ev (fun k => spec_PlantValid.f k s f p v) (validB s f p v)) : Ev (fun k => spec_PlantIndexOf.f k s f p v o) (indexR (validB s f p v) o p v) := by
  cases h : validB s f p v with
  | false => rw [h] at hS; unfold spec_PlantIndexOf.f; exact Ev.bind hS (ev_neg (by simp) (ev_ret rfl))
  | true => rw [h] at hS; exact specIndex_ev s f p v o h ho hS
theorem implIndexR_ev {s : List ByteArray} {f : List S_impl_PlantFoe} {p : List S_impl_PlantPlace} {v : List S_impl_PlantValve} (o : List ByteArray) (ho : o.length ≤ 140737488351232) (hS : Ev (fun k => impl_PlantValid.f k s f p v) (validB s f p v)) : Ev (fun k => impl_PlantIndexOf.f k s f p v o) (indexR (validB s f p v) o p v) := by
  cases h : validB s f p v with
  | false => rw [h] at hS; unfold impl_PlantIndexOf.f; exact Ev.bind hS (ev_neg (by simp) (ev_ret rfl))
  | true => rw [h] at hS; exact implIndex_ev s f p v o h ho hS
/-! ### a valve is turned -/
def withoutL (l : List ByteArray) (a : ByteArray) : List ByteArray := l.filter fun x => !decide (x = a)
theorem without_cons (x : ByteArray) (l : List ByteArray) (a : ByteArray) : withoutL (x :: l) a = if x = a then withoutL l a else x :: withoutL l a := by
  unfold withoutL
  rw [List.filter_cons]
  by_cases c : x = a
  · rw [if_pos c, decide_eq_true c]; rfl
  · rw [if_neg c, decide_eq_false c]; rfl
theorem without_len (l : List ByteArray) (a : ByteArray) : (withoutL l a).length ≤ l.length := List.length_filter_le _ _
theorem without_ev (l : List ByteArray) (a : ByteArray) (hl : l.length ≤ 8796093021952) : Ev (fun k => impl_without.f k l a) (withoutL l a) := by
  unfold impl_without.f
  have key := loopL ByteArray.empty l (P := fun i r => ∀ acc : List ByteArray, acc.length ≤ i → Ev (fun k => impl_without.l0 k l a acc (i : Int)) (acc ++ withoutL r a))
    (fun acc h => by refine Ev.step (fun k => by rw [impl_without.l0]) ?_; exact ev_neg (by omega) (ev_ret (by simp [withoutL]))) (fun i x r hi hx _ _ ih acc h => ?_)
  · simpa using key [] (Nat.zero_le _)
  refine Ev.step (fun k => by rw [impl_without.l0]) (ev_pos (by omega) (ev_pos (by omega) ?_))
  rw [wsucc hi (by omega), rdOf_nat, hx, without_cons]
  refine ev_split (fun c => ev_eq (ih _ (by omega)) ?_) (fun c => ev_pos (by omega) (ev_eq (ih _ (by simp; omega)) ?_))
  · rw [if_pos (ba_iff.1 c)]
  · rw [if_neg (fun e => c (ba_iff.2 e))]; simp
/-! ### joined -/
theorem rdM (l : List S_impl_PlantMark) (i : Nat) : rd_impl_PlantMark l (i : Int) = l.getD i z_impl_PlantMark := by unfold rd_impl_PlantMark; rw [Int.toNat_natCast]
def headB (a : ByteArray) : List S_impl_PlantMark → ByteArray × Bool
  | [] => ((⟨#[]⟩ : ByteArray), false)
  | x :: r => if x.f0 = a then (x.f1, true) else headB a r
theorem implHead_ev (o : List ByteArray) (l : List S_impl_PlantMark) (a : ByteArray) (hl : l.length ≤ 140737488351232) : Ev (fun k => impl_PlantJoined_1.f k a o l) ((headB a l).1, (headB a l).2, o, l) := by
  unfold impl_PlantJoined_1.f
  refine loopL z_impl_PlantMark l (P := fun i r => Ev (fun k => impl_PlantJoined_1.l0 k a o l (i : Int)) ((headB a r).1, (headB a r).2, o, l))
    (by refine Ev.step (fun k => by rw [impl_PlantJoined_1.l0]) ?_; exact ev_neg (by omega) (ev_ret rfl)) (fun i x r hi hx hm _ ih => ?_)
  refine Ev.step (fun k => by rw [impl_PlantJoined_1.l0]) (ev_pos (by omega) (ev_pos (by omega) ?_))
  rw [rdM, hx, wsucc hi (by omega), headB]
  refine ev_split (fun c => ev_ret (by rw [if_pos (ba_iff.1 c)])) (fun c => ?_)
  rw [if_neg (fun e => c (ba_iff.2 e))]; exact ih
/-! ### groups are the parts of a plant -/
def closedP (o : List ByteArray) (v : List S_impl_PlantValve) (S : ByteArray → Prop) : Prop := ∀ y ∈ v, hasB o y.f0 = true → (S y.f1 ↔ S y.f2)
theorem sweep_fix_closed (o : List ByteArray) : ∀ (v : List S_impl_PlantValve) (l : List ByteArray), sweepL o v (l, false) = (l, false) → closedP o v (· ∈ l)
  | [], _, _ => fun y hy => (by cases hy)
  | y :: v, l, h => by
    rw [sweep_cons] at h
    by_cases c : (hasB o y.f0 && (hasB l y.f1 != hasB l y.f2)) = true
    · rw [show sweepS o (l, false) y = (insertL y.f2 (insertL y.f1 l), true) from if_pos c] at h
      have := (sweep_flag o v (insertL y.f2 (insertL y.f1 l)) true).2
      rw [h] at this; simp at this
    · rw [show sweepS o (l, false) y = (l, false) from if_neg c] at h
      intro z hz ho
      rcases List.mem_cons.1 hz with rfl | hz
      · show z.f1 ∈ l ↔ z.f2 ∈ l
        rw [ho, Bool.true_and] at c
        rw [← hasB_iff, ← hasB_iff]
        cases h1 : hasB l z.f1 <;> cases h2 : hasB l z.f2 <;> simp [h1, h2] at c ⊢
      · exact sweep_fix_closed o v l h z hz ho
theorem sweep_in (o : List ByteArray) (S : ByteArray → Prop) : ∀ (v : List S_impl_PlantValve) (a : List ByteArray × Bool), closedP o v S → (∀ x ∈ a.1, S x) → ∀ x ∈ (sweepL o v a).1, S x
  | [], a, _, h => h
  | y :: v, a, hc, h => by
    rw [sweep_cons]
    refine sweep_in o S v _ (fun z hz => hc z (List.mem_cons_of_mem _ hz)) ?_
    unfold sweepS
    split
    · rename_i c
      rw [Bool.and_eq_true] at c
      have hy := hc y (List.mem_cons_self ..) c.1
      have both : S y.f1 ∧ S y.f2 := by
        cases h1 : hasB a.1 y.f1 with
        | true => have := h _ (hasB_iff.1 h1); exact ⟨this, hy.1 this⟩
        | false => cases h2 : hasB a.1 y.f2 with
          | true => have := h _ (hasB_iff.1 h2); exact ⟨hy.2 this, this⟩
          | false => rw [h1, h2] at c; exact absurd c.2 (by decide)
      intro x hx
      rcases (insertL_mem _ _ _).1 hx with rfl | hx
      · exact both.2
      · rcases (insertL_mem _ _ _).1 hx with rfl | hx
        · exact both.1
        · exact h x hx
    · exact h
theorem grow_in (o : List ByteArray) (v : List S_impl_PlantValve) (S : ByteArray → Prop) (hc : closedP o v S) : ∀ (n : Nat) (l : List ByteArray), (∀ x ∈ l, S x) → ∀ x ∈ growN o v n l, S x
  | 0, _, h => h
  | n + 1, l, h => grow_in o v S hc n _ (sweep_in o S v (l, false) hc h)
theorem sweep_keeps (o : List ByteArray) : ∀ (v : List S_impl_PlantValve) (a : List ByteArray × Bool) (x : ByteArray), x ∈ a.1 → x ∈ (sweepL o v a).1
  | [], _, _, h => h
  | y :: v, a, x, h => by
    rw [sweep_cons]
    refine sweep_keeps o v _ x ?_
    unfold sweepS
    split
    · exact (insertL_mem _ _ _).2 (.inr ((insertL_mem _ _ _).2 (.inr h)))
    · exact h
theorem grow_keeps (o : List ByteArray) (v : List S_impl_PlantValve) : ∀ (n : Nat) (l : List ByteArray) (x : ByteArray), x ∈ l → x ∈ growN o v n l
  | 0, _, _, h => h
  | n + 1, l, x, h => grow_keeps o v n _ x (sweep_keeps o v (l, false) x h)
theorem grow_closed (o P : List ByteArray) (v : List S_impl_PlantValve) (hv : ∀ y ∈ v, y.f1 ∈ P ∧ y.f2 ∈ P) : ∀ (n : Nat) (l : List ByteArray), SortedL l → (∀ x ∈ l, x ∈ P) → P.length < n + l.length → closedP o v (· ∈ growN o v n l)
  | 0, l, h1, h2, hn => by have := group_len P h1 h2; omega
  | n + 1, l, h1, h2, hn => by
    obtain ⟨q1, q2⟩ := sweep_ok o P v (l, false) h1 h2 hv
    rcases sweep_grows o v (l, false) with e | ⟨_, e2⟩
    · rw [growN_fix o v l e]; exact sweep_fix_closed o v l e
    · have e2 : l.length < (sweepL o v (l, false)).1.length := e2
      exact grow_closed o P v hv n _ q1 q2 (by omega)
section
variable {s : List ByteArray} {f : List S_impl_PlantFoe} {p : List S_impl_PlantPlace} {v : List S_impl_PlantValve} (hV : validB s f p v = true) (o : List ByteArray)
theorem mem_has {x : ByteArray} (h : x ∈ p.map (·.f0)) : placeHas p x = true := by
  obtain ⟨y, hy, e⟩ := List.mem_map.1 h
  unfold placeHas
  exact List.any_eq_true.2 ⟨y, hy, decide_eq_true e⟩
theorem grp_self (a : ByteArray) : a ∈ groupL o p v a := grow_keeps o v p.length [a] a (List.mem_singleton.2 rfl)
include hV
theorem grp_ok {a : ByteArray} (ha : a ∈ p.map (·.f0)) : SortedL (groupL o p v a) ∧ ∀ z ∈ groupL o p v a, z ∈ p.map (·.f0) := by
  obtain ⟨h1, _, h3⟩ := group_ok hV o (mem_has ha)
  exact ⟨h1, h3⟩
theorem grp_closed {a : ByteArray} (ha : a ∈ p.map (·.f0)) : closedP o v (· ∈ groupL o p v a) :=
  grow_closed o (p.map (·.f0)) v (valid_ends hV) p.length [a] (List.pairwise_singleton _ _) (fun x hx => by rw [List.mem_singleton] at hx; subst hx; exact ha) (by rw [List.length_map, List.length_singleton]; omega)
omit hV in
theorem grp_least {a : ByteArray} {S : ByteArray → Prop} (hc : closedP o v S) (h : S a) : ∀ z ∈ groupL o p v a, S z := grow_in o v S hc p.length [a] (fun x hx => by rw [List.mem_singleton] at hx; subst hx; exact h)
theorem grp_sym {a b : ByteArray} (ha : a ∈ p.map (·.f0)) (hb : b ∈ groupL o p v a) : a ∈ groupL o p v b := by
  have hbP := (grp_ok hV o ha).2 b hb
  refine Classical.byContradiction fun hn => ?_
  have ca := grp_closed hV o ha
  have cb := grp_closed hV o hbP
  have hc : closedP o v (fun z => z ∈ groupL o p v a ∧ z ∉ groupL o p v b) := fun y hy hyo => by
    have h1 := ca y hy hyo
    have h2 := cb y hy hyo
    exact ⟨fun ⟨q1, q2⟩ => ⟨h1.1 q1, fun q => q2 (h2.2 q)⟩, fun ⟨q1, q2⟩ => ⟨h1.2 q1, fun q => q2 (h2.1 q)⟩⟩
  exact (grp_least o hc ⟨grp_self o a, hn⟩ b hb).2 (grp_self o b)
theorem grp_eq {a b : ByteArray} (ha : a ∈ p.map (·.f0)) (hb : b ∈ groupL o p v a) : groupL o p v b = groupL o p v a := by
  obtain ⟨sa, pa⟩ := grp_ok hV o ha
  have hbP := pa b hb
  obtain ⟨sb, pb⟩ := grp_ok hV o hbP
  refine sorted_ext _ _ sb sa (fun z => ⟨fun hz => ?_, fun hz => ?_⟩)
  · exact grp_least o (grp_closed hV o ha) hb z hz
  · exact grp_least o (grp_closed hV o hbP) (grp_sym hV o ha hb) z hz
/-- the least of a group -/
theorem grp_head {a : ByteArray} (ha : a ∈ p.map (·.f0)) : (groupL o p v a).getD 0 ByteArray.empty ∈ groupL o p v a := mem_getD _ _ 0 (group_full hV o (mem_has ha))
theorem head_iff {a b : ByteArray} (ha : a ∈ p.map (·.f0)) (hb : b ∈ p.map (·.f0)) : (groupL o p v a).getD 0 ByteArray.empty = (groupL o p v b).getD 0 ByteArray.empty ↔ b ∈ groupL o p v a := by
  constructor
  · intro e
    have h1 := grp_head hV o ha
    have h2 := grp_head hV o hb
    have e1 := grp_eq hV o ha h1
    have e2 := grp_eq hV o hb h2
    rw [e] at e1
    rw [← e1, e2]
    exact grp_self o b
  · intro h
    rw [grp_eq hV o ha h]
/-! ### all groups -/
theorem names_nodup : (p.map (·.f0)).Nodup := by
  have h := hV
  simp only [validB, placesB, Bool.and_eq_true] at h
  have hc := chain_pair (p := placeLt) (fun x y z h k => lt_trans h k) p h.2.2.1.2.2
  refine List.Pairwise.map (·.f0) (fun x y h => ?_) hc
  exact lt_ne h
def setsL (o : List ByteArray) (p : List S_impl_PlantPlace) (v : List S_impl_PlantValve) : List S_impl_PlantPlace → List S_impl_PlantSet
  | [] => []
  | x :: r => if (groupL o p v x.f0).getD 0 ByteArray.empty = x.f0 then ⟨groupL o p v x.f0⟩ :: setsL o p v r else setsL o p v r
omit hV in
theorem sets_mem (r : List S_impl_PlantPlace) : ∀ t ∈ setsL o p v r, ∃ x ∈ r, (groupL o p v x.f0).getD 0 ByteArray.empty = x.f0 ∧ t = ⟨groupL o p v x.f0⟩ := by
  induction r with
  | nil => intro t h; cases h
  | cons x r ih =>
    intro t ht
    unfold setsL at ht
    split at ht
    · rename_i c
      rcases List.mem_cons.1 ht with rfl | ht
      · exact ⟨x, List.mem_cons_self .., c, rfl⟩
      · obtain ⟨y, h1, h2⟩ := ih t ht; exact ⟨y, List.mem_cons_of_mem _ h1, h2⟩
    · obtain ⟨y, h1, h2⟩ := ih t ht; exact ⟨y, List.mem_cons_of_mem _ h1, h2⟩
omit hV in
theorem sets_of {r : List S_impl_PlantPlace} {x : S_impl_PlantPlace} (hx : x ∈ r) (c : (groupL o p v x.f0).getD 0 ByteArray.empty = x.f0) : (⟨groupL o p v x.f0⟩ : S_impl_PlantSet) ∈ setsL o p v r := by
  induction r with
  | nil => cases hx
  | cons y r ih =>
    unfold setsL
    rcases List.mem_cons.1 hx with rfl | hx
    · rw [if_pos c]; exact List.mem_cons_self ..
    · split
      · exact List.mem_cons_of_mem _ (ih hx)
      · exact ih hx
omit hV in
theorem sets_len (r : List S_impl_PlantPlace) : (setsL o p v r).length ≤ r.length := by
  induction r with
  | nil => exact Nat.le_refl _
  | cons x r ih => unfold setsL; split <;> simp <;> omega
def flatS (l : List S_impl_PlantSet) : List ByteArray := (l.map (·.f0)).flatten
theorem flat_nodup : ∀ r : List S_impl_PlantPlace, (∀ x ∈ r, x ∈ p) → (r.map (·.f0)).Nodup → (flatS (setsL o p v r)).Nodup
  | [], _, _ => List.nodup_nil
  | x :: r, hp, hn => by
    rw [List.map_cons, List.nodup_cons] at hn
    have ih := flat_nodup r (fun y hy => hp y (List.mem_cons_of_mem _ hy)) hn.2
    have hxP : x.f0 ∈ p.map (·.f0) := List.mem_map.2 ⟨x, hp x (List.mem_cons_self ..), rfl⟩
    unfold setsL
    split
    · rename_i c
      unfold flatS at ih ⊢
      rw [List.map_cons, List.flatten_cons]
      refine List.nodup_append.2 ⟨sorted_nodup (grp_ok hV o hxP).1, ih, fun z hz w hw e => ?_⟩
      subst e
      obtain ⟨l, hl, hzl⟩ := List.mem_flatten.1 hw
      obtain ⟨t, ht, rfl⟩ := List.mem_map.1 hl
      obtain ⟨y, hy, cy, rfl⟩ := sets_mem o r t ht
      have hyP : y.f0 ∈ p.map (·.f0) := List.mem_map.2 ⟨y, hp y (List.mem_cons_of_mem _ hy), rfl⟩
      have e1 := grp_eq hV o hxP hz
      have e2 := grp_eq hV o hyP hzl
      have : x.f0 = y.f0 := by rw [← c, ← cy, ← e1, e2]
      exact hn.1 (this ▸ List.mem_map.2 ⟨y, hy, rfl⟩)
    · exact ih
theorem flat_len : (flatS (setsL o p v p)).length = p.length := by
  have nd := names_nodup hV
  have h1 := flat_nodup hV o p (fun x hx => hx) nd
  have a1 := nodup_len (flatS (setsL o p v p)) (p.map (·.f0)) h1 (fun z hz => by
    obtain ⟨l, hl, hzl⟩ := List.mem_flatten.1 hz
    obtain ⟨t, ht, rfl⟩ := List.mem_map.1 hl
    obtain ⟨y, hy, _, rfl⟩ := sets_mem o p t ht
    exact (grp_ok hV o (List.mem_map.2 ⟨y, hy, rfl⟩)).2 z hzl)
  have a2 := nodup_len (p.map (·.f0)) (flatS (setsL o p v p)) nd (fun z hz => by
    have hh := grp_head hV o hz
    have hP := (grp_ok hV o hz).2 _ hh
    obtain ⟨x, hx, ex⟩ := List.mem_map.1 hP
    have e := grp_eq hV o hz hh
    have ex : x.f0 = (groupL o p v z).getD 0 ByteArray.empty := ex
    rw [← ex] at e
    refine List.mem_flatten.2 ⟨_, List.mem_map.2 ⟨_, sets_of o hx (by rw [e, ex]), rfl⟩, ?_⟩
    show z ∈ groupL o p v x.f0
    rw [e]; exact grp_self o z)
  rw [List.length_map] at a1 a2
  omega
end
/-! ### joined by open valves, by the definition -/
def stepW (o seen next : List ByteArray) (y : S_impl_PlantValve) : List ByteArray :=
  if hasB o y.f0 = true then
    (if (hasB seen y.f2 && !hasB (if (hasB seen y.f1 && !hasB next y.f2) = true then next ++ [y.f2] else next) y.f1) = true then (if (hasB seen y.f1 && !hasB next y.f2) = true then next ++ [y.f2] else next) ++ [y.f1] else (if (hasB seen y.f1 && !hasB next y.f2) = true then next ++ [y.f2] else next))
  else next
def nextW (o : List ByteArray) (v : List S_impl_PlantValve) (seen next : List ByteArray) : List ByteArray := v.foldl (stepW o seen) next
def seenN (o : List ByteArray) (v : List S_impl_PlantValve) : Nat → List ByteArray → List ByteArray
  | 0, l => l
  | n + 1, l => seenN o v n (nextW o v l l)
theorem nd_app {l : List ByteArray} {x : ByteArray} (h : l.Nodup) (hx : hasB l x = false) : (l ++ [x]).Nodup := by
  have hni : x ∉ l := fun q => by rw [hasB_iff.2 q] at hx; cases hx
  exact List.nodup_append.2 ⟨h, by simp, fun u hu w hw e => by rw [List.mem_singleton] at hw; subst hw; exact hni (e ▸ hu)⟩
/-- a step: more is there, nothing twice, in what is closed -/
theorem stepW_ok (o seen next : List ByteArray) (y : S_impl_PlantValve) (hn : next.Nodup) : (stepW o seen next y).Nodup ∧ (∀ x ∈ next, x ∈ stepW o seen next y) ∧ next.length ≤ (stepW o seen next y).length ∧
    (∀ S : ByteArray → Prop, (hasB o y.f0 = true → (S y.f1 ↔ S y.f2)) → (∀ x ∈ seen, S x) → (∀ x ∈ next, S x) → ∀ x ∈ stepW o seen next y, S x) ∧
    (hasB o y.f0 = true → (y.f1 ∈ seen → y.f2 ∈ stepW o seen next y) ∧ (y.f2 ∈ seen → y.f1 ∈ stepW o seen next y)) := by
  unfold stepW
  by_cases ho : hasB o y.f0 = true
  · rw [if_pos ho]
    have k1 : ∃ n1 : List ByteArray, (if (hasB seen y.f1 && !hasB next y.f2) = true then next ++ [y.f2] else next) = n1 ∧ n1.Nodup ∧ (∀ x ∈ next, x ∈ n1) ∧ next.length ≤ n1.length ∧ (∀ x ∈ n1, x ∈ next ∨ (x = y.f2 ∧ y.f1 ∈ seen)) ∧ (y.f1 ∈ seen → y.f2 ∈ n1) := by
      split
      · rename_i c
        simp only [Bool.and_eq_true, Bool.not_eq_true'] at c
        refine ⟨_, rfl, nd_app hn c.2, fun x hx => List.mem_append_left _ hx, by simp, fun x hx => ?_, fun _ => List.mem_append_right _ (List.mem_singleton.2 rfl)⟩
        rcases List.mem_append.1 hx with hx | hx
        · exact .inl hx
        · rw [List.mem_singleton] at hx; exact .inr ⟨hx, hasB_iff.1 c.1⟩
      · rename_i c
        refine ⟨_, rfl, hn, fun x hx => hx, Nat.le_refl _, fun x hx => .inl hx, fun h1 => ?_⟩
        rw [hasB_iff.2 h1, Bool.true_and] at c
        cases h2 : hasB next y.f2 with
        | true => exact hasB_iff.1 h2
        | false => rw [h2] at c; exact absurd rfl c
    obtain ⟨n1, e1, a1, a2, a3, a4, a5⟩ := k1
    rw [e1]
    split
    · rename_i c
      simp only [Bool.and_eq_true, Bool.not_eq_true'] at c
      refine ⟨nd_app a1 c.2, fun x hx => List.mem_append_left _ (a2 x hx), by rw [List.length_append, List.length_singleton]; omega, fun S hS h1 h2 x hx => ?_, fun _ => ⟨fun h => List.mem_append_left _ (a5 h), fun _ => List.mem_append_right _ (List.mem_singleton.2 rfl)⟩⟩
      rcases List.mem_append.1 hx with hx | hx
      · rcases a4 x hx with hx | ⟨rfl, h3⟩
        · exact h2 x hx
        · exact (hS ho).1 (h1 _ h3)
      · rw [List.mem_singleton] at hx; subst hx; exact (hS ho).2 (h1 _ (hasB_iff.1 c.1))
    · rename_i c
      refine ⟨a1, a2, a3, fun S hS h1 h2 x hx => ?_, fun _ => ⟨a5, fun h => ?_⟩⟩
      · rcases a4 x hx with hx | ⟨rfl, h3⟩
        · exact h2 x hx
        · exact (hS ho).1 (h1 _ h3)
      · rw [hasB_iff.2 h, Bool.true_and] at c
        cases h2 : hasB n1 y.f1 with
        | true => exact hasB_iff.1 h2
        | false => rw [h2] at c; exact absurd rfl c
  · rw [if_neg ho]
    exact ⟨hn, fun x hx => hx, Nat.le_refl _, fun S _ _ h x hx => h x hx, fun h => absurd h ho⟩
theorem nextW_ok (o seen : List ByteArray) : ∀ (v : List S_impl_PlantValve) (next : List ByteArray), next.Nodup → (nextW o v seen next).Nodup ∧ (∀ x ∈ next, x ∈ nextW o v seen next) ∧ next.length ≤ (nextW o v seen next).length ∧
    (∀ S : ByteArray → Prop, closedP o v S → (∀ x ∈ seen, S x) → (∀ x ∈ next, S x) → ∀ x ∈ nextW o v seen next, S x) ∧
    (∀ y ∈ v, hasB o y.f0 = true → (y.f1 ∈ seen → y.f2 ∈ nextW o v seen next) ∧ (y.f2 ∈ seen → y.f1 ∈ nextW o v seen next))
  | [], next, hn => ⟨hn, fun x hx => hx, Nat.le_refl _, fun S _ _ h => h, fun y hy => (by cases hy)⟩
  | y :: v, next, hn => by
    obtain ⟨a1, a2, a3, a4, a5⟩ := stepW_ok o seen next y hn
    obtain ⟨b1, b2, b3, b4, b5⟩ := nextW_ok o seen v (stepW o seen next y) a1
    rw [show nextW o (y :: v) seen next = nextW o v seen (stepW o seen next y) from rfl]
    refine ⟨b1, fun x hx => b2 x (a2 x hx), by omega, fun S hc h1 h2 => b4 S (fun z hz => hc z (List.mem_cons_of_mem _ hz)) h1 (a4 S (hc y (List.mem_cons_self ..)) h1 h2), fun z hz ho => ?_⟩
    rcases List.mem_cons.1 hz with rfl | hz
    · exact ⟨fun h => b2 _ ((a5 ho).1 h), fun h => b2 _ ((a5 ho).2 h)⟩
    · exact b5 z hz ho
theorem seenN_in (o : List ByteArray) (v : List S_impl_PlantValve) (S : ByteArray → Prop) (hc : closedP o v S) : ∀ (n : Nat) (l : List ByteArray), l.Nodup → (∀ x ∈ l, S x) → ∀ x ∈ seenN o v n l, S x
  | 0, _, _, h => h
  | n + 1, l, hn, h => by
    obtain ⟨b1, b2, b3, b4, b5⟩ := nextW_ok o l v l hn
    exact seenN_in o v S hc n _ b1 (b4 S hc h h)
theorem seenN_keeps (o : List ByteArray) (v : List S_impl_PlantValve) : ∀ (n : Nat) (l : List ByteArray), l.Nodup → ∀ x ∈ l, x ∈ seenN o v n l
  | 0, _, _, x, h => h
  | n + 1, l, hn, x, h => by
    obtain ⟨b1, b2, _⟩ := nextW_ok o l v l hn
    exact seenN_keeps o v n _ b1 x (b2 x h)
theorem seenN_nd (o : List ByteArray) (v : List S_impl_PlantValve) : ∀ (n : Nat) (l : List ByteArray), l.Nodup → (seenN o v n l).Nodup
  | 0, _, h => h
  | n + 1, l, hn => seenN_nd o v n _ (nextW_ok o l v l hn).1
theorem next_same {o : List ByteArray} {v : List S_impl_PlantValve} {l : List ByteArray} (hn : l.Nodup) (h : ∀ x ∈ nextW o v l l, x ∈ l) : closedP o v (· ∈ l) := fun y hy ho => by
  obtain ⟨_, _, _, _, b5⟩ := nextW_ok o l v l hn
  exact ⟨fun q => h _ ((b5 y hy ho).1 q), fun q => h _ ((b5 y hy ho).2 q)⟩
theorem seenN_closed (o P : List ByteArray) (v : List S_impl_PlantValve) (hv : ∀ y ∈ v, y.f1 ∈ P ∧ y.f2 ∈ P) : ∀ (n : Nat) (l : List ByteArray), l.Nodup → (∀ x ∈ l, x ∈ P) → P.length < n + l.length → closedP o v (· ∈ seenN o v n l)
  | 0, l, h1, h2, hn => by have := nodup_len l P h1 h2; omega
  | n + 1, l, h1, h2, hn => by
    obtain ⟨b1, b2, b3, b4, b5⟩ := nextW_ok o l v l h1
    have hP : ∀ x ∈ nextW o v l l, x ∈ P := b4 (· ∈ P) (fun y hy _ => ⟨fun _ => (hv y hy).2, fun _ => (hv y hy).1⟩) h2 h2
    by_cases c : (nextW o v l l).length = l.length
    · have sub : ∀ x ∈ nextW o v l l, x ∈ l := fun x hx => Classical.byContradiction fun q => by
        have := nodup_len (x :: l) (nextW o v l l) (List.nodup_cons.2 ⟨q, h1⟩) (fun z hz => by
          rcases List.mem_cons.1 hz with rfl | hz
          · exact hx
          · exact b2 z hz)
        rw [List.length_cons] at this; omega
      have cl := next_same h1 sub
      -- nothing more comes
      have all : ∀ (m : Nat) (k : List ByteArray), k.Nodup → (∀ z, z ∈ k ↔ z ∈ l) → ∀ z, z ∈ seenN o v m k ↔ z ∈ l := fun m => by
        induction m with
        | zero => intro k _ hk z; exact hk z
        | succ m ih =>
          intro k hk hkl z
          obtain ⟨c1, c2, c3, c4, _⟩ := nextW_ok o k v k hk
          have hs : ∀ x ∈ nextW o v k k, x ∈ l := c4 (· ∈ l) cl (fun x hx => (hkl x).1 hx) (fun x hx => (hkl x).1 hx)
          exact ih _ c1 (fun w => ⟨fun hw => hs w hw, fun hw => c2 w ((hkl w).2 hw)⟩) z
      have e := all (n + 1) l h1 (fun z => Iff.rfl)
      intro y hy ho
      show y.f1 ∈ seenN o v (n + 1) l ↔ y.f2 ∈ seenN o v (n + 1) l
      rw [e, e]; exact cl y hy ho
    · exact seenN_closed o P v hv n _ b1 hP (by omega)
theorem reach_grp {s : List ByteArray} {f : List S_impl_PlantFoe} {p : List S_impl_PlantPlace} {v : List S_impl_PlantValve} (hV : validB s f p v = true) (o : List ByteArray) {a b : ByteArray} (ha : a ∈ p.map (·.f0)) : (b ∈ seenN o v p.length [a]) ↔ b ∈ groupL o p v a := by
  have nd : [a].Nodup := by simp
  constructor
  · exact fun h => seenN_in o v (· ∈ groupL o p v a) (grp_closed hV o ha) p.length [a] nd (fun x hx => by rw [List.mem_singleton] at hx; subst hx; exact grp_self o _) b h
  · exact fun h => grp_least o (seenN_closed o (p.map (·.f0)) v (valid_ends hV) p.length [a] nd (fun x hx => by rw [List.mem_singleton] at hx; subst hx; exact ha) (by rw [List.length_map, List.length_singleton]; omega)) (seenN_keeps o v p.length [a] nd a (List.mem_singleton.2 rfl)) b h
/-! ### the law's helpers -/
theorem wpTexts_ev (l : List ByteArray) (hl : l.length ≤ 140737488351232) : Ev (fun k => laws_wpTexts.f k l l) true := by
  unfold laws_wpTexts.f
  refine ev_pos rfl (loopL ByteArray.empty l (P := fun i r => Ev (fun k => laws_wpTexts.l0 k l l (i : Int)) true)
    (by refine Ev.step (fun k => by rw [laws_wpTexts.l0]) ?_; exact ev_neg (by omega) (ev_ret rfl)) (fun i y r hi hx hm _ ih => ?_))
  refine Ev.step (fun k => by rw [laws_wpTexts.l0]) (ev_pos (by omega) (ev_pos (by omega) (ev_pos (by omega) (ev_pos rfl ?_))))
  rw [wsucc hi (by omega)]; exact ih
theorem wpIndex_ev (o : List ByteArray) (m : List S_impl_PlantMark) (ho : o.length ≤ 140737488351232) (hm : m.length ≤ 140737488351232) : Ev (fun k => laws_wpIndex.f k o m o m) true := by
  unfold laws_wpIndex.f
  refine Ev.bind (wpTexts_ev o ho) (ev_pos rfl (ev_pos rfl ?_))
  refine loopL z_impl_PlantMark m (P := fun i r => Ev (fun k => laws_wpIndex.l0 k m m (i : Int)) true)
    (by refine Ev.step (fun k => by rw [laws_wpIndex.l0]) ?_; exact ev_neg (by omega) (ev_ret rfl)) (fun i y r hi hx hm _ ih => ?_)
  refine Ev.step (fun k => by rw [laws_wpIndex.l0]) (ev_pos (by omega) (ev_pos (by omega) (ev_pos (by omega) (ev_pos (by simp) ?_))))
  rw [wsucc hi (by omega)]; exact ih
theorem wpHas_ev (l : List ByteArray) (a : ByteArray) (hl : l.length ≤ 140737488351232) : Ev (fun k => laws_wpHas.f k l a) (hasB l a) := by
  unfold laws_wpHas.f hasB
  refine loopL ByteArray.empty l (P := fun i r => Ev (fun k => laws_wpHas.l0 k l a (i : Int)) (r.any fun x => decide (x = a)))
    (by refine Ev.step (fun k => by rw [laws_wpHas.l0]) ?_; exact ev_neg (by omega) (ev_ret rfl)) (fun i y r hi hx hm _ ih => ?_)
  refine Ev.step (fun k => by rw [laws_wpHas.l0]) (ev_pos (by omega) (ev_pos (by omega) ?_))
  rw [wsucc hi (by omega), rdOf_nat, hx, List.any_cons]
  exact ev_split (fun c => ev_ret (by rw [decide_eq_true (ba_iff.1 c)]; rfl)) (fun c => ev_eq ih (by rw [decide_eq_false (fun e => c (ba_iff.2 e))]; rfl))
def valveHas (v : List S_impl_PlantValve) (a : ByteArray) : Bool := v.any fun y => decide (y.f0 = a)
theorem wpValve_ev (s : List ByteArray) (f : List S_impl_PlantFoe) (p : List S_impl_PlantPlace) (v : List S_impl_PlantValve) (a : ByteArray) (hl : v.length ≤ 140737488351232) : Ev (fun k => laws_wpValve.f k s f p v a) (valveHas v a) := by
  unfold laws_wpValve.f valveHas
  refine loopL z_impl_PlantValve v (P := fun i r => Ev (fun k => laws_wpValve.l0 k v a (i : Int)) (r.any fun y => decide (y.f0 = a)))
    (by refine Ev.step (fun k => by rw [laws_wpValve.l0]) ?_; exact ev_neg (by omega) (ev_ret rfl)) (fun i y r hi hx hm _ ih => ?_)
  refine Ev.step (fun k => by rw [laws_wpValve.l0]) (ev_pos (by omega) (ev_pos (by omega) ?_))
  rw [wsucc hi (by omega), rdV, hx, List.any_cons]
  exact ev_split (fun c => ev_ret (by rw [decide_eq_true (ba_iff.1 c)]; rfl)) (fun c => ev_eq ih (by rw [decide_eq_false (fun e => c (ba_iff.2 e))]; rfl))
section
variable {s : List ByteArray} {f : List S_impl_PlantFoe} {p : List S_impl_PlantPlace} {v : List S_impl_PlantValve} (hV : validB s f p v = true) (o : List ByteArray) (ho : o.length ≤ 1000)
include hV ho
theorem reach_ev {a b : ByteArray} (ha : a ∈ p.map (·.f0)) : Ev (fun k => laws_wpReach.f k s f p v o a b (p.length : Int)) (hasB (groupL o p v a) b) := by
  have hp := valid_p hV
  have hv := valid_v hV
  unfold laws_wpReach.f
  refine ev_split (fun c => ev_ret ?_) (fun _ => ?_)
  · have := ba_iff.1 c
    subst this
    exact (hasB_iff.2 (grp_self o a)).symm
  have hR : hasB (groupL o p v a) b = hasB (seenN o v p.length [a]) b := by
    rw [Bool.eq_iff_iff, hasB_iff, hasB_iff, reach_grp hV o ha]
  rw [hR]
  have len : ∀ l : List ByteArray, l.Nodup → (∀ x ∈ l, x ∈ p.map (·.f0)) → l.length ≤ 14 := fun l h1 h2 => by
    have := nodup_len l (p.map (fun z : S_impl_PlantPlace => z.f0)) h1 (fun x hx => h2 x hx)
    rw [List.length_map] at this; omega
  have hPc : ∀ y ∈ v, hasB o y.f0 = true → (y.f1 ∈ p.map (·.f0) ↔ y.f2 ∈ p.map (·.f0)) := fun y hy _ => ⟨fun _ => (valid_ends hV y hy).2, fun _ => (valid_ends hV y hy).1⟩
  have inner : ∀ (R : Bool) (n : Nat) (seen : List ByteArray), seen.Nodup → (∀ x ∈ seen, x ∈ p.map (·.f0)) → n ≤ 100 → Ev (fun k => laws_wpReach.l0 k v o b (p.length : Int) (nextW o v seen seen) ((n + 1 : Nat) : Int)) R → Ev (fun k => laws_wpReach.l1 k v o b (p.length : Int) seen (n : Int) seen 0) R := fun R n seen h1 h2 hn hk => by
    have hsl := len seen h1 h2
    have key := loopL z_impl_PlantValve v (P := fun j r => ∀ next : List ByteArray, next.Nodup → (∀ x ∈ next, x ∈ p.map (·.f0)) → Ev (fun k => laws_wpReach.l0 k v o b (p.length : Int) (nextW o r seen next) ((n + 1 : Nat) : Int)) R → Ev (fun k => laws_wpReach.l1 k v o b (p.length : Int) seen (n : Int) next (j : Int)) R)
      (fun next _ _ hk => by
        refine Ev.step (fun k => by rw [laws_wpReach.l1]) ?_
        rw [wsucc (i := n) (n := 1000) (by omega) (by omega)]
        exact ev_neg (by omega) hk) (fun j y r hj hy hm _ ih next g1 g2 hk => ?_)
    · exact key seen h1 h2 hk
    obtain ⟨q1, _, _, q4, _⟩ := stepW_ok o seen next y g1
    have q4 := q4 (· ∈ p.map (·.f0)) (hPc y hm) h2 g2
    have hnl := len next g1 g2
    rw [show nextW o (y :: r) seen next = nextW o r seen (stepW o seen next y) from rfl] at hk
    have go := ih _ q1 q4 hk
    have J : ∀ n1 : List ByteArray, n1.length ≤ 15 → Ev (fun k => laws_wpReach.l1 k v o b (p.length : Int) seen (n : Int) (if (hasB seen y.f2 && !hasB n1 y.f1) = true then n1 ++ [y.f1] else n1) ((j + 1 : Nat) : Int)) R → Ev (fun k => laws_wpReach.j0 k v o b (p.length : Int) seen (n : Int) n1 (j : Int)) R := fun n1 hn1 hk => by
      refine Ev.step (fun k => by rw [laws_wpReach.j0]) ?_
      rw [rdV, hy, wsucc hj (by omega)]
      refine Ev.bind (wpHas_ev seen y.f2 (by omega)) (ev_b (fun c => Ev.bind (wpHas_ev n1 y.f1 (by omega)) (ev_b (fun d => ?_) (fun d => ev_pos (by omega) ?_))) (fun c => ?_))
      · rw [c, d, if_neg (by simp)] at hk; exact hk
      · rw [c, d, if_pos (by rfl)] at hk; exact hk
      · rw [c, if_neg (by simp)] at hk; exact hk
    unfold stepW at go
    refine Ev.step (fun k => by rw [laws_wpReach.l1]) (ev_pos (by omega) (ev_pos (by omega) ?_))
    rw [rdV, hy, wsucc hj (by omega)]
    refine Ev.bind (wpHas_ev o y.f0 (by omega)) (ev_b (fun c0 => ?_) (fun c0 => ?_))
    · rw [if_pos c0] at go
      refine Ev.bind (wpHas_ev seen y.f1 (by omega)) (ev_b (fun c => Ev.bind (wpHas_ev next y.f2 (by omega)) (ev_b (fun d => ?_) (fun d => ev_pos (by omega) ?_))) (fun c => ?_))
      · rw [show (if (hasB seen y.f1 && !hasB next y.f2) = true then next ++ [y.f2] else next) = next by rw [c, d]; rfl] at go
        exact J next (by omega) go
      · rw [show (if (hasB seen y.f1 && !hasB next y.f2) = true then next ++ [y.f2] else next) = next ++ [y.f2] by rw [c, d]; rfl] at go
        exact J _ (by rw [List.length_append, List.length_singleton]; omega) go
      · rw [show (if (hasB seen y.f1 && !hasB next y.f2) = true then next ++ [y.f2] else next) = next by rw [c]; rfl] at go
        exact J next (by omega) go
    · rw [if_neg (by rw [c0]; simp)] at go; exact go
  have key : ∀ (m n : Nat) (seen : List ByteArray), n + m = p.length → seen.Nodup → (∀ x ∈ seen, x ∈ p.map (·.f0)) → Ev (fun k => laws_wpReach.l0 k v o b (p.length : Int) seen (n : Int)) (hasB (seenN o v m seen) b) := fun m => by
    induction m with
    | zero =>
      intro n seen hn h1 h2
      have hsl := len seen h1 h2
      refine Ev.step (fun k => by rw [laws_wpReach.l0]) (ev_neg (by omega) (Ev.bind (wpHas_ev seen b (by omega)) (ev_ret rfl)))
    | succ m ih =>
      intro n seen hn h1 h2
      have hsl := len seen h1 h2
      obtain ⟨q1, _, _, q4, _⟩ := nextW_ok o seen v seen h1
      refine Ev.step (fun k => by rw [laws_wpReach.l0]) (ev_pos (by omega) (ev_pos (by omega) ?_))
      exact inner _ n seen h1 h2 (by omega) (ih (n + 1) _ (by omega) q1 (q4 (fun w => w ∈ p.map (fun z : S_impl_PlantPlace => z.f0)) (fun y hy => hPc y hy) h2 h2))
  exact key p.length 0 [a] (by omega) (by simp) (fun x hx => by rw [List.mem_singleton] at hx; subst hx; exact ha)
theorem implGrp_ev {a : ByteArray} (ha : a ∈ p.map (·.f0)) : Ev (fun k => impl_group.f k s f p v o a) (groupL o p v a) := by
  have hp := valid_p hV
  have hv := valid_v hV
  have h := implGroup_ev s f p v o a (by omega) (by omega) (by omega) (valid_ends hV)
  rw [if_pos (mem_has ha)] at h; exact h
theorem plantGroup_ev (hI : Ev (fun k => impl_PlantValid.f k s f p v) (validB s f p v)) {a : ByteArray} (ha : a ∈ p.map (·.f0)) : Ev (fun k => impl_PlantGroup.f k s f p v o a) (groupL o p v a) := by
  rw [hV] at hI
  unfold impl_PlantGroup.f
  exact Ev.bind hI (ev_pos rfl (Ev.bind (implGrp_ev hV o ho ha) (ev_ret rfl)))
theorem groups_ev (hI : Ev (fun k => impl_PlantValid.f k s f p v) (validB s f p v)) : Ev (fun k => impl_PlantGroups.f k s f p v o) (setsL o p v p) := by
  rw [hV] at hI
  have hp := valid_p hV
  unfold impl_PlantGroups.f
  refine Ev.bind hI (ev_pos rfl ?_)
  have key := loopL z_impl_PlantPlace p (P := fun i r => ∀ acc : List S_impl_PlantSet, acc.length ≤ i → Ev (fun k => impl_PlantGroups.l0 k s f p v o acc (i : Int)) (acc ++ setsL o p v r))
    (fun acc h => by refine Ev.step (fun k => by rw [impl_PlantGroups.l0]) ?_; exact ev_neg (by omega) (ev_ret (by simp [setsL]))) (fun i x r hi hx hm _ ih acc h => ?_)
  · exact key [] (Nat.zero_le _)
  have hxP : x.f0 ∈ p.map (·.f0) := List.mem_map.2 ⟨x, hm, rfl⟩
  have hfull := group_full hV o (mem_has hxP)
  refine Ev.step (fun k => by rw [impl_PlantGroups.l0]) (ev_pos (by omega) (ev_pos (by omega) ?_))
  rw [wsucc hi (by omega), rdP, hx]
  refine Ev.bind (implGrp_ev hV o ho hxP) (ev_pos (by omega) ?_)
  rw [show rdOf ByteArray.empty (groupL o p v x.f0) 0 = (groupL o p v x.f0).getD 0 ByteArray.empty from rdOf_nat ByteArray.empty _ 0]
  rw [show setsL o p v (x :: r) = if (groupL o p v x.f0).getD 0 ByteArray.empty = x.f0 then ⟨groupL o p v x.f0⟩ :: setsL o p v r else setsL o p v r from rfl]
  refine ev_split (fun c => ev_pos (by omega) (ev_eq (ih _ (by rw [List.length_append, List.length_singleton]; omega)) ?_)) (fun c => ev_eq (ih acc (by omega)) ?_)
  · rw [if_pos (ba_iff.1 c)]; simp
  · rw [if_neg (fun e => c (ba_iff.2 e))]
omit hV ho in
theorem head_marks {a : ByteArray} : ∀ r : List S_impl_PlantPlace, a ∈ r.map (·.f0) → headB a (r.map (headOf o p v)) = ((groupL o p v a).getD 0 ByteArray.empty, true)
  | [], h => by cases h
  | x :: r, h => by
    rw [marks_cons, headB]
    by_cases c : x.f0 = a
    · rw [if_pos (show (headOf o p v x).f0 = a from c)]
      subst c; rfl
    · rw [if_neg (show ¬ (headOf o p v x).f0 = a from c)]
      rw [List.map_cons] at h
      rcases List.mem_cons.1 h with e | h
      · exact absurd e.symm c
      · exact head_marks r h
omit ho in
theorem joined_ev {a b : ByteArray} (ha : a ∈ p.map (·.f0)) (hb : b ∈ p.map (·.f0)) : Ev (fun k => impl_PlantJoined.f k o (marksL o p v) a b) (hasB (groupL o p v a) b) := by
  have hp := valid_p hV
  have hml : (marksL o p v).length = p.length := List.length_map ..
  have i1 := implHead_ev o (marksL o p v) a (by omega)
  have i2 := implHead_ev o (marksL o p v) b (by omega)
  rw [show headB a (marksL o p v) = _ from head_marks o p ha] at i1
  rw [show headB b (marksL o p v) = _ from head_marks o p hb] at i2
  unfold impl_PlantJoined.f
  refine Ev.bind i1 (Ev.bind i2 (ev_pos rfl (ev_pos rfl (ev_ret ?_))))
  rw [Bool.eq_iff_iff, hasB_iff, decide_eq_true_iff]
  dsimp only
  rw [ba_iff]
  exact head_iff hV o ha hb
end
/-! ### the index follows -/
theorem known_in {v : List S_impl_PlantValve} {o : List ByteArray} {x : ByteArray} : x ∈ knownL v o ↔ x ∈ o ∧ ∃ y ∈ v, y.f0 = x := by
  unfold knownL
  constructor
  · intro h
    obtain ⟨y, hy, rfl⟩ := List.mem_map.1 h
    rw [List.mem_filter] at hy
    exact ⟨hasB_iff.1 hy.2, y, hy.1, rfl⟩
  · rintro ⟨h, y, hy, rfl⟩
    exact List.mem_map.2 ⟨y, List.mem_filter.2 ⟨hy, hasB_iff.2 h⟩, rfl⟩
theorem known_idem (v : List S_impl_PlantValve) (o : List ByteArray) : knownL v (knownL v o) = knownL v o := by
  show (v.filter fun y => hasB (knownL v o) y.f0).map (·.f0) = (v.filter fun y => hasB o y.f0).map (·.f0)
  congr 1
  refine List.filter_congr (fun y hy => ?_)
  rw [Bool.eq_iff_iff, hasB_iff, hasB_iff, known_in]
  exact ⟨fun h => h.1, fun h => ⟨h, y, hy, rfl⟩⟩
theorem index_idem (b : Bool) (o : List ByteArray) (p : List S_impl_PlantPlace) (v : List S_impl_PlantValve) : indexR b (indexR b o p v).1 p v = indexR b o p v := by
  cases b with
  | false => rfl
  | true =>
    show (knownL v (knownL v o), marksL (knownL v o) p v) = (knownL v o, marksL o p v)
    rw [known_idem, marks_known]
theorem turned (v : List S_impl_PlantValve) (O : List ByteArray) (a : ByteArray) (d : Bool) : hasB (knownL v (if d = true then withoutL O a ++ [a] else withoutL O a)) a = (d && valveHas v a) := by
  rw [Bool.eq_iff_iff, hasB_iff, known_in, Bool.and_eq_true]
  have hv : (∃ y ∈ v, y.f0 = a) ↔ valveHas v a = true := by
    unfold valveHas
    rw [List.any_eq_true]
    exact ⟨fun ⟨y, h1, h2⟩ => ⟨y, h1, decide_eq_true h2⟩, fun ⟨y, h1, h2⟩ => ⟨y, h1, of_decide_eq_true h2⟩⟩
  rw [hv]
  have hin : a ∈ (if d = true then withoutL O a ++ [a] else withoutL O a) ↔ d = true := by
    cases d with
    | true => simp
    | false =>
      simp only [Bool.false_eq_true, if_false, iff_false]
      unfold withoutL
      rw [List.mem_filter]
      simp
  rw [hin]
theorem turn_ev {s : List ByteArray} {f : List S_impl_PlantFoe} {p : List S_impl_PlantPlace} {v : List S_impl_PlantValve} (O : List ByteArray) (M : List S_impl_PlantMark) (a : ByteArray) (d : Bool) (hO : O.length ≤ 1000) (hI : Ev (fun k => impl_PlantValid.f k s f p v) (validB s f p v)) :
    Ev (fun k => impl_PlantTurn.f k s f p v O M a d) (indexR (validB s f p v) (if d = true then withoutL O a ++ [a] else withoutL O a) p v) := by
  have hwl := without_len O a
  unfold impl_PlantTurn.f
  refine Ev.bind (without_ev O a (by omega)) (ev_b (fun c => ev_pos (by omega) ?_) (fun c => ?_))
  · rw [if_pos c]; exact Ev.bind (implIndexR_ev _ (by simp; omega) hI) (ev_ret rfl)
  · rw [c]; exact Ev.bind (implIndexR_ev _ (by omega) hI) (ev_ret rfl)
/-! ### the law -/
section
variable {s : List ByteArray} {f : List S_impl_PlantFoe} {p : List S_impl_PlantPlace} {v : List S_impl_PlantValve} (hV : validB s f p v = true) (hI : Ev (fun k => impl_PlantValid.f k s f p v) (validB s f p v)) (o : List ByteArray) (ho : o.length ≤ 1000) (li : List ByteArray) (tu : List Bool)
include hV hI ho
theorem pairs_law : Ev (fun k => laws_FnPlantTop.l3 k (p.length : Int) 0 (s, f, p, v, li, tu) o (marksL o p v)) true := by
  have hp := valid_p hV
  refine loopL z_impl_PlantPlace p (P := fun i _ => Ev (fun k => laws_FnPlantTop.l3 k (p.length : Int) (i : Int) (s, f, p, v, li, tu) o (marksL o p v)) true)
    (by refine Ev.step (fun k => by rw [laws_FnPlantTop.l3]) ?_; exact ev_neg (by dsimp only; omega) (ev_ret (by simp))) (fun i x r hi hx hm _ ih => ?_)
  refine Ev.step (fun k => by rw [laws_FnPlantTop.l3]) (ev_pos (by dsimp only; omega) ?_)
  have haP : x.f0 ∈ p.map (·.f0) := List.mem_map.2 ⟨x, hm, rfl⟩
  refine loopL z_impl_PlantPlace p (P := fun j _ => Ev (fun k => laws_FnPlantTop.l4 k (p.length : Int) (i : Int) (j : Int) (s, f, p, v, li, tu) o (marksL o p v)) true) ?_ (fun j y r' hj hy hm' _ ih' => ?_)
  · refine Ev.step (fun k => by rw [laws_FnPlantTop.l4]) ?_
    dsimp only
    rw [wsucc hi (by omega)]
    exact ev_neg (by omega) ih
  refine Ev.step (fun k => by rw [laws_FnPlantTop.l4]) ?_
  dsimp only
  refine ev_pos (by omega) (ev_pos (by omega) (ev_pos (by omega) ?_))
  rw [rdP, rdP, hx, hy, wsucc hj (by omega)]
  have hbP : y.f0 ∈ p.map (·.f0) := List.mem_map.2 ⟨y, hm', rfl⟩
  have hgl := (group_ok hV o (mem_has haP)).2.1
  exact Ev.bind (reach_ev hV o ho haP) (Ev.bind (joined_ev hV o haP hbP) (ev_neg (by simp) (Ev.bind (plantGroup_ev hV o ho hI haP) (Ev.bind (wpHas_ev _ _ (by omega)) (ev_neg (by simp) ih')))))
theorem sets_law : Ev (fun k => laws_FnPlantTop.l1 k 0 0 (s, f, p, v, li, tu) (setsL o p v p) o (marksL o p v)) true := by
  have hp := valid_p hV
  have hfl := flat_len hV o
  have hsl := sets_len o (p := p) (v := v) p
  have key := loopL (⟨[]⟩ : S_impl_PlantSet) (setsL o p v p) (P := fun i r => ∀ n : Nat, n + (flatS r).length = p.length → Ev (fun k => laws_FnPlantTop.l1 k (n : Int) (i : Int) (s, f, p, v, li, tu) (setsL o p v p) o (marksL o p v)) true)
    (fun n hn => by
      refine Ev.step (fun k => by rw [laws_FnPlantTop.l1]) (ev_neg (by omega) ?_)
      have : n = p.length := by simpa [flatS] using hn
      subst this
      exact pairs_law hV hI o ho li tu) (fun i t r hi ht hm _ ih n hn => ?_)
  · exact key 0 (by rw [hfl]; omega)
  obtain ⟨x, hx, _, rfl⟩ := sets_mem o p t hm
  have haP : x.f0 ∈ p.map (·.f0) := List.mem_map.2 ⟨x, hx, rfl⟩
  have hgl := (group_ok hV o (mem_has haP)).2.1
  have rdS : rd_impl_PlantSet (setsL o p v p) (i : Int) = ⟨groupL o p v x.f0⟩ := by
    unfold rd_impl_PlantSet
    rw [Int.toNat_natCast]
    rw [getD_eq _ _ _ hi] at ht ⊢
    exact ht
  have hfs : (flatS (⟨groupL o p v x.f0⟩ :: r)).length = (groupL o p v x.f0).length + (flatS r).length := by
    unfold flatS; rw [List.map_cons, List.flatten_cons, List.length_append]
  rw [hfs] at hn
  refine Ev.step (fun k => by rw [laws_FnPlantTop.l1]) (ev_pos (by omega) (ev_pos (by omega) ?_))
  refine loopL ByteArray.empty (groupL o p v x.f0) (P := fun j _ => Ev (fun k => laws_FnPlantTop.l2 k (n : Int) (i : Int) (j : Int) (s, f, p, v, li, tu) (setsL o p v p) o (marksL o p v)) true) ?_ (fun j z r' hj hz hm' _ ih' => ?_)
  · refine Ev.step (fun k => by rw [laws_FnPlantTop.l2]) ?_
    rw [rdS]
    dsimp only
    rw [wsucc hi (by omega), show wrap64 ((n : Int) + ((groupL o p v x.f0).length : Int)) = ((n + (groupL o p v x.f0).length : Nat) : Int) by unfold wrap64; omega]
    exact ev_neg (by omega) (ih (n + (groupL o p v x.f0).length) (by omega))
  · refine Ev.step (fun k => by rw [laws_FnPlantTop.l2]) ?_
    rw [rdS]
    dsimp only
    rw [wsucc hj (by omega), rdOf_nat, hz]
    have hzP := (grp_ok hV o haP).2 z hm'
    have eG := plantGroup_ev hV o ho hI hzP
    rw [grp_eq hV o haP hm'] at eG
    exact ev_pos (by omega) (ev_pos (by omega) (Ev.bind eG (Ev.bind (wpTexts_ev _ (by omega)) (ev_pos rfl ih'))))
end
theorem turns_law (x : List Int) {s : List ByteArray} {f : List S_impl_PlantFoe} {p : List S_impl_PlantPlace} {v : List S_impl_PlantValve} (hI : Ev (fun k => impl_PlantValid.f k s f p v) (validB s f p v)) (hS : Ev (fun k => spec_PlantValid.f k s f p v) (validB s f p v)) (hvl : v.length ≤ 100) (li : List ByteArray) (tu : List Bool) (hl : li.length ≤ 100) (ht : tu.length = li.length) :
    Ev (fun k => laws_FnPlantTop.l0 k x 0 (s, f, p, v, li, tu) (indexR (validB s f p v) [] p v).1 (indexR (validB s f p v) [] p v).2) true := by
  have key := loopL ByteArray.empty li (P := fun i _ => ∀ X : List ByteArray, Ev (fun k => laws_FnPlantTop.l0 k x (i : Int) (s, f, p, v, li, tu) (indexR (validB s f p v) X p v).1 (indexR (validB s f p v) X p v).2) true) (fun X => ?_) (fun i a r hi ha _ _ ih X => ?_)
  · exact key []
  · refine Ev.step (fun k => by rw [laws_FnPlantTop.l0]) ?_
    dsimp only
    refine ev_neg (by omega) (Ev.bind hS ?_)
    cases hV : validB s f p v with
    | true =>
      have hk := known_len v X
      have hv := valid_v hV
      rw [show indexR true X p v = (knownL v X, marksL X p v) from rfl, ← marks_known]
      exact ev_pos rfl (Ev.bind (groups_ev hV (knownL v X) (by omega) hI) (sets_law hV hI (knownL v X) (by omega) li tu))
    | false => exact ev_neg (by simp) (ev_ret rfl)
  · have hio := @indexR_ok s f p v X
    have hol : (indexR (validB s f p v) X p v).1.length ≤ 18 := hio.1
    refine Ev.step (fun k => by rw [laws_FnPlantTop.l0]) ?_
    dsimp only
    rw [wsucc hi (by omega), rdOf_nat, ha]
    generalize rdOf false tu (i : Int) = d
    have eT := turn_ev (indexR (validB s f p v) X p v).1 (indexR (validB s f p v) X p v).2 a d (by omega) hI
    have hwl := without_len (indexR (validB s f p v) X p v).1 a
    have ih := ih (if d = true then withoutL (indexR (validB s f p v) X p v).1 a ++ [a] else withoutL (indexR (validB s f p v) X p v).1 a)
    have hto := turned v (indexR (validB s f p v) X p v).1 a d
    generalize (if d = true then withoutL (indexR (validB s f p v) X p v).1 a ++ [a] else withoutL (indexR (validB s f p v) X p v).1 a) = Y at *
    have hiY := @indexR_ok s f p v Y
    have eX := implIndexR_ev (s := s) (f := f) (p := p) (v := v) (indexR (validB s f p v) Y p v).1 (by have := hiY.1; omega) hI
    rw [index_idem] at eX
    refine ev_pos (by omega) (ev_pos (by omega) (ev_pos (by omega) (Ev.bind eT (Ev.bind eX (Ev.bind (wpIndex_ev _ _ (by have := hiY.1; omega) (by have := hiY.2.1; omega)) (ev_pos rfl (Ev.bind hS ?_)))))))
    cases hV : validB s f p v with
    | true =>
      rw [hV] at ih hiY
      rw [show (indexR true Y p v).1 = knownL v Y from rfl] at *
      refine ev_pos rfl (Ev.bind (wpHas_ev (knownL v Y) a (by have := hiY.1; omega)) (ev_b (fun c => Ev.bind (wpValve_ev s f p v a (by omega)) (ev_neg ?_ ih)) (fun c => ev_neg ?_ ih)))
      · rw [hto, c]; simp
      · rw [hto, c]; simp
    | false =>
      rw [hV] at ih
      exact ev_neg (by simp) ih
theorem FnPlantTop : ∀ (x0 : List Int), ((x0.length ≤ 9223372036854775807 ∧ x0.length * 1 ≤ 140737488351232) ∧ ∀ z ∈ x0, (Lit.int .u8 z).wf = true) → ∃ k, laws_FnPlantTop.f k x0 = some true := by
  intro x hx
  obtain ⟨⟨_, _⟩, xk⟩ := hx
  obtain ⟨⟨s, f, p, v, li, tu⟩, hd, ⟨h, q1, q2, q3⟩⟩ := turns_ok x xk
  dsimp only at h q1 q2 q3
  obtain ⟨ls, lf, lp, lv, s1, f1, p1, v1⟩ := h
  have hI := implValid_ev s f p v ⟨by omega, by omega, by omega, by omega, fun x hx => by have := s1 x hx; omega, fun x hx => by have := f1 x hx; omega, fun x hx => by have := p1 x hx; omega, fun x hx => by have := v1 x hx; omega⟩
  have hS := specValid_ev s f p v (by omega) (by omega) (by omega) (by omega)
  have L := turns_law x hI hS (by omega) li tu (by omega) q2
  have e1 := implIndexR_ev (s := s) (f := f) (p := p) (v := v) [] (by simp) hI
  have e2 := specIndexR_ev (s := s) (f := f) (p := p) (v := v) [] (by simp) hS
  have hio := @indexR_ok s f p v []
  refine Ev.rounds ?_
  unfold laws_FnPlantTop.f
  refine ev_split (fun _ => ev_ret rfl) (fun _ => Ev.bind hd (Ev.bind e1 (Ev.bind e2 (Ev.bind (wpIndex_ev _ _ (by have := hio.1; omega) (by have := hio.2.1; omega)) (ev_pos rfl (Ev.bind hI (Ev.bind hS (ev_neg (by simp) L))))))))
end Go.Proofs.Ytodeegjblililaa.Pure
