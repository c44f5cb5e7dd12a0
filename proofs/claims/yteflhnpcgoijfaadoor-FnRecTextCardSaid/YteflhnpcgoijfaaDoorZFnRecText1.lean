import Derived.Test.YteflhnpcgoijfaaDoorZFnRecText0
namespace Go.Proofs.YteflhnpcgoijfaaDoor.Pure
open Go Go.RowKit Go.Aw Go.Proofs.YteflhnpcgoijfaaDoor.RT
set_option linter.unusedVariables false
set_option linter.unusedSimpArgs false
/-! ### general words -/
theorem ev_pos {α : Type} {c : Prop} {d : Decidable c} {g f : Nat → Option α} {r : α} (h : c) (k : Ev g r) : Ev (fun n => @ite _ c d (g n) (f n)) r := Ev.congr (fun _ => if_pos h) k
theorem ev_neg {α : Type} {c : Prop} {d : Decidable c} {g f : Nat → Option α} {r : α} (h : ¬ c) (k : Ev f r) : Ev (fun n => @ite _ c d (g n) (f n)) r := Ev.congr (fun _ => if_neg h) k
theorem ev_ret {α : Type} {a r : α} (h : a = r) : Ev (fun _ => some a) r := h ▸ Ev.now a
theorem ev_let {α β : Type} {g : Option α} {a : α} {r : β} {f : Nat → α → Option β} (h : g = some a) (k : Ev (fun n => f n a) r) : Ev (fun n => g.bind (f n)) r := by
  subst h; exact k
theorem ev_eq {α : Type} {g : Nat → Option α} {a r : α} (k : Ev g a) (h : a = r) : Ev g r := h ▸ k
theorem ev_split {α : Type} {c : Prop} {d : Decidable c} {g f : Nat → Option α} {r : α} (h : c → Ev g r) (k : ¬ c → Ev f r) : Ev (fun n => @ite _ c d (g n) (f n)) r := by
  by_cases q : c
  · exact ev_pos q (h q)
  · exact ev_neg q (k q)
/-- a value that is called on -/
theorem ev_of {α β : Type} {g : Nat → Option α} {a : α} {r : β} {f : Nat → α → Option β} (h : Ev g a) (k : Ev (fun n => f n a) r) : Ev (fun n => (g n).bind (f n)) r := Ev.bind h k
theorem ex_ret {α : Type} {a : α} : ∃ q, Ev (fun _ => some a) q := ⟨a, Ev.now a⟩
theorem ex_ite {α : Type} {c : Prop} {d : Decidable c} {g f : Nat → Option α} (h : ∃ q, Ev g q) (k : ∃ q, Ev f q) : ∃ q, Ev (fun n => @ite _ c d (g n) (f n)) q := by
  by_cases q : c
  · exact h.imp fun _ e => ev_pos q e
  · exact k.imp fun _ e => ev_neg q e
theorem ex_pos {α : Type} {c : Prop} {d : Decidable c} {g f : Nat → Option α} (h : c) (k : ∃ q, Ev g q) : ∃ q, Ev (fun n => @ite _ c d (g n) (f n)) q := k.imp fun _ e => ev_pos h e
theorem ex_bind {α β : Type} {g : Nat → Option α} {f : Nat → α → Option β} (h : ∃ a, Ev g a) (k : ∀ a, ∃ q, Ev (fun n => f n a) q) : ∃ q, Ev (fun n => (g n).bind (f n)) q := by
  obtain ⟨a, h⟩ := h
  exact (k a).imp fun _ e => Ev.bind h e
theorem ex_step {α : Type} {g f : Nat → Option α} (h : ∀ k, g (k + 1) = f k) (k : ∃ q, Ev f q) : ∃ q, Ev g q := k.imp fun _ e => Ev.step h e
theorem w64 {x : Int} (h0 : -9223372036854775808 ≤ x) (h1 : x ≤ 9223372036854775807) : wrap64 x = x := by unfold wrap64; omega
theorem wsucc {i n : Nat} (h : i < n) (hn : n ≤ 9223372036854775807) : wrap64 ((i : Int) + 1) = ((i + 1 : Nat) : Int) := by unfold wrap64; omega
theorem wplus {a : Int} (h0 : 0 ≤ a) (h1 : a ≤ 4611686018427387904) : wrap64 (a + 1) = a + 1 := by unfold wrap64; omega
theorem pre64 {i : Nat} (h : ¬ i = 0) (hi : i ≤ 9223372036854775807) : wrap64 ((i : Int) - 1) = ((i - 1 : Nat) : Int) := by unfold wrap64; omega
theorem getD_eq {α : Type} (d : α) (xs : List α) (i : Nat) (h : i < xs.length) : xs.getD i d = xs[i] := by
  rw [List.getD_eq_getElem?_getD, List.getElem?_eq_getElem h]; rfl
theorem mem_getD {α : Type} (d : α) (xs : List α) (i : Nat) (h : i < xs.length) : xs.getD i d ∈ xs := by
  rw [getD_eq d xs i h]; exact List.getElem_mem h
theorem getD_set {α : Type} (d : α) (xs : List α) (i j : Nat) (v : α) (h : i < xs.length) : (xs.set i v).getD j d = if j = i then v else xs.getD j d := by
  rw [List.getD_eq_getElem?_getD, List.getD_eq_getElem?_getD, List.getElem?_set]
  by_cases e : i = j
  · subst e; simp [h]
  · rw [if_neg e, if_neg (fun q => e q.symm)]
theorem fill_end {α : Type} (d : α) (z y : List α) (hl : y.length = z.length) (h : ∀ j, j < z.length → y.getD j d = z.getD j d) : y = z := by
  apply List.ext_getElem hl
  intro j h1 h2
  have e := h j h2
  rwa [getD_eq d y j h1, getD_eq d z j h2] at e
theorem fill_step {α : Type} (d : α) (z y : List α) (i : Nat) (hl : y.length = z.length) (hi : i < z.length) (h : ∀ j, j < i → y.getD j d = z.getD j d) (v : α) (hv : v = z.getD i d) :
    (y.set i v).length = z.length ∧ ∀ j, j < i + 1 → (y.set i v).getD j d = z.getD j d := by
  refine ⟨by simpa using hl, fun j hj => ?_⟩
  rw [getD_set d y i j v (by omega)]
  by_cases e : j = i
  · rw [if_pos e, e, hv]
  · rw [if_neg e]; exact h j (by omega)
theorem rdOf_nat {α : Type} (d : α) (xs : List α) (i : Nat) : rdOf d xs (i : Int) = xs.getD i d := by simp [rdOf]
theorem rd_nat (xs : List Int) (i : Nat) : rd xs (i : Int) = xs.getD i 0 := by simp [rd]
theorem map_getD {α β : Type} (e : β) (d : α) (f : α → β) (l : List α) (i : Nat) (h : i < l.length) : (l.map f).getD i e = f (l.getD i d) := by
  rw [getD_eq e _ i (by simpa using h), getD_eq d l i h, List.getElem_map]
/-- a list told from its end: what is left from place i on -/
theorem loopL {α : Type} (d : α) (l : List α) {P : Nat → List α → Prop} (h0 : P l.length []) (hs : ∀ i x r, i < l.length → l.getD i d = x → x ∈ l → l.drop (i + 1) = r → P (i + 1) r → P i (x :: r)) : P 0 l := by
  have key : ∀ (n i : Nat), i + n = l.length → P i (l.drop i) := fun n => by
    induction n with
    | zero =>
      intro i hi
      have e : i = l.length := by omega
      subst e; rw [List.drop_length]; exact h0
    | succ n ih =>
      intro i hi
      have hlt : i < l.length := by omega
      have e : l.drop i = l.getD i d :: l.drop (i + 1) := by rw [List.drop_eq_getElem_cons hlt, getD_eq d l i hlt]
      rw [e]
      exact hs i _ _ hlt rfl (mem_getD d l i hlt) rfl (ih (i + 1) (by omega))
  simpa using key l.length 0 (by omega)
/-- the element ahead of place i -/
def ahead {α : Type} (d : α) (l : List α) (i : Nat) : Option α := if i = 0 then none else some (l.getD (i - 1) d)
theorem ahead_zero {α : Type} (d : α) (l : List α) : ahead d l 0 = none := rfl
theorem ahead_succ {α : Type} (d : α) (l : List α) (i : Nat) : ahead d l (i + 1) = some (l.getD i d) := by simp [ahead]
theorem ahead_pos {α : Type} (d : α) (l : List α) (i : Nat) (h : ¬ i = 0) : ahead d l i = some (l.getD (i - 1) d) := if_neg h
/-! ### the order of bytes -/
theorem bl_irr : ∀ x : List UInt8, Op.bytesLess x x = false
  | [] => rfl
  | a :: x => by simp [Op.bytesLess, bl_irr x]
theorem bl_asym : ∀ x y : List UInt8, Op.bytesLess x y = true → Op.bytesLess y x = false
  | [], [], _ => rfl
  | [], _ :: _, _ => rfl
  | _ :: _, [], h => by simp [Op.bytesLess] at h
  | a :: x, b :: y, h => by
    simp only [Op.bytesLess, Bool.or_eq_true, Bool.and_eq_true, decide_eq_true_eq, beq_iff_eq] at h
    simp only [Op.bytesLess, Bool.or_eq_false_iff, Bool.and_eq_false_iff, decide_eq_false_iff_not, beq_eq_false_iff_ne]
    rcases h with h | ⟨rfl, h⟩
    · exact ⟨UInt8.lt_asymm h, .inl (fun e => by subst e; exact UInt8.lt_irrefl _ h)⟩
    · exact ⟨UInt8.lt_irrefl _, .inr (bl_asym x y h)⟩
theorem bl_tri : ∀ x y : List UInt8, Op.bytesLess x y = true ∨ x = y ∨ Op.bytesLess y x = true
  | [], [] => .inr (.inl rfl)
  | [], _ :: _ => .inl rfl
  | _ :: _, [] => .inr (.inr rfl)
  | a :: x, b :: y => by
    simp only [Op.bytesLess, Bool.or_eq_true, Bool.and_eq_true, decide_eq_true_eq, beq_iff_eq, List.cons.injEq]
    rcases UInt8.lt_or_lt_of_ne (a := a) (b := b) |> fun f => (Classical.em (a = b)).imp id f with rfl | h | h
    · rcases bl_tri x y with q | rfl | q
      · exact .inl (.inr ⟨rfl, q⟩)
      · exact .inr (.inl ⟨rfl, rfl⟩)
      · exact .inr (.inr (.inr ⟨rfl, q⟩))
    · exact .inl (.inl h)
    · exact .inr (.inr (.inl h))
theorem bl_trans : ∀ x y z : List UInt8, Op.bytesLess x y = true → Op.bytesLess y z = true → Op.bytesLess x z = true
  | [], _, _ :: _, _, _ => rfl
  | [], [], [], h, _ => h
  | [], _ :: _, [], _, h => by simp [Op.bytesLess] at h
  | _ :: _, [], _, h, _ => by simp [Op.bytesLess] at h
  | _ :: _, _ :: _, [], _, h => by simp [Op.bytesLess] at h
  | a :: x, b :: y, c :: z, h, k => by
    simp only [Op.bytesLess, Bool.or_eq_true, Bool.and_eq_true, decide_eq_true_eq, beq_iff_eq] at h k ⊢
    rcases h with h | ⟨rfl, h⟩
    · rcases k with k | ⟨rfl, k⟩
      · exact .inl (UInt8.lt_trans h k)
      · exact .inl h
    · rcases k with k | ⟨rfl, k⟩
      · exact .inl k
      · exact .inr ⟨rfl, bl_trans x y z h k⟩
theorem ba_ext {a b : ByteArray} (h : a.toList = b.toList) : a = b := by
  apply ByteArray.ext
  apply Array.ext'
  simpa [ByteArray.toList_eq] using h
theorem ba_iff {a b : ByteArray} : a.toList = b.toList ↔ a = b := ⟨ba_ext, fun h => h ▸ rfl⟩
/-- a text ahead of another -/
def lt (a b : ByteArray) : Bool := Op.bytesLess a.toList b.toList
theorem lt_irr (a : ByteArray) : lt a a = false := bl_irr _
theorem lt_asym {a b : ByteArray} (h : lt a b = true) : lt b a = false := bl_asym _ _ h
theorem lt_trans {a b c : ByteArray} (h : lt a b = true) (k : lt b c = true) : lt a c = true := bl_trans _ _ _ h k
theorem lt_tri (a b : ByteArray) : lt a b = true ∨ a = b ∨ lt b a = true := (bl_tri a.toList b.toList).imp id (·.imp ba_ext id)
theorem lt_ne {a b : ByteArray} (h : lt a b = true) : a ≠ b := fun e => by rw [e, lt_irr] at h; cases h
/-- pair by pair: the first, then the second -/
def befB (a0 a1 b0 b1 : ByteArray) : Bool := lt a0 b0 || (decide (a0 = b0) && lt a1 b1)
/-! ### names -/
theorem ev_b {α : Type} {b : Bool} {g f : Nat → Option α} {r : α} (h : b = true → Ev g r) (k : b = false → Ev f r) : Ev (fun n => if b = true then g n else f n) r := by
  cases b
  · exact ev_neg (by simp) (k rfl)
  · exact ev_pos rfl (h rfl)
/-- a yes or no that is asked -/
theorem ev_ask {α : Type} {o g f : Nat → Option α} {q : Nat → Option Bool} {b : Bool} {r : α} (hq : Ev q b) (h : b = true → Ev g r) (k : b = false → Ev f r) : Ev (fun n => (q n).bind fun t => if t = true then g n else f n) r := Ev.bind (f := fun n t => if t = true then g n else f n) hq (ev_b h k)
def okc (c : Int) : Bool := (decide (97 ≤ c) && decide (c ≤ 122)) || ((decide (48 ≤ c) && decide (c ≤ 57)) || decide (c = 45))
theorem okc_t {c : Int} (h : 97 ≤ c ∧ c ≤ 122 ∨ 48 ≤ c ∧ c ≤ 57 ∨ c = 45) : okc c = true := by simp [okc]; omega
theorem okc_f {c : Int} (h : ¬ (97 ≤ c ∧ c ≤ 122 ∨ 48 ≤ c ∧ c ≤ 57 ∨ c = 45)) : okc c = false := by
  rw [← Bool.not_eq_true]; intro q; apply h; simp [okc] at q; omega
def allFrom (s : ByteArray) (i : Nat) : Bool := decide (∀ j, j < s.size → i ≤ j → okc (bt s (j : Int)) = true)
theorem allFrom_step (s : ByteArray) (i : Nat) (h : i < s.size) : allFrom s i = (okc (bt s (i : Int)) && allFrom s (i + 1)) := by
  unfold allFrom
  rw [Bool.eq_iff_iff, Bool.and_eq_true, decide_eq_true_iff, decide_eq_true_iff]
  refine ⟨fun q => ⟨q i h (Nat.le_refl _), fun j hj hi => q j hj (by omega)⟩, fun q j hj hi => ?_⟩
  by_cases e : j = i
  · rw [e]; exact q.1
  · exact q.2 j hj (by omega)
theorem allFrom_end (s : ByteArray) : allFrom s s.size = true := by
  unfold allFrom
  rw [decide_eq_true_iff]
  intro j hj hi; omega
def nameB (s : ByteArray) : Bool := decide (1 ≤ s.size ∧ s.size ≤ 8) && allFrom s 0
/-- a walk over the places of a text -/
theorem loopN (n : Nat) {P : Nat → Prop} (h0 : P n) (hs : ∀ i, i < n → P (i + 1) → P i) : P 0 := by
  have key : ∀ (m i : Nat), i + m = n → P i := fun m => by
    induction m with
    | zero => intro i hi; have e : i = n := by omega
              subst e; exact h0
    | succ m ih => intro i hi; exact hs i (by omega) (ih (i + 1) (by omega))
  exact key n 0 (by omega)
/-- each before the next -/
def chainB {α : Type} (p : α → α → Bool) : Option α → List α → Bool
  | _, [] => true
  | none, x :: r => chainB p (some x) r
  | some y, x :: r => p y x && chainB p (some x) r
def namesB (l : List ByteArray) : Bool := l.all nameB && chainB lt none l
def hasB (l : List ByteArray) (s : ByteArray) : Bool := l.any fun x => decide (x = s)
theorem hasB_iff {l : List ByteArray} {s : ByteArray} : hasB l s = true ↔ s ∈ l := by
  unfold hasB
  rw [List.any_eq_true]
  exact ⟨fun ⟨x, h, e⟩ => by simp at e; exact e ▸ h, fun h => ⟨s, h, by simp⟩⟩
def inB (a b c : Int) : Bool := decide (b ≤ a ∧ a ≤ c)
theorem inB_t {a b c : Int} (h : b ≤ a ∧ a ≤ c) : inB a b c = true := decide_eq_true h
theorem inB_f {a b c : Int} (h : ¬ (b ≤ a ∧ a ≤ c)) : inB a b c = false := decide_eq_false h
/-! ### names, as the reference reads them (recipes) -/
theorem l41In_ev (a b c : Int) : Ev (fun _ => spec_l41In.f a b c) (inB a b c) := by
  unfold spec_l41In.f inB
  refine ev_split (fun h => ev_ret (decide_eq_decide.2 (by omega))) (fun h => ev_ret ?_)
  symm; apply decide_eq_false; omega
theorem l41NameOk_ev (s : ByteArray) : Ev (fun k => spec_l41NameOk.f k s) (nameB s) := by
  unfold spec_l41NameOk.f nameB
  refine Ev.bind (l41In_ev _ _ _) (ev_b (fun h => ?_) (fun h => ev_ret ?_))
  · have hs : 1 ≤ s.size ∧ s.size ≤ 8 := by have : inB _ _ _ = true := h; unfold inB at this; have := of_decide_eq_true this; omega
    rw [decide_eq_true hs, Bool.true_and]
    refine loopN s.size (P := fun i => Ev (fun k => spec_l41NameOk.l0 k s (i : Int)) (allFrom s i))
      (by refine Ev.step (fun k => by rw [spec_l41NameOk.l0]) ?_; exact ev_neg (by omega) (ev_ret (allFrom_end s).symm)) (fun i hi ih => ?_)
    refine Ev.step (fun k => by rw [spec_l41NameOk.l0]) (ev_pos (by omega) (ev_pos (by omega) ?_))
    rw [wsucc hi (by omega), allFrom_step s i hi]
    generalize bt s (i : Int) = c
    repeat' (first | (refine ev_split (fun _ => ?_) (fun _ => ?_)) | (rw [okc_t (by omega), Bool.true_and]; exact ih) | (rw [okc_f (by omega)]; exact ev_ret rfl))
  · have hs : ¬ (1 ≤ s.size ∧ s.size ≤ 8) := fun q => by have : inB _ _ _ = false := h; unfold inB at this; have := of_decide_eq_false this; omega
    rw [decide_eq_false hs]; rfl
/-! ### names, as the program reads them (no lists that rise) -/
theorem isName_ev (s : ByteArray) (hn : s.size ≤ 140737488351232) : Ev (fun k => impl_isName.f k s) (nameB s) := by
  unfold impl_isName.f nameB
  refine loopN s.size (P := fun i => Ev (fun k => impl_isName.l0 k s (i : Int)) (decide (1 ≤ s.size ∧ s.size ≤ 8) && allFrom s i))
    (by
      refine Ev.step (fun k => by rw [impl_isName.l0]) (ev_neg (by omega) ?_)
      rw [allFrom_end, Bool.and_true]
      refine ev_split (fun h => ev_ret (decide_eq_decide.2 (by omega))) (fun h => ev_ret ?_)
      symm; apply decide_eq_false; omega) (fun i hi ih => ?_)
  refine Ev.step (fun k => by rw [impl_isName.l0]) (ev_pos (by omega) (ev_pos (by omega) ?_))
  rw [wsucc hi (by omega), allFrom_step s i hi]
  generalize bt s (i : Int) = c
  repeat' (first | (refine ev_split (fun _ => ?_) (fun _ => ?_)) | (rw [okc_t (by omega), Bool.true_and]; exact ih) | (rw [okc_f (by omega), Bool.false_and, Bool.and_false]; exact ev_ret rfl))
theorem chain_none {α : Type} (p : α → α → Bool) (x : α) (r : List α) : chainB p none (x :: r) = chainB p (some x) r := rfl
/-! ### recipes -/
theorem rdRP (l : List S_impl_RecPhase) (i : Nat) : rd_impl_RecPhase l (i : Int) = l.getD i z_impl_RecPhase := by unfold rd_impl_RecPhase; rw [Int.toNat_natCast]
def endOf (a : ByteArray) : Int := if a = (⟨#[103, 111, 111, 100]⟩ : ByteArray) then 1 else if a = (⟨#[115, 97, 118, 101, 100]⟩ : ByteArray) then 2 else if a = (⟨#[115, 99, 114, 97, 112, 112, 101, 100]⟩ : ByteArray) then 3 else 0
theorem specEnd_ev (a : ByteArray) : Ev (fun _ => spec_RecEnd.f a) (endOf a) := by
  unfold spec_RecEnd.f endOf
  refine ev_split (fun c => ev_ret (by rw [if_pos (ba_iff.1 c)])) (fun c => ?_)
  rw [if_neg (fun e => c (ba_iff.2 e))]
  refine ev_split (fun c => ev_ret (by rw [if_pos (ba_iff.1 c)])) (fun c => ?_)
  rw [if_neg (fun e => c (ba_iff.2 e))]
  exact ev_split (fun c => ev_ret (by rw [if_pos (ba_iff.1 c)])) (fun c => ev_ret (by rw [if_neg (fun e => c (ba_iff.2 e))]))
theorem implEnd_ev (a : ByteArray) : Ev (fun _ => impl_RecEnd.f a) (endOf a) := by
  unfold impl_RecEnd.f endOf
  refine ev_split (fun c => ev_ret (by rw [if_pos (ba_iff.1 c)])) (fun c => ?_)
  rw [if_neg (fun e => c (ba_iff.2 e))]
  refine ev_split (fun c => ev_ret (by rw [if_pos (ba_iff.1 c)])) (fun c => ?_)
  rw [if_neg (fun e => c (ba_iff.2 e))]
  exact ev_split (fun c => ev_ret (by rw [if_pos (ba_iff.1 c)])) (fun c => ev_ret (by rw [if_neg (fun e => c (ba_iff.2 e))]))
def argsB (x : S_impl_RecPhase) : Bool :=
  if x.f1 = 1 then nameB x.f3 && inB x.f4 1 1000 else if x.f1 = 2 then nameB x.f3 && (!decide (x.f2 = x.f3) && inB x.f4 1 1000) else if x.f1 = 3 then decide (x.f3 = (⟨#[]⟩ : ByteArray)) && inB x.f4 1 x.f5 else if x.f1 = 4 ∨ x.f1 = 5 then decide (x.f3 = (⟨#[]⟩ : ByteArray)) && decide (x.f4 = 0) else false
def phaseB (x : S_impl_RecPhase) : Bool := (nameB x.f0 && decide (endOf x.f0 = 0)) && (inB x.f5 1 1000 && ((nameB x.f2 && argsB x) && (nameB x.f6 && nameB x.f7)))
theorem l41Args_ev (x : S_impl_RecPhase) : Ev (fun k => spec_l41ArgsOk.f k x.f0 x.f1 x.f2 x.f3 x.f4 x.f5 x.f6 x.f7) (nameB x.f2 && argsB x) := by
  have e2 := l41NameOk_ev x.f2
  have e3 := l41NameOk_ev x.f3
  unfold spec_l41ArgsOk.f argsB
  generalize nameB x.f2 = n2 at *
  generalize nameB x.f3 = n3 at *
  refine ev_split (fun c => ?_) (fun c => ?_)
  · rw [if_pos c]
    exact Ev.bind e2 (ev_b (fun d => Ev.bind e3 (ev_b (fun d2 => Ev.bind (l41In_ev _ _ _) (ev_ret (by rw [d, d2]; rfl))) (fun d2 => ev_ret (by rw [d2]; simp)))) (fun d => ev_ret (by rw [d]; rfl)))
  rw [if_neg c]
  refine ev_split (fun c => ?_) (fun c => ?_)
  · rw [if_pos c]
    refine Ev.bind e2 (ev_b (fun d => Ev.bind e3 (ev_b (fun d2 => ev_split (fun d3 => ev_ret ?_) (fun d3 => Ev.bind (l41In_ev _ _ _) (ev_ret ?_))) (fun d2 => ev_ret (by rw [d2]; simp)))) (fun d => ev_ret (by rw [d]; rfl)))
    · rw [decide_eq_true (ba_iff.1 d3)]; simp
    · rw [decide_eq_false (fun e => d3 (ba_iff.2 e)), d, d2]; rfl
  rw [if_neg c]
  refine ev_split (fun c => ?_) (fun c => ?_)
  · rw [if_pos c]
    refine Ev.bind e2 (ev_b (fun d => ev_split (fun d3 => Ev.bind (l41In_ev _ _ _) (ev_ret ?_)) (fun d3 => ev_ret ?_)) (fun d => ev_ret (by rw [d]; rfl)))
    · rw [decide_eq_true (ba_iff.1 d3), d]; rfl
    · rw [decide_eq_false (fun e => d3 (ba_iff.2 e))]; simp
  rw [if_neg c]
  refine ev_split (fun c => ?_) (fun c => ?_)
  · rw [if_pos (show x.f1 = 4 ∨ x.f1 = 5 from .inl c)]
    refine Ev.bind e2 (ev_b (fun d => ev_split (fun d3 => ev_ret ?_) (fun d3 => ev_ret ?_)) (fun d => ev_ret (by rw [d]; rfl)))
    · rw [decide_eq_true (ba_iff.1 d3), d]; rfl
    · rw [decide_eq_false (fun e => d3 (ba_iff.2 e))]; simp
  refine ev_split (fun c2 => ?_) (fun c2 => ?_)
  · rw [if_pos (show x.f1 = 4 ∨ x.f1 = 5 from .inr c2)]
    refine Ev.bind e2 (ev_b (fun d => ev_split (fun d3 => ev_ret ?_) (fun d3 => ev_ret ?_)) (fun d => ev_ret (by rw [d]; rfl)))
    · rw [decide_eq_true (ba_iff.1 d3), d]; rfl
    · rw [decide_eq_false (fun e => d3 (ba_iff.2 e))]; simp
  · rw [if_neg (show ¬ (x.f1 = 4 ∨ x.f1 = 5) by omega)]; exact ev_ret (by simp)
theorem specPhase_ev (x : S_impl_RecPhase) : Ev (fun k => spec_RecPhaseOk.f k x.f0 x.f1 x.f2 x.f3 x.f4 x.f5 x.f6 x.f7) (phaseB x) := by
  have eP : Ev (fun k => spec_l41PlainOk.f k x.f0) (nameB x.f0 && decide (endOf x.f0 = 0)) := by
    unfold spec_l41PlainOk.f
    exact Ev.bind (l41NameOk_ev _) (ev_b (fun c => Ev.bind (specEnd_ev _) (ev_ret (by rw [c]; rfl))) (fun c => ev_ret (by rw [c]; rfl)))
  have eA := l41Args_ev x
  unfold spec_RecPhaseOk.f phaseB
  generalize (nameB x.f0 && decide (endOf x.f0 = 0)) = b0 at *
  generalize (nameB x.f2 && argsB x) = b1 at *
  refine Ev.bind eP (ev_b (fun c0 => Ev.bind (l41In_ev _ _ _) (ev_b (fun c1 => Ev.bind eA (ev_b (fun c2 => Ev.bind (l41NameOk_ev _) (ev_b (fun c3 => Ev.bind (l41NameOk_ev _) (ev_ret ?_)) (fun c3 => ev_ret ?_))) (fun c2 => ev_ret ?_))) (fun c1 => ev_ret ?_))) (fun c0 => ev_ret ?_))
  · rw [c0, c1, c2, c3]; rfl
  · rw [c3]; simp
  · rw [c2]; simp
  · rw [c1]; simp
  · rw [c0]; rfl
structure SzR (x : S_impl_RecPhase) : Prop where
  n0 : x.f0.size ≤ 140737488351232
  n2 : x.f2.size ≤ 140737488351232
  n3 : x.f3.size ≤ 140737488351232
  n6 : x.f6.size ≤ 140737488351232
  n7 : x.f7.size ≤ 140737488351232
theorem phaseJ_ev (x : S_impl_RecPhase) (z : SzR x) (m : Int) (b : Bool) : Ev (fun k => impl_RecPhaseOk.j0 k x.f3 x.f4 m b) ((if b = true then nameB x.f3 else decide (x.f3 = (⟨#[]⟩ : ByteArray))) && (decide (x.f4 ≤ m) && (decide (1 ≤ x.f4) || (decide (m = 0) && decide (x.f4 = 0))))) := by
  have e3 := isName_ev x.f3 z.n3
  have tl : ∀ B : Bool, B = true → Ev (fun _ => if x.f4 ≤ m then (if x.f4 ≥ 1 then some true else if m = 0 then some (decide (x.f4 = 0)) else some false) else some false) (B && (decide (x.f4 ≤ m) && (decide (1 ≤ x.f4) || (decide (m = 0) && decide (x.f4 = 0))))) := fun B hB => by
    subst hB
    refine ev_split (fun c => ev_split (fun d => ev_ret ?_) (fun d => ev_split (fun d2 => ev_ret ?_) (fun d2 => ev_ret ?_))) (fun c => ev_ret ?_)
    · rw [decide_eq_true c, decide_eq_true (by omega : 1 ≤ x.f4)]; rfl
    · rw [decide_eq_true c, decide_eq_false (by omega : ¬ 1 ≤ x.f4), decide_eq_true d2]; rfl
    · rw [decide_eq_true c, decide_eq_false (by omega : ¬ 1 ≤ x.f4), decide_eq_false d2]; rfl
    · rw [decide_eq_false c]; rfl
  refine Ev.step (fun k => by rw [impl_RecPhaseOk.j0]) ?_
  cases b with
  | true =>
    refine ev_pos rfl (Ev.bind e3 (ev_b (fun c => ?_) (fun c => ev_ret (by rw [if_pos rfl, c]; rfl))))
    rw [if_pos rfl]; exact tl _ c
  | false =>
    refine ev_neg (by simp) (ev_split (fun c => ?_) (fun c => ev_ret ?_))
    · rw [if_neg Bool.false_ne_true]; exact tl _ (decide_eq_true (ba_iff.1 c))
    · rw [if_neg Bool.false_ne_true, decide_eq_false (fun e => c (ba_iff.2 e))]; rfl
theorem implPhase_ev (x : S_impl_RecPhase) (z : SzR x) : Ev (fun k => impl_RecPhaseOk.f k x.f0 x.f1 x.f2 x.f3 x.f4 x.f5 x.f6 x.f7) (phaseB x) := by
  have J := fun m b => phaseJ_ev x z m b
  unfold impl_RecPhaseOk.f phaseB argsB
  refine Ev.bind (isName_ev _ z.n0) (ev_b (fun c0 => ?_) (fun c0 => ev_ret (by rw [c0]; rfl)))
  refine Ev.bind (implEnd_ev _) (ev_split (fun c1 => ?_) (fun c1 => ev_ret (by rw [decide_eq_false c1]; simp)))
  rw [c0, decide_eq_true c1]
  refine ev_split (fun c => ev_ret (by rw [inB_f (by omega : ¬ (1 ≤ x.f5 ∧ x.f5 ≤ 1000))]; rfl)) (fun c2 => ?_)
  refine ev_split (fun c => ev_ret (by rw [inB_f (by omega : ¬ (1 ≤ x.f5 ∧ x.f5 ≤ 1000))]; rfl)) (fun c3 => ?_)
  rw [inB_t (by omega : 1 ≤ x.f5 ∧ x.f5 ≤ 1000)]
  refine Ev.bind (isName_ev _ z.n2) (ev_b (fun c4 => ?_) (fun c4 => ev_ret (by rw [c4]; rfl)))
  refine Ev.bind (isName_ev _ z.n6) (ev_b (fun c5 => ?_) (fun c5 => ev_ret (by rw [c5]; simp)))
  refine Ev.bind (isName_ev _ z.n7) (ev_b (fun c6 => ?_) (fun c6 => ev_ret (by rw [c6]; simp)))
  rw [c4, c5, c6]
  simp only [Bool.and_true, Bool.true_and]
  refine ev_split (fun c => ?_) (fun c => ?_)
  · rw [if_pos c]
    refine ev_eq (J 1000 true) ?_
    rw [if_pos rfl]; congr 1
    rw [Bool.eq_iff_iff]; unfold inB; simp only [Bool.and_eq_true, Bool.or_eq_true, decide_eq_true_eq, true_and]; omega
  rw [if_neg c]
  refine ev_split (fun c => ?_) (fun c => ?_)
  · rw [if_pos c]
    refine ev_split (fun d => ev_ret (by rw [decide_eq_true (ba_iff.1 d)]; simp)) (fun d => ev_eq (J 1000 true) ?_)
    rw [if_pos rfl, decide_eq_false (fun e => d (ba_iff.2 e))]; congr 1
    rw [Bool.eq_iff_iff]; unfold inB; simp only [Bool.not_false, Bool.true_and, Bool.and_eq_true, Bool.or_eq_true, decide_eq_true_eq]; omega
  rw [if_neg c]
  refine ev_split (fun c => ?_) (fun c => ?_)
  · rw [if_pos c]
    refine ev_eq (J x.f5 false) ?_
    rw [if_neg Bool.false_ne_true]; congr 1
    rw [Bool.eq_iff_iff]; unfold inB; simp only [Bool.and_eq_true, Bool.or_eq_true, decide_eq_true_eq, true_and]; omega
  rw [if_neg c]
  refine ev_split (fun c => ?_) (fun c => ?_)
  · rw [if_pos (show x.f1 = 4 ∨ x.f1 = 5 from .inl c)]
    refine ev_eq (J 0 false) ?_
    rw [if_neg Bool.false_ne_true]; congr 1
    rw [Bool.eq_iff_iff]; simp only [Bool.and_eq_true, Bool.or_eq_true, decide_eq_true_eq, true_and]; omega
  refine ev_split (fun c2 => ?_) (fun c2 => ?_)
  · rw [if_pos (show x.f1 = 4 ∨ x.f1 = 5 from .inr c2)]
    refine ev_eq (J 0 false) ?_
    rw [if_neg Bool.false_ne_true]; congr 1
    rw [Bool.eq_iff_iff]; simp only [Bool.and_eq_true, Bool.or_eq_true, decide_eq_true_eq, true_and]; omega
  · rw [if_neg (show ¬ (x.f1 = 4 ∨ x.f1 = 5) by omega)]; exact ev_ret rfl
/-! ### phases of a recipe -/
def phIx (a : ByteArray) : List S_impl_RecPhase → Nat → Int
  | [], _ => -1
  | y :: r, i => if y.f0 = a then (i : Int) else phIx a r (i + 1)
theorem phIx_at (l : List S_impl_RecPhase) (a : ByteArray) : ∀ (r : List S_impl_RecPhase) (i : Nat), l.drop i = r → phIx a r i = -1 ∨ ∃ j : Nat, j < l.length ∧ i ≤ j ∧ phIx a r i = (j : Int) ∧ (l.getD j z_impl_RecPhase).f0 = a
  | [], _, _ => .inl rfl
  | y :: r, i, hd => by
    have hi : i < l.length := by
      refine Nat.lt_of_not_le fun hle => ?_
      rw [List.drop_eq_nil_iff.2 hle] at hd; cases hd
    have e := List.drop_eq_getElem_cons hi
    rw [hd] at e; injection e with e1 e2
    have hy : l.getD i z_impl_RecPhase = y := by rw [getD_eq _ l i hi]; exact e1.symm
    rw [show phIx a (y :: r) i = if y.f0 = a then (i : Int) else phIx a r (i + 1) from rfl]
    by_cases c : y.f0 = a
    · exact .inr ⟨i, hi, Nat.le_refl _, by rw [if_pos c], by rw [hy]; exact c⟩
    · rw [if_neg c]
      rcases phIx_at l a r (i + 1) e2.symm with h | ⟨j, h1, h2, h3, h4⟩
      · exact .inl h
      · exact .inr ⟨j, h1, by omega, h3, h4⟩
theorem l42At_ev (l : List S_impl_RecPhase) (a : ByteArray) (hl : l.length ≤ 140737488351232) : Ev (fun k => spec_l42At.f k l a) (phIx a l 0) := by
  unfold spec_l42At.f
  refine loopL z_impl_RecPhase l (P := fun i r => Ev (fun k => spec_l42At.l0 k l a (i : Int)) (phIx a r i))
    (by refine Ev.step (fun k => by rw [spec_l42At.l0]) ?_; exact ev_neg (by omega) (ev_ret rfl)) (fun i y r hi hx hm _ ih => ?_)
  refine Ev.step (fun k => by rw [spec_l42At.l0]) (ev_pos (by omega) (ev_pos (by omega) ?_))
  rw [wsucc hi (by omega), rdRP, hx]
  unfold phIx
  exact ev_split (fun c => ev_ret (by rw [if_pos (ba_iff.1 c)])) (fun c => ev_eq ih (by rw [if_neg (fun e => c (ba_iff.2 e))]))
theorem phase_ev (l : List S_impl_RecPhase) (a : ByteArray) (hl : l.length ≤ 140737488351232) : Ev (fun k => impl_phase.f k l a) (phIx a l 0) := by
  unfold impl_phase.f
  refine loopL z_impl_RecPhase l (P := fun i r => Ev (fun k => impl_phase.l0 k l a (i : Int)) (phIx a r i))
    (by refine Ev.step (fun k => by rw [impl_phase.l0]) ?_; exact ev_neg (by omega) (ev_ret rfl)) (fun i y r hi hx hm _ ih => ?_)
  refine Ev.step (fun k => by rw [impl_phase.l0]) (ev_pos (by omega) (ev_pos (by omega) ?_))
  rw [wsucc hi (by omega), rdRP, hx]
  unfold phIx
  exact ev_split (fun c => ev_ret (by rw [if_pos (ba_iff.1 c)])) (fun c => ev_eq ih (by rw [if_neg (fun e => c (ba_iff.2 e))]))
def onB (l : List S_impl_RecPhase) (i : Nat) (a : ByteArray) : Bool := !decide (endOf a = 0) || decide ((i : Int) < phIx a l 0)
def ownB (l : List S_impl_RecPhase) (i : Nat) (x : S_impl_RecPhase) : Bool := phaseB x && decide (phIx x.f0 l 0 = (i : Int))
def recA (l : List S_impl_RecPhase) : Nat → List S_impl_RecPhase → Bool
  | _, [] => true
  | i, x :: r => ownB l i x && recA l (i + 1) r
def recN (l : List S_impl_RecPhase) : Nat → List S_impl_RecPhase → Bool
  | _, [] => true
  | i, x :: r => (onB l i x.f6 && onB l i x.f7) && recN l (i + 1) r
def recB (l : List S_impl_RecPhase) : Bool := inB (l.length : Int) 1 12 && (recA l 0 l && recN l 0 l)
theorem and4 (a b c d : Bool) : ((a && b) && (c && d)) = ((a && c) && (b && d)) := by cases a <;> cases b <;> cases c <;> cases d <;> rfl
theorem specRec_ev (l : List S_impl_RecPhase) (hl : l.length ≤ 140737488351232) : Ev (fun k => spec_RecOk.f k l) (recB l) := by
  unfold spec_RecOk.f recB
  refine Ev.bind (l41In_ev _ _ _) (ev_b (fun c => ?_) (fun c => ev_ret (by rw [c]; rfl)))
  rw [c, Bool.true_and]
  refine loopL z_impl_RecPhase l (P := fun i r => Ev (fun k => spec_RecOk.l0 k l (i : Int)) (recA l i r && recN l i r))
    (by refine Ev.step (fun k => by rw [spec_RecOk.l0]) ?_; exact ev_neg (by omega) (ev_ret rfl)) (fun i x r hi hx hm _ ih => ?_)
  refine Ev.step (fun k => by rw [spec_RecOk.l0]) (ev_pos (by omega) (ev_pos (by omega) ?_))
  rw [wsucc hi (by omega), rdRP, hx, show recA l i (x :: r) = (ownB l i x && recA l (i + 1) r) from rfl, show recN l i (x :: r) = ((onB l i x.f6 && onB l i x.f7) && recN l (i + 1) r) from rfl, and4]
  generalize (recA l (i + 1) r && recN l (i + 1) r) = R at *
  have tl : Ev (fun k => (spec_RecEnd.f x.f7).bind fun t => if t = 0 then (spec_l42At.f k l x.f7).bind fun t => if t ≤ (i : Int) then some false else spec_RecOk.l0 k l ((i + 1 : Nat) : Int) else spec_RecOk.l0 k l ((i + 1 : Nat) : Int)) (onB l i x.f7 && R) := by
    unfold onB
    refine Ev.bind (specEnd_ev _) (ev_split (fun d => Ev.bind (l42At_ev l x.f7 hl) (ev_split (fun d2 => ev_ret ?_) (fun d2 => ev_eq ih ?_))) (fun d => ev_eq ih ?_))
    · rw [decide_eq_true d, decide_eq_false (by omega : ¬ (i : Int) < phIx x.f7 l 0)]; rfl
    · rw [decide_eq_true (by omega : (i : Int) < phIx x.f7 l 0)]; simp
    · rw [decide_eq_false d]; rfl
  unfold ownB
  rw [show onB l i x.f6 = (!decide (endOf x.f6 = 0) || decide ((i : Int) < phIx x.f6 l 0)) from rfl]
  refine Ev.bind (specPhase_ev x) (ev_b (fun c1 => ?_) (fun c1 => ev_ret (by rw [c1]; rfl)))
  refine Ev.bind (l42At_ev l x.f0 hl) (ev_split (fun c2 => ?_) (fun c2 => ev_ret (by rw [decide_eq_false c2]; simp)))
  rw [c1, decide_eq_true c2]
  refine Ev.bind (specEnd_ev _) (ev_split (fun d => Ev.bind (l42At_ev l x.f6 hl) (ev_split (fun d2 => ev_ret ?_) (fun d2 => ev_eq tl ?_))) (fun d => ev_eq tl ?_))
  · rw [decide_eq_true d, decide_eq_false (by omega : ¬ (i : Int) < phIx x.f6 l 0)]; rfl
  · rw [decide_eq_true (by omega : (i : Int) < phIx x.f6 l 0)]; simp
  · rw [decide_eq_false d]; rfl
theorem implRec_ev (l : List S_impl_RecPhase) (hl : l.length ≤ 140737488351232) (hz : ∀ x ∈ l, SzR x) : Ev (fun k => impl_RecOk.f k l) (recB l) := by
  unfold impl_RecOk.f recB
  refine ev_split (fun c => ev_ret (by rw [inB_f (by omega)]; rfl)) (fun c1 => ev_split (fun c => ev_ret (by rw [inB_f (by omega)]; rfl)) (fun c2 => ?_))
  rw [inB_t (by omega), Bool.true_and]
  have L1 : Ev (fun k => impl_RecOk.l1 k l 0) (recN l 0 l) := by
    refine loopL z_impl_RecPhase l (P := fun i r => Ev (fun k => impl_RecOk.l1 k l (i : Int)) (recN l i r))
      (by refine Ev.step (fun k => by rw [impl_RecOk.l1]) ?_; exact ev_neg (by omega) (ev_ret rfl)) (fun i x r hi hx hm _ ih => ?_)
    refine Ev.step (fun k => by rw [impl_RecOk.l1]) (ev_pos (by omega) (ev_pos (by omega) ?_))
    rw [rdRP, hx, show recN l i (x :: r) = ((onB l i x.f6 && onB l i x.f7) && recN l (i + 1) r) from rfl]
    generalize recN l (i + 1) r = R at *
    have q2 : Ev (fun k => impl_RecOk.l2 k l (i : Int) [x.f6, x.f7] 2) R := by
      refine Ev.step (fun k => by rw [impl_RecOk.l2]) ?_
      rw [wsucc hi (by omega)]
      exact ev_neg (by omega) ih
    have w1 : wrap64 (1 + 1) = 2 := by unfold wrap64; omega
    have w0 : wrap64 (0 + 1) = 1 := by unfold wrap64; omega
    have q1 : Ev (fun k => impl_RecOk.l2 k l (i : Int) [x.f6, x.f7] 1) (onB l i x.f7 && R) := by
      refine Ev.step (fun k => by rw [impl_RecOk.l2]) (ev_pos (by omega) (ev_pos (by omega) (ev_pos (by simp) ?_)))
      rw [w1, show rdOf ByteArray.empty [x.f6, x.f7] 1 = x.f7 from rfl]
      unfold onB
      refine Ev.bind (implEnd_ev _) (ev_split (fun d => Ev.bind (phase_ev l x.f7 hl) (ev_split (fun d2 => ev_ret ?_) (fun d2 => ev_eq q2 ?_))) (fun d => ev_eq q2 ?_))
      · rw [decide_eq_true d, decide_eq_false (by omega : ¬ (i : Int) < phIx x.f7 l 0)]; rfl
      · rw [decide_eq_true (by omega : (i : Int) < phIx x.f7 l 0)]; simp
      · rw [decide_eq_false d]; rfl
    refine Ev.step (fun k => by rw [impl_RecOk.l2]) (ev_pos (by omega) (ev_pos (by omega) (ev_pos (by simp) ?_)))
    rw [w0, show rdOf ByteArray.empty [x.f6, x.f7] 0 = x.f6 from rfl, show onB l i x.f6 = (!decide (endOf x.f6 = 0) || decide ((i : Int) < phIx x.f6 l 0)) from rfl]
    refine Ev.bind (implEnd_ev _) (ev_split (fun d => Ev.bind (phase_ev l x.f6 hl) (ev_split (fun d2 => ev_ret ?_) (fun d2 => ev_eq q1 ?_))) (fun d => ev_eq q1 ?_))
    · rw [decide_eq_true d, decide_eq_false (by omega : ¬ (i : Int) < phIx x.f6 l 0)]; rfl
    · rw [decide_eq_true (by omega : (i : Int) < phIx x.f6 l 0)]; simp
    · rw [decide_eq_false d]; rfl
  generalize recN l 0 l = N at *
  refine loopL z_impl_RecPhase l (P := fun i r => Ev (fun k => impl_RecOk.l0 k l (i : Int)) (recA l i r && N))
    (by refine Ev.step (fun k => by rw [impl_RecOk.l0]) ?_; exact ev_neg (by omega) (ev_eq L1 rfl)) (fun i x r hi hx hm _ ih => ?_)
  refine Ev.step (fun k => by rw [impl_RecOk.l0]) (ev_pos (by omega) (ev_pos (by omega) ?_))
  rw [wsucc hi (by omega), rdRP, hx, show recA l i (x :: r) = (ownB l i x && recA l (i + 1) r) from rfl]
  unfold ownB
  refine Ev.bind (implPhase_ev x (hz x hm)) (ev_b (fun c3 => ?_) (fun c3 => ev_ret (by rw [c3]; rfl)))
  refine Ev.bind (phase_ev l x.f0 hl) (ev_split (fun c4 => ev_eq ih ?_) (fun c4 => ev_ret (by rw [decide_eq_false c4]; simp)))
  rw [c3, decide_eq_true c4]; rfl
/-! ### answers that are there -/
/-- there is an answer, and it is so -/
def ExP {α : Type} (g : Nat → Option α) (Q : α → Prop) : Prop := ∃ q, Ev g q ∧ Q q
theorem exp_ret {α : Type} {a : α} {Q : α → Prop} (h : Q a) : ExP (fun _ => some a) Q := ⟨a, Ev.now a, h⟩
theorem exp_let {α β : Type} {g : Option α} {a : α} {f : Nat → α → Option β} {Q : β → Prop} (h : g = some a) (k : ExP (fun n => f n a) Q) : ExP (fun n => g.bind (f n)) Q := by subst h; exact k
theorem exp_bind {α β : Type} {g : Nat → Option α} {f : Nat → α → Option β} {R : α → Prop} {Q : β → Prop} (h : ExP g R) (k : ∀ a, R a → ExP (fun n => f n a) Q) : ExP (fun n => (g n).bind (f n)) Q := by
  obtain ⟨a, h1, h2⟩ := h
  obtain ⟨q, e, hq⟩ := k a h2
  exact ⟨q, Ev.bind h1 e, hq⟩
theorem exp_ite {α : Type} {c : Prop} {d : Decidable c} {g f : Nat → Option α} {Q : α → Prop} (h : c → ExP g Q) (k : ¬ c → ExP f Q) : ExP (fun n => @ite _ c d (g n) (f n)) Q := by
  by_cases q : c
  · exact (h q).imp fun _ e => ⟨ev_pos q e.1, e.2⟩
  · exact (k q).imp fun _ e => ⟨ev_neg q e.1, e.2⟩
theorem exp_pos {α : Type} {c : Prop} {d : Decidable c} {g f : Nat → Option α} {Q : α → Prop} (h : c) (k : ExP g Q) : ExP (fun n => @ite _ c d (g n) (f n)) Q := k.imp fun _ e => ⟨ev_pos h e.1, e.2⟩
theorem exp_neg {α : Type} {c : Prop} {d : Decidable c} {g f : Nat → Option α} {Q : α → Prop} (h : ¬ c) (k : ExP f Q) : ExP (fun n => @ite _ c d (g n) (f n)) Q := k.imp fun _ e => ⟨ev_neg h e.1, e.2⟩
theorem exp_step {α : Type} {g f : Nat → Option α} {Q : α → Prop} (h : ∀ k, g (k + 1) = f k) (k : ExP f Q) : ExP g Q := k.imp fun _ e => ⟨Ev.step h e.1, e.2⟩
theorem exp_mono {α : Type} {g : Nat → Option α} {Q R : α → Prop} (h : ExP g Q) (k : ∀ a, Q a → R a) : ExP g R := h.imp fun a e => ⟨e.1, k a e.2⟩
theorem exp_ev {α β : Type} {g : Nat → Option α} {a : α} {f : Nat → α → Option β} {Q : β → Prop} (h : Ev g a) (k : ExP (fun n => f n a) Q) : ExP (fun n => (g n).bind (f n)) Q := by
  obtain ⟨q, e, hq⟩ := k
  exact ⟨q, Ev.bind h e, hq⟩
theorem exp_of {α : Type} {g : Nat → Option α} {a : α} {Q : α → Prop} (h : Ev g a) (k : Q a) : ExP g Q := ⟨a, h, k⟩
/-! ### texts, cut in pieces -/
def pcs (c : UInt8) : List UInt8 → List (List UInt8)
  | [] => [[]]
  | b :: l => if b = c then [] :: pcs c l else (b :: (pcs c l).headD []) :: (pcs c l).tail
theorem pcs_ne (c : UInt8) : ∀ l, pcs c l ≠ []
  | [] => by simp [pcs]
  | b :: l => by unfold pcs; split <;> simp
theorem index_hd (c : UInt8) (l : List UInt8) : Lib.index (c :: l) [c] = 0 := by simp [Lib.index, List.isPrefixOf]
theorem index_tl (b c : UInt8) (l : List UInt8) (h : b ≠ c) : Lib.index (b :: l) [c] = if Lib.index l [c] == -1 then -1 else Lib.index l [c] + 1 := by
  have h' : (c == b) = false := by simpa using fun e => h e.symm
  simp [Lib.index, List.isPrefixOf, h']
theorem splitK_pcs (c : UInt8) : ∀ s : List UInt8, Lib.splitK [c] 0 (Lib.count s [c]) s = pcs c s
  | [] => by rw [Lib.count_miss (by simp [Lib.index])]; rfl
  | b :: l => by
    have ih := splitK_pcs c l
    by_cases h : b = c
    · subst h
      rw [Lib.count_cons_eq, Nat.add_comm, Lib.splitK, index_hd, if_neg (by decide)]
      simp [pcs, ih]
    · rw [Lib.count_cons_ne b c l h]
      have hi := index_tl b c l h
      by_cases hm : Lib.index l [c] = -1
      · rw [Lib.count_miss hm] at ih ⊢
        simp only [Lib.splitK] at ih ⊢
        simp [pcs, h, ← ih]
      · have hge := Lib.index_ge l [c]
        obtain ⟨i, hi'⟩ : ∃ i : Nat, Lib.index l [c] = i := ⟨(Lib.index l [c]).toNat, by omega⟩
        rw [Lib.count_hit (by simp) hi', Nat.add_comm] at ih ⊢
        have e1 : ¬ (Lib.index l [c] == -1) = true := by simpa using hm
        have hi2 : Lib.index (b :: l) [c] = ((i + 1 : Nat) : Int) := by rw [hi, if_neg e1, hi']; omega
        have e2 : ¬ (Lib.index (b :: l) [c] == -1) = true := by
          intro e; have := beq_iff_eq.1 e; omega
        rw [Lib.splitK, if_neg e1, hi'] at ih
        rw [Lib.splitK, if_neg e2, hi2, pcs, if_neg h, ← ih]
        simp [Nat.add_assoc, Nat.add_comm]
        rw [show 1 + (i + 1) = (i + 1) + 1 by omega, List.drop_succ_cons]
def bareL (c : UInt8) : List UInt8 → List UInt8
  | [] => []
  | b :: l => if b = c then [] else b :: bareL c l
theorem cut_bare (c : UInt8) : ∀ s : List UInt8, (Lib.cut s [c]).1 = bareL c s
  | [] => by simp [Lib.cut, Lib.index, bareL]
  | b :: l => by
    have ih := cut_bare c l
    by_cases h : b = c
    · subst h
      simp [Lib.cut, index_hd, bareL]
    · have hi := index_tl b c l h
      have hge := Lib.index_ge l [c]
      by_cases hm : Lib.index l [c] = -1
      · have e : Lib.index (b :: l) [c] = -1 := by rw [hi, if_pos (by simpa using hm)]
        simp only [Lib.cut, hm, e, bareL, if_neg h] at ih ⊢
        simpa using ih
      · have e1 : ¬ (Lib.index l [c] == -1) = true := by simpa using hm
        have e : Lib.index (b :: l) [c] = Lib.index l [c] + 1 := by rw [hi, if_neg e1]
        have g0 : 0 ≤ Lib.index l [c] := by omega
        have g1 : 0 ≤ Lib.index l [c] + 1 := by omega
        simp only [Lib.cut, e, bareL, if_neg h, if_pos g0, if_pos g1] at ih ⊢
        rw [← ih, show (Lib.index l [c] + 1).toNat = (Lib.index l [c]).toNat + 1 by omega, List.take_succ_cons]
theorem splitS_map (s : ByteArray) (c : UInt8) : (splitS s ⟨#[c]⟩).map (fun x => x.data.toList) = pcs c s.data.toList := by
  unfold splitS
  rw [Lib.splitB_data]
  exact splitK_pcs c _
theorem cutS_bare (s : ByteArray) (c : UInt8) : (cutS s ⟨#[c]⟩).1.data.toList = bareL c s.data.toList := by
  unfold cutS
  exact cut_bare c _
/-! ### texts as lists of bytes -/
def mkB (l : List UInt8) : ByteArray := ⟨l.toArray⟩
theorem mkB_data (x : ByteArray) : mkB x.data.toList = x := by cases x; simp [mkB]
theorem data_mkB (l : List UInt8) : (mkB l).data.toList = l := by simp [mkB]
theorem mkB_size (l : List UInt8) : (mkB l).size = l.length := by show l.toArray.size = l.length; simp
theorem ba_len (s : ByteArray) : s.data.toList.length = s.size := by show s.data.toList.length = s.data.size; simp
theorem mkB_nil {l : List UInt8} : mkB l = (⟨#[]⟩ : ByteArray) ↔ l = [] := by
  constructor
  · intro h
    have := congrArg (fun x : ByteArray => x.data.toList) h
    simpa [mkB] using this
  · rintro rfl; rfl
theorem bt_list (s : ByteArray) (i : Nat) (h : i < s.size) : bt s (i : Int) = ((s.data.toList.getD i 0).toNat : Int) := by
  have h' : i < s.data.toList.length := by rw [ba_len]; exact h
  unfold bt
  rw [dif_pos (by simpa using h), getD_eq _ _ _ h']
  simp only [Int.toNat_natCast]
  rfl
theorem extract_one (s : ByteArray) (i : Nat) (h : i < s.size) : s.extract i (i + 1) = mkB [s.data.toList.getD i 0] := by
  have h' : i < s.data.toList.length := by rw [ba_len]; exact h
  apply ByteArray.ext
  apply Array.ext'
  rw [getD_eq _ _ _ h']
  simp only [ByteArray.data_extract, Array.toList_extract, mkB, List.extract_eq_take_drop]
  rw [show i + 1 - i = 1 by omega, List.drop_eq_getElem_cons h']
  simp
theorem extract_to (s : ByteArray) (i : Nat) : s.extract 0 i = mkB (s.data.toList.take i) := by
  apply ByteArray.ext
  apply Array.ext'
  simp [ByteArray.data_extract, mkB, List.extract_eq_take_drop]
theorem mkB_app (a b : List UInt8) : mkB a ++ mkB b = mkB (a ++ b) := by
  apply ByteArray.ext
  simp [ByteArray.data_append, mkB]
theorem u8_lt (b : UInt8) : b.toNat < 256 := b.toNat_lt
theorem bareL_len (c : UInt8) : ∀ l : List UInt8, (bareL c l).length ≤ l.length
  | [] => Nat.le_refl _
  | b :: l => by
    have := bareL_len c l
    unfold bareL
    split
    · simp
    · simp; omega
/-! ### the words of a line -/
def okW (b : UInt8) : Bool := decide (32 ≤ b.toNat ∧ b.toNat ≤ 126)
def wsp : List UInt8 → List UInt8 → List ByteArray → Option (List ByteArray)
  | [], _, out => some out
  | b :: l, cur, out => if b = 32 then (if cur = [] then wsp l cur out else wsp l [] (out ++ [mkB cur])) else if (33 ≤ b.toNat ∧ b.toNat ≤ 126) ∧ cur.length + 1 ≤ 24 then wsp l (cur ++ [b]) out else none
def goP : List (List UInt8) → List ByteArray → Option (List ByteArray)
  | [], out => some out
  | p :: ps, out => if p = [] then goP ps out else if p.length > 24 then none else goP ps (out ++ [mkB p])
theorem u8_32 {b : UInt8} : b = 32 ↔ b.toNat = 32 := ⟨fun h => by subst h; rfl, fun h => UInt8.toNat_inj.1 (by rw [h]; rfl)⟩
theorem u8_35 {b : UInt8} : b = 35 ↔ b.toNat = 35 := ⟨fun h => by subst h; rfl, fun h => UInt8.toNat_inj.1 (by rw [h]; rfl)⟩
theorem wsp_go : ∀ (bs cur : List UInt8) (out : List ByteArray), cur.length ≤ 24 → wsp (bs ++ [32]) cur out = if bs.all okW = true then goP ((cur ++ (pcs 32 bs).headD []) :: (pcs 32 bs).tail) out else none
  | [], cur, out, hc => by
    have : ¬ cur.length > 24 := by omega
    simp only [List.nil_append, wsp, pcs, goP, List.all_nil, List.headD_cons, List.append_nil, List.tail_cons]
    by_cases h : cur = [] <;> simp [h, this]
  | b :: l, cur, out, hc => by
    rw [List.cons_append, wsp]
    by_cases h : b = 32
    · subst h
      have i1 := wsp_go l [] out (by simp)
      have i2 := wsp_go l [] (out ++ [mkB cur]) (by simp)
      have hne := pcs_ne 32 l
      have e : ([] ++ (pcs 32 l).headD []) :: (pcs 32 l).tail = pcs 32 l := by
        cases hp : pcs 32 l with
        | nil => exact absurd hp hne
        | cons p ps => simp
      rw [e] at i1 i2
      have ok : okW 32 = true := by decide
      have : ¬ cur.length > 24 := by omega
      simp only [pcs, if_true, List.headD_cons, List.append_nil, List.tail_cons, List.all_cons, ok, Bool.true_and, goP]
      by_cases hcur : cur = []
      · subst hcur; simp [i1]
      · simp [hcur, this, i2]
    · rw [if_neg h]
      have hb : b.toNat ≠ 32 := fun e => h (u8_32.2 e)
      simp only [pcs, if_neg h, List.headD_cons, List.tail_cons, List.all_cons]
      by_cases h1 : 33 ≤ b.toNat ∧ b.toNat ≤ 126
      · have ok : okW b = true := decide_eq_true (by omega)
        by_cases h2 : cur.length + 1 ≤ 24
        · rw [if_pos ⟨h1, h2⟩, wsp_go l (cur ++ [b]) out (by simp; omega), ok, Bool.true_and]
          simp
        · rw [if_neg (fun q => h2 q.2), ok, Bool.true_and]
          have e1 : cur ++ b :: (pcs 32 l).headD [] ≠ [] := by simp
          have e2 : (cur ++ b :: (pcs 32 l).headD []).length > 24 := by simp; omega
          rw [goP, if_neg e1, if_pos e2]
          simp
      · have ok : okW b = false := decide_eq_false (by omega)
        rw [if_neg (fun q => h1 q.1), ok]
        simp
theorem wsp_same (bs : List UInt8) : wsp (bs ++ [32]) [] [] = if bs.all okW = true then goP (pcs 32 bs) [] else none := by
  have h := wsp_go bs [] [] (by simp)
  have hne := pcs_ne 32 bs
  have e : ([] ++ (pcs 32 bs).headD []) :: (pcs 32 bs).tail = pcs 32 bs := by
    cases hp : pcs 32 bs with
    | nil => exact absurd hp hne
    | cons p ps => simp
  rw [e] at h; exact h
def cutO : Option (List ByteArray) → List ByteArray × Bool
  | none => ([], false)
  | some o => (o, true)
theorem cutWords_ev (s : ByteArray) (hs : s.size ≤ 1048576) : Ev (fun k => impl_cutWords.f k s) (cutO (if (bareL 35 s.data.toList).all okW = true then goP (pcs 32 (bareL 35 s.data.toList)) [] else none)) := by
  unfold impl_cutWords.f
  have eC : strings_Cut.f s (⟨#[35]⟩ : ByteArray) = some (cutS s (⟨#[35]⟩ : ByteArray)) := by
    unfold strings_Cut.f cutSf; rw [if_pos (by omega)]
  have hb := cutS_bare s 35
  refine ev_let eC ?_
  generalize cutS s (⟨#[35]⟩ : ByteArray) = C at *
  have hbl := bareL_len 35 s.data.toList
  rw [ba_len] at hbl
  have hC : C.1 = mkB (bareL 35 s.data.toList) := by rw [← hb, mkB_data]
  generalize bareL 35 s.data.toList = B at *
  have hCs : C.1.size = B.length := by rw [hC, mkB_size]
  have L1 : B.all okW = true → Ev (fun k => impl_cutWords.l0 k (B.length : Int) C) (cutO (goP (pcs 32 B) [])) := fun _ => by
    refine Ev.step (fun k => by rw [impl_cutWords.l0]) (ev_neg (by omega) ?_)
    have eS : strings_Split.f C.1 (⟨#[32]⟩ : ByteArray) = some (splitS C.1 (⟨#[32]⟩ : ByteArray)) := by
      unfold strings_Split.f splitSf; rw [if_pos ⟨by omega, by decide⟩]
    refine ev_let eS ?_
    have hm := splitS_map C.1 32
    rw [hb] at hm
    have hlen : (splitS C.1 (⟨#[32]⟩ : ByteArray)).length ≤ 4294967296 := by
      have h1 := Lib.splitB_length_le (⟨#[32]⟩ : ByteArray) 0 (Lib.countB C.1 (⟨#[32]⟩ : ByteArray)) C.1
      have h2 := Lib.countB_le (⟨#[32]⟩ : ByteArray) (by decide) C.1.size C.1 (Nat.le_refl _)
      unfold splitS; omega
    generalize splitS C.1 (⟨#[32]⟩ : ByteArray) = ws at *
    rw [← hm]
    have key := loopL ByteArray.empty ws (P := fun i r => i ≤ ws.length → ∀ out : List ByteArray, out.length ≤ i → Ev (fun k => impl_cutWords.l1 k out (i : Int) ws) (cutO (goP (r.map (fun x => x.data.toList)) out)))
      (fun _ out _ => by refine Ev.step (fun k => by rw [impl_cutWords.l1]) ?_; exact ev_neg (by omega) (ev_ret rfl)) (fun i x r hi hx hmm _ ih _ out ho => ?_)
    · exact key (by omega) [] (by simp)
    refine Ev.step (fun k => by rw [impl_cutWords.l1]) (ev_pos (by omega) (ev_pos (by omega) ?_))
    rw [rdOf_nat, hx, wsucc hi (by omega), List.map_cons, goP]
    have hxl := ba_len x
    refine ev_split (fun c => ?_) (fun c => ?_)
    · have : x.data.toList = [] := by rw [ba_iff.1 c]
      rw [if_pos this]
      exact ih (by omega) out (by omega)
    · have : ¬ x.data.toList = [] := fun e => c (ba_iff.2 (by rw [← mkB_data x, e]; rfl))
      rw [if_neg this]
      refine ev_split (fun c2 => ?_) (fun c2 => ?_)
      · rw [if_pos (by omega)]; exact ev_ret rfl
      · rw [if_neg (by omega), mkB_data]
        exact ev_pos (by omega) (ih (by omega) _ (by simp; omega))
  have key := loopL (0 : UInt8) B (P := fun i r => (r.all okW = true → B.all okW = true) → i ≤ B.length → Ev (fun k => impl_cutWords.l0 k (i : Int) C) (cutO (if r.all okW = true then goP (pcs 32 B) [] else none)))
    (fun h _ => by rw [if_pos (by rfl)]; exact L1 (h rfl)) (fun i x r hi hx hm _ ih h _ => ?_)
  · exact key (fun h => h) (by omega)
  have hbt : bt C.1 (i : Int) = (x.toNat : Int) := by rw [bt_list _ i (by omega), hb, hx]
  refine Ev.step (fun k => by rw [impl_cutWords.l0]) (ev_pos (by omega) (ev_pos (by omega) ?_))
  rw [hbt, wsucc hi (by omega), List.all_cons]
  refine ev_split (fun c => ?_) (fun c => ev_split (fun c2 => ?_) (fun c2 => ?_))
  · have ok : okW x = false := decide_eq_false (by omega)
    rw [ok]; exact ev_ret rfl
  · have ok : okW x = false := decide_eq_false (by omega)
    rw [ok]; exact ev_ret rfl
  · have ok : okW x = true := decide_eq_true (by omega)
    rw [ok, Bool.true_and]
    exact ih (fun q => h (by rw [List.all_cons, ok, Bool.true_and]; exact q)) (by omega)
/-! ### lines -/
def finL : List UInt8 → List UInt8 → List ByteArray
  | cur, [] => if cur = [] then [] else [mkB cur]
  | cur, b :: r => if b = 10 then mkB cur :: finL [] r else finL (cur ++ [b]) r
def dl : List (List UInt8) → List ByteArray
  | [] => []
  | [p] => if p = [] then [] else [mkB p]
  | p :: q :: r => mkB p :: dl (q :: r)
theorem finL_dl : ∀ (l cur : List UInt8), finL cur l = dl ((cur ++ (pcs 10 l).headD []) :: (pcs 10 l).tail)
  | [], cur => by simp [finL, pcs, dl]
  | b :: l, cur => by
    by_cases h : b = 10
    · subst h
      have ih := finL_dl l []
      have hne := pcs_ne 10 l
      cases hp : pcs 10 l with
      | nil => exact absurd hp hne
      | cons p ps =>
        rw [hp] at ih
        simp only [List.headD_cons, List.tail_cons, List.nil_append] at ih
        simp [finL, pcs, hp, dl, ih]
    · have ih := finL_dl l (cur ++ [b])
      simp only [finL, pcs, if_neg h, List.headD_cons, List.tail_cons]
      rw [ih]; simp
theorem finL_pcs (l : List UInt8) : finL [] l = dl (pcs 10 l) := by
  have h := finL_dl l []
  have hne := pcs_ne 10 l
  cases hp : pcs 10 l with
  | nil => exact absurd hp hne
  | cons p ps => rw [hp] at h; simpa using h
theorem extract_mid (s : ByteArray) (a i : Nat) (h : i ≤ s.size) : s.extract a i = mkB ((s.data.toList.drop a).take (i - a)) := by
  apply ByteArray.ext
  apply Array.ext'
  simp [ByteArray.data_extract, mkB, List.extract_eq_take_drop]
theorem l43Lines_ev (s : ByteArray) (hs : s.size ≤ 1048576) : Ev (fun k => spec_l43Lines.f k s) (finL [] s.data.toList) := by
  unfold spec_l43Lines.f
  have hl := ba_len s
  have key := loopL (0 : UInt8) s.data.toList (P := fun i r => i ≤ s.data.toList.length → ∀ (out : List ByteArray) (a : Nat), a ≤ i → out.length ≤ i → Ev (fun k => spec_l43Lines.l0 k s out (a : Int) (i : Int)) (out ++ finL ((s.data.toList.drop a).take (i - a)) r))
    (fun _ out a ha ho => by
      refine Ev.step (fun k => by rw [spec_l43Lines.l0]) ?_
      refine ev_neg (by omega) ?_
      have e : (s.data.toList.drop a).take (s.data.toList.length - a) = s.data.toList.drop a := List.take_of_length_le (by rw [List.length_drop]; omega)
      rw [e, finL]
      refine ev_split (fun c => ?_) (fun c => ?_)
      · have hne : ¬ s.data.toList.drop a = [] := fun q => by have := List.drop_eq_nil_iff.1 q; omega
        rw [if_neg hne]
        refine ev_pos (by omega) (ev_pos (by omega) (ev_pos (by omega) (ev_ret ?_)))
        rw [Int.toNat_natCast, extract_mid _ _ _ (Nat.le_refl _), List.take_of_length_le (by rw [List.length_drop]; omega)]
      · have he : s.data.toList.drop a = [] := List.drop_eq_nil_iff.2 (by omega)
        rw [if_pos he, List.append_nil]; exact ev_ret rfl) (fun i x r hi hx hm _ ih _ out a ha ho => ?_)
  · have := key (by omega) [] 0 (by omega) (by simp)
    simpa using this
  have hxb := u8_lt x
  refine Ev.step (fun k => by rw [spec_l43Lines.l0]) ?_
  refine ev_pos (by omega) (ev_pos (by omega) ?_)
  rw [bt_list s i (by omega), hx, wsucc hi (by omega), finL]
  refine ev_split (fun c => ?_) (fun c => ?_)
  · have h10 : x = 10 := UInt8.toNat_inj.1 (by show x.toNat = 10; omega)
    rw [if_pos h10]
    refine ev_pos (by omega) (ev_pos (by omega) (ev_pos (by omega) (ev_pos (by omega) ?_)))
    rw [Int.toNat_natCast, Int.toNat_natCast, extract_mid _ _ _ (by omega)]
    have := ih (by omega) (out ++ [mkB ((s.data.toList.drop a).take (i - a))]) (i + 1) (Nat.le_refl _) (by simp; omega)
    rw [Nat.sub_self, List.take_zero] at this
    refine ev_eq this ?_
    simp
  · have h10 : ¬ x = 10 := fun e => c (by rw [e]; rfl)
    rw [if_neg h10]
    refine ev_eq (ih (by omega) out a (by omega) (by omega)) ?_
    have e : (s.data.toList.drop a).take (i + 1 - a) = (s.data.toList.drop a).take (i - a) ++ [x] := by
      rw [show i + 1 - a = (i - a) + 1 by omega, List.take_succ_eq_append_getElem (by rw [List.length_drop]; omega), List.getElem_drop]
      rw [getD_eq _ _ _ hi] at hx
      simp only [show a + (i - a) = i by omega, hx]
    rw [e]
theorem dl_len : ∀ l : List (List UInt8), (dl l).length ≤ l.length
  | [] => Nat.le_refl _
  | [p] => by unfold dl; split <;> simp
  | p :: q :: r => by have := dl_len (q :: r); simp only [dl, List.length_cons] at this ⊢; omega
theorem dl_last : ∀ (ws : List ByteArray), ws ≠ [] → dl (ws.map fun x => x.data.toList) = if ws.getD (ws.length - 1) ByteArray.empty = (⟨#[]⟩ : ByteArray) then ws.take (ws.length - 1) else ws
  | [], h => absurd rfl h
  | [x], _ => by
    simp only [List.map_cons, List.map_nil, dl, List.length_cons, List.length_nil]
    by_cases h : x = (⟨#[]⟩ : ByteArray)
    · subst h; simp
    · have : ¬ x.data.toList = [] := fun e => h (by rw [← mkB_data x, e]; rfl)
      simp [this, h, mkB_data]
  | x :: y :: r, _ => by
    have ih := dl_last (y :: r) (by simp)
    simp only [List.map_cons] at ih ⊢
    rw [dl, ih, mkB_data]
    have e1 : (x :: y :: r).length - 1 = (y :: r).length - 1 + 1 := by simp
    rw [e1, List.getD_cons_succ, List.take_succ_cons]
    split <;> rfl
theorem cutLines_ev (s : ByteArray) (hs : s.size ≤ 1048576) : Ev (fun _ => impl_cutLines.f s) (finL [] s.data.toList) := by
  unfold impl_cutLines.f
  have eS : strings_Split.f s (⟨#[10]⟩ : ByteArray) = some (splitS s (⟨#[10]⟩ : ByteArray)) := by
    unfold strings_Split.f splitSf; rw [if_pos ⟨by omega, by decide⟩]
  refine ev_let eS ?_
  have hm := splitS_map s 10
  have hlen : (splitS s (⟨#[10]⟩ : ByteArray)).length ≤ 4294967296 := by
    have h1 := Lib.splitB_length_le (⟨#[10]⟩ : ByteArray) 0 (Lib.countB s (⟨#[10]⟩ : ByteArray)) s
    have h2 := Lib.countB_le (⟨#[10]⟩ : ByteArray) (by decide) s.size s (Nat.le_refl _)
    unfold splitS; omega
  rw [finL_pcs, ← hm]
  have hne : splitS s (⟨#[10]⟩ : ByteArray) ≠ [] := fun e => by rw [e] at hm; exact pcs_ne 10 _ hm.symm
  generalize splitS s (⟨#[10]⟩ : ByteArray) = ws at *
  rw [dl_last ws hne]
  have hpos := List.length_pos_iff.2 hne
  have hw : wrap64 ((ws.length : Int) - 1) = ((ws.length - 1 : Nat) : Int) := by rw [w64 (by omega) (by omega)]; omega
  rw [hw, rdOf_nat]
  refine ev_pos (by omega) (ev_pos (by omega) (ev_split (fun c => ?_) (fun c => ?_)))
  · rw [if_pos (ba_iff.1 c), Int.toNat_natCast]
    exact ev_pos (by omega) (ev_ret rfl)
  · rw [if_neg (fun e => c (ba_iff.2 e))]; exact ev_ret rfl
theorem finL_len (s : ByteArray) (hs : s.size ≤ 1048576) : (finL [] s.data.toList).length ≤ 4294967296 := by
  have hm := splitS_map s 10
  have h1 := Lib.splitB_length_le (⟨#[10]⟩ : ByteArray) 0 (Lib.countB s (⟨#[10]⟩ : ByteArray)) s
  have h2 := Lib.countB_le (⟨#[10]⟩ : ByteArray) (by decide) s.size s (Nat.le_refl _)
  have h3 := dl_len (pcs 10 s.data.toList)
  rw [finL_pcs]
  rw [← hm, List.length_map] at h3
  rw [← hm]
  unfold splitS at *; omega
/-- each line is no longer than the text -/
theorem finL_mem : ∀ (l cur : List UInt8), ∀ x ∈ finL cur l, x.size ≤ cur.length + l.length
  | [], cur, x, hx => by
    unfold finL at hx
    split at hx
    · cases hx
    · rw [List.mem_singleton] at hx; subst hx; rw [mkB_size]; simp
  | b :: l, cur, x, hx => by
    unfold finL at hx
    split at hx
    · rcases List.mem_cons.1 hx with rfl | hx
      · rw [mkB_size]; simp
      · have := finL_mem l [] x hx; simp at this ⊢; omega
    · have := finL_mem l (cur ++ [b]) x hx; simp at this ⊢; omega
/-! ### words, as the reference cuts them -/
def hsh : List UInt8 → List UInt8
  | [] => []
  | b :: l => if b = 35 then [32] else b :: hsh l
theorem hsh_bare : ∀ B : List UInt8, hsh (B ++ [32]) = bareL 35 B ++ [32]
  | [] => by decide
  | b :: B => by
    rw [List.cons_append, hsh, bareL]
    split
    · rfl
    · rw [hsh_bare B]; rfl
theorem words_j {S : ByteArray} {i : Nat} {x : UInt8} {cur : List UInt8} {out : List ByteArray} {R : List ByteArray × Bool} (hi : i < S.size) (hS : S.size ≤ 2000000) (hx : S.data.toList.getD i 0 = x) (hc : cur.length ≤ 24) (ho : out.length ≤ i)
    (h1 : x = 32 → cur = [] → Ev (fun k => spec_l43Words.l0 k out (mkB cur) S ((i + 1 : Nat) : Int)) R) (h2 : x = 32 → cur ≠ [] → Ev (fun k => spec_l43Words.l0 k (out ++ [mkB cur]) (⟨#[]⟩ : ByteArray) S ((i + 1 : Nat) : Int)) R)
    (h3 : x ≠ 32 → (33 ≤ x.toNat ∧ x.toNat ≤ 126) ∧ cur.length + 1 ≤ 24 → Ev (fun k => spec_l43Words.l0 k out (mkB (cur ++ [x])) S ((i + 1 : Nat) : Int)) R) (h4 : x ≠ 32 → ¬ ((33 ≤ x.toNat ∧ x.toNat ≤ 126) ∧ cur.length + 1 ≤ 24) → R = ([], false)) :
    Ev (fun k => spec_l43Words.j0 k out (mkB cur) S (i : Int)) R := by
  have hx8 := u8_lt x
  have hl := ba_len S
  have hbt : bt S (i : Int) = (x.toNat : Int) := by rw [bt_list _ i hi, hx]
  have hex : S.extract ((i : Int)).toNat ((i + 1 : Nat) : Int).toNat = mkB [x] := by
    rw [Int.toNat_natCast, Int.toNat_natCast, extract_one _ i hi, hx]
  refine Ev.step (fun k => by rw [spec_l43Words.j0]) ?_
  rw [wsucc hi (by omega), hbt, hex, mkB_app]
  refine ev_pos (by omega) (ev_pos (by omega) ?_)
  refine ev_split (fun c => ?_) (fun c => ?_)
  · have hx32 : x = 32 := u8_32.2 (by omega)
    refine ev_split (fun c2 => h1 hx32 (mkB_nil.1 (ba_iff.1 c2))) (fun c2 => ?_)
    exact ev_pos (by omega) (h2 hx32 (fun e => c2 (ba_iff.2 (mkB_nil.2 e))))
  · have hx32 : x ≠ 32 := fun e => c (by rw [u8_32.1 e]; rfl)
    refine ev_pos (by omega) (ev_pos (by omega) (ev_pos (by rw [mkB_size, mkB_size]; simp; omega) ?_))
    rw [w64 (by omega) (by omega)]
    refine Ev.bind (l41In_ev _ _ _) (ev_b (fun c1 => ?_) (fun c1 => ?_))
    · have hv : 33 ≤ x.toNat ∧ x.toNat ≤ 126 := by have := of_decide_eq_true c1; omega
      refine ev_split (fun c2 => ?_) (fun c2 => ?_)
      · rw [mkB_size] at c2; simp at c2
        rw [h4 hx32 (fun q => by omega)]; exact ev_ret rfl
      · rw [mkB_size] at c2; simp at c2
        exact h3 hx32 ⟨hv, by omega⟩
    · have hv : ¬ (33 ≤ x.toNat ∧ x.toNat ≤ 126) := by have := of_decide_eq_false c1; omega
      rw [h4 hx32 (fun q => hv q.1)]; exact ev_ret rfl
theorem l43Words_ev (s : ByteArray) (hs : s.size ≤ 1048576) : Ev (fun k => spec_l43Words.f k s) (cutO (wsp (bareL 35 s.data.toList ++ [32]) [] [])) := by
  unfold spec_l43Words.f
  have e32 : (⟨#[32]⟩ : ByteArray) = mkB [32] := rfl
  have z1 : (⟨#[32]⟩ : ByteArray).size = 1 := rfl
  refine ev_pos (by omega) ?_
  rw [← hsh_bare]
  have hS : s ++ (⟨#[32]⟩ : ByteArray) = mkB (s.data.toList ++ [32]) := by rw [← mkB_app, mkB_data]; rfl
  rw [hS]
  have hBl : (s.data.toList ++ [32]).length ≤ 1048577 := by rw [List.length_append, ba_len]; simp; omega
  generalize s.data.toList ++ [32] = B at *
  have hsz : (mkB B).size = B.length := mkB_size _
  have key := loopL (0 : UInt8) B (P := fun i r => i ≤ B.length → ∀ (cur : List UInt8) (out : List ByteArray), cur.length ≤ 24 → out.length ≤ i → Ev (fun k => spec_l43Words.l0 k out (mkB cur) (mkB B) (i : Int)) (cutO (wsp (hsh r) cur out)))
    (fun _ cur out hc ho => by
      refine Ev.step (fun k => by rw [spec_l43Words.l0]) ?_
      exact ev_neg (by omega) (ev_ret rfl)) (fun i x r hi hx hm _ ih _ cur out hc ho => ?_)
  · exact key (by omega) [] [] (by simp) (by simp)
  have hx8 := u8_lt x
  refine Ev.step (fun k => by rw [spec_l43Words.l0]) ?_
  rw [bt_list (mkB B) i (by omega), data_mkB, hx]
  refine ev_pos (by omega) (ev_pos (by omega) ?_)
  rw [hsh]
  refine ev_split (fun c => ?_) (fun c => ?_)
  · rw [if_pos (u8_35.2 (by omega))]
    rw [extract_to, Int.toNat_natCast, data_mkB, e32, mkB_app]
    have hsz2 : (mkB (B.take i ++ [32])).size = i + 1 := by rw [mkB_size]; simp; omega
    refine ev_pos (by omega) (ev_pos (by simp only [mkB_size, List.length_take, List.length_cons, List.length_nil]; omega) ?_)
    have endR : ∀ (o : List ByteArray) (c : ByteArray), Ev (fun k => spec_l43Words.l0 k o c (mkB (B.take i ++ [32])) ((i + 1 : Nat) : Int)) (o, true) := fun o c => by
      refine Ev.step (fun k => by rw [spec_l43Words.l0]) ?_
      exact ev_neg (by omega) (ev_ret rfl)
    have hg : (mkB (B.take i ++ [32])).data.toList.getD i 0 = 32 := by
      rw [data_mkB, List.getD_eq_getElem?_getD, List.getElem?_append_right (by simp; omega)]
      simp [show i - min i B.length = 0 by omega]
    refine words_j (x := 32) (by omega) (by omega) hg hc ho (fun _ hcur => ?_) (fun _ hcur => ?_) (fun h => absurd rfl h) (fun h => absurd rfl h)
    · refine ev_eq (endR out _) ?_
      simp [wsp, hcur, cutO]
    · refine ev_eq (endR _ _) ?_
      simp [wsp, hcur, cutO]
  · rw [if_neg (fun e => c (by rw [u8_35.1 e]; rfl))]
    rw [wsp]
    refine words_j (x := x) (by omega) (by omega) (by rw [data_mkB, hx]) hc ho (fun h hcur => ?_) (fun h hcur => ?_) (fun h hv => ?_) (fun h hv => ?_)
    · rw [if_pos h, if_pos hcur]; exact ih (by omega) cur out hc (by omega)
    · rw [if_pos h, if_neg hcur]; exact ih (by omega) [] _ (by simp) (by simp; omega)
    · rw [if_neg h, if_pos hv]; exact ih (by omega) _ out (by simp; omega) (by omega)
    · rw [if_neg h, if_neg hv]; rfl
theorem cutWords2_ev (s : ByteArray) (hs : s.size ≤ 1048576) : Ev (fun k => impl_cutWords.f k s) (cutO (wsp (bareL 35 s.data.toList ++ [32]) [] [])) := by
  rw [wsp_same]; exact cutWords_ev s hs
/-! ### numbers, read -/
def numG : List UInt8 → Int → Option Int
  | [], n => some n
  | b :: r, n => if 48 ≤ b.toNat ∧ b.toNat ≤ 57 then numG r (10 * n + ((b.toNat : Int) - 48)) else none
theorem numG_pos : ∀ (r : List UInt8) (n v : Int), 0 ≤ n → numG r n = some v → 0 ≤ v
  | [], n, v, h0, h => by injection h with h; omega
  | b :: r, n, v, h0, h => by
    rw [numG] at h
    split at h
    · exact numG_pos r _ v (by omega) h
    · cases h
def numO (s : ByteArray) : Int := if 1 ≤ s.size ∧ s.size ≤ 4 then (if s.size > 1 ∧ s.data.toList.getD 0 0 = 48 then -1 else (numG s.data.toList 0).getD (-1)) else -1
def numR : Option Int → Int × Bool
  | some v => (v, true)
  | none => (0, false)
def decR (s : ByteArray) : Int × Bool := if 0 ≤ numO s then (numO s, true) else (0, false)
def smallAt (i : Nat) (n : Int) : Prop := 0 ≤ n ∧ n ≤ 9999 ∧ (i = 0 → n ≤ 0) ∧ (i = 1 → n ≤ 9) ∧ (i = 2 → n ≤ 99) ∧ (i = 3 → n ≤ 999)
theorem smallAt_step {i : Nat} {n : Int} (h : smallAt i n) (hi : i < 4) {c : Nat} (h0 : 48 ≤ c) (h1 : c ≤ 57) : smallAt (i + 1) (10 * n + ((c : Int) - 48)) := by
  obtain ⟨a, b, c0, c1, c2, c3⟩ := h
  unfold smallAt; omega
theorem u8_48 {b : UInt8} : b = 48 ↔ b.toNat = 48 := ⟨fun h => by subst h; rfl, fun h => UInt8.toNat_inj.1 (by rw [h]; rfl)⟩
theorem u8sub (c : Int) (h0 : 48 ≤ c) (h1 : c ≤ 57) : IntKind.wrap .u8 (c - 48) = c - 48 := by
  have : c = 48 ∨ c = 49 ∨ c = 50 ∨ c = 51 ∨ c = 52 ∨ c = 53 ∨ c = 54 ∨ c = 55 ∨ c = 56 ∨ c = 57 := by omega
  rcases this with rfl | rfl | rfl | rfl | rfl | rfl | rfl | rfl | rfl | rfl <;> decide +kernel
theorem sNum0 (s : ByteArray) (hs : s.size ≤ 4) : Ev (fun k => spec_l43Number.l0 k s 0 0) ((numG s.data.toList 0).getD (-1)) := by
  have hl := ba_len s
  have key := loopL (0 : UInt8) s.data.toList (P := fun i r => ∀ n : Int, smallAt i n → Ev (fun k => spec_l43Number.l0 k s n (i : Int)) ((numG r n).getD (-1)))
    (fun n _ => by refine Ev.step (fun k => by rw [spec_l43Number.l0]) ?_; exact ev_neg (by omega) (ev_ret rfl)) (fun i x r hi hx hm _ ih n hn => ?_)
  · exact key 0 (by unfold smallAt; omega)
  have hx8 := u8_lt x
  refine Ev.step (fun k => by rw [spec_l43Number.l0]) (ev_pos (by omega) (ev_pos (by omega) ?_))
  rw [bt_list s i (by omega), hx, wsucc hi (by omega), numG]
  refine ev_split (fun c => ?_) (fun c => ev_split (fun c2 => ?_) (fun c2 => ?_))
  · rw [if_neg (by omega)]; exact ev_ret rfl
  · rw [if_neg (by omega)]; exact ev_ret rfl
  · rw [if_pos ⟨by omega, by omega⟩]
    have hn' := smallAt_step hn (by omega) (c := x.toNat) (by omega) (by omega)
    obtain ⟨a, b, _⟩ := hn
    rw [w64 (x := n * 10) (by omega) (by omega), w64 (x := (x.toNat : Int)) (by omega) (by omega), w64 (x := n * 10 + (x.toNat : Int)) (by omega) (by omega), w64 (x := n * 10 + (x.toNat : Int) - 48) (by omega) (by omega), show n * 10 + (x.toNat : Int) - 48 = 10 * n + ((x.toNat : Int) - 48) by omega]
    exact ih _ hn'
theorem sNum1 (s : ByteArray) (hs : s.size ≤ 4) : Ev (fun k => spec_l43Number.l1 k s 0 0) ((numG s.data.toList 0).getD (-1)) := by
  have hl := ba_len s
  have key := loopL (0 : UInt8) s.data.toList (P := fun i r => ∀ n : Int, smallAt i n → Ev (fun k => spec_l43Number.l1 k s n (i : Int)) ((numG r n).getD (-1)))
    (fun n _ => by refine Ev.step (fun k => by rw [spec_l43Number.l1]) ?_; exact ev_neg (by omega) (ev_ret rfl)) (fun i x r hi hx hm _ ih n hn => ?_)
  · exact key 0 (by unfold smallAt; omega)
  have hx8 := u8_lt x
  refine Ev.step (fun k => by rw [spec_l43Number.l1]) (ev_pos (by omega) (ev_pos (by omega) ?_))
  rw [bt_list s i (by omega), hx, wsucc hi (by omega), numG]
  refine ev_split (fun c => ?_) (fun c => ev_split (fun c2 => ?_) (fun c2 => ?_))
  · rw [if_neg (by omega)]; exact ev_ret rfl
  · rw [if_neg (by omega)]; exact ev_ret rfl
  · rw [if_pos ⟨by omega, by omega⟩]
    have hn' := smallAt_step hn (by omega) (c := x.toNat) (by omega) (by omega)
    obtain ⟨a, b, _⟩ := hn
    rw [w64 (x := n * 10) (by omega) (by omega), w64 (x := (x.toNat : Int)) (by omega) (by omega), w64 (x := n * 10 + (x.toNat : Int)) (by omega) (by omega), w64 (x := n * 10 + (x.toNat : Int) - 48) (by omega) (by omega), show n * 10 + (x.toNat : Int) - 48 = 10 * n + ((x.toNat : Int) - 48) by omega]
    exact ih _ hn'
theorem l43Number_ev (s : ByteArray) : Ev (fun k => spec_l43Number.f k s) (numO s) := by
  unfold spec_l43Number.f numO
  refine Ev.bind (l41In_ev _ _ _) (ev_b (fun c => ?_) (fun c => ?_))
  · have := of_decide_eq_true c
    rw [if_pos (by omega)]
    refine ev_split (fun c1 => ev_pos (by omega) ?_) (fun c1 => ?_)
    · have hb : bt s 0 = ((s.data.toList.getD 0 0).toNat : Int) := bt_list s 0 (by omega)
      rw [hb]
      refine ev_split (fun c2 => ?_) (fun c2 => ?_)
      · rw [if_pos ⟨by omega, u8_48.2 (by omega)⟩]; exact ev_ret rfl
      · rw [if_neg (fun q => c2 (by rw [u8_48.1 q.2]; rfl))]; exact sNum0 s (by omega)
    · rw [if_neg (fun q => by omega)]; exact sNum1 s (by omega)
  · have := of_decide_eq_false c
    rw [if_neg (by omega)]; exact ev_ret rfl
theorem iNum0 (s : ByteArray) (hs : s.size ≤ 4) : Ev (fun k => impl_decimal.l0 k s 0 0) (numR (numG s.data.toList 0)) := by
  have hl := ba_len s
  have key := loopL (0 : UInt8) s.data.toList (P := fun i r => ∀ n : Int, smallAt i n → Ev (fun k => impl_decimal.l0 k s n (i : Int)) (numR (numG r n)))
    (fun n _ => by refine Ev.step (fun k => by rw [impl_decimal.l0]) ?_; exact ev_neg (by omega) (ev_ret rfl)) (fun i x r hi hx hm _ ih n hn => ?_)
  · exact key 0 (by unfold smallAt; omega)
  have hx8 := u8_lt x
  refine Ev.step (fun k => by rw [impl_decimal.l0]) (ev_pos (by omega) (ev_pos (by omega) ?_))
  rw [bt_list s i (by omega), hx, wsucc hi (by omega), numG]
  refine ev_split (fun c => ?_) (fun c => ev_split (fun c2 => ?_) (fun c2 => ?_))
  · rw [if_neg (by omega)]; exact ev_ret rfl
  · rw [if_neg (by omega)]; exact ev_ret rfl
  · rw [if_pos ⟨by omega, by omega⟩]
    have hn' := smallAt_step hn (by omega) (c := x.toNat) (by omega) (by omega)
    obtain ⟨a, b, _⟩ := hn
    rw [u8sub _ (by omega) (by omega), w64 (x := 10 * n) (by omega) (by omega), w64 (x := (x.toNat : Int) - 48) (by omega) (by omega), w64 (x := 10 * n + ((x.toNat : Int) - 48)) (by omega) (by omega)]
    exact ih _ hn'
theorem iNum1 (s : ByteArray) (hs : s.size ≤ 4) : Ev (fun k => impl_decimal.l1 k s 0 0) (numR (numG s.data.toList 0)) := by
  have hl := ba_len s
  have key := loopL (0 : UInt8) s.data.toList (P := fun i r => ∀ n : Int, smallAt i n → Ev (fun k => impl_decimal.l1 k s n (i : Int)) (numR (numG r n)))
    (fun n _ => by refine Ev.step (fun k => by rw [impl_decimal.l1]) ?_; exact ev_neg (by omega) (ev_ret rfl)) (fun i x r hi hx hm _ ih n hn => ?_)
  · exact key 0 (by unfold smallAt; omega)
  have hx8 := u8_lt x
  refine Ev.step (fun k => by rw [impl_decimal.l1]) (ev_pos (by omega) (ev_pos (by omega) ?_))
  rw [bt_list s i (by omega), hx, wsucc hi (by omega), numG]
  refine ev_split (fun c => ?_) (fun c => ev_split (fun c2 => ?_) (fun c2 => ?_))
  · rw [if_neg (by omega)]; exact ev_ret rfl
  · rw [if_neg (by omega)]; exact ev_ret rfl
  · rw [if_pos ⟨by omega, by omega⟩]
    have hn' := smallAt_step hn (by omega) (c := x.toNat) (by omega) (by omega)
    obtain ⟨a, b, _⟩ := hn
    rw [u8sub _ (by omega) (by omega), w64 (x := 10 * n) (by omega) (by omega), w64 (x := (x.toNat : Int) - 48) (by omega) (by omega), w64 (x := 10 * n + ((x.toNat : Int) - 48)) (by omega) (by omega)]
    exact ih _ hn'
theorem numR_get (o : Option Int) (h : ∀ v, o = some v → 0 ≤ v) : numR o = if 0 ≤ o.getD (-1) then (o.getD (-1), true) else (0, false) := by
  cases o with
  | none => rfl
  | some v => have := h v rfl; simp [numR, this]
theorem dec_ev (s : ByteArray) : Ev (fun k => impl_decimal.f k s) (decR s) := by
  unfold impl_decimal.f decR numO
  have hp : ∀ v, numG s.data.toList 0 = some v → 0 ≤ v := fun v h => numG_pos _ _ _ (by omega) h
  refine ev_split (fun c => ?_) (fun c => ev_split (fun c1 => ?_) (fun c1 => ?_))
  · rw [if_neg (by omega)]; exact ev_ret rfl
  · rw [if_neg (by omega)]; exact ev_ret rfl
  · rw [if_pos (show 1 ≤ s.size ∧ s.size ≤ 4 by omega)]
    refine ev_split (fun c2 => ev_pos (by omega) ?_) (fun c2 => ?_)
    · have hb : bt s 0 = ((s.data.toList.getD 0 0).toNat : Int) := bt_list s 0 (by omega)
      rw [hb]
      refine ev_split (fun c3 => ?_) (fun c3 => ?_)
      · have e : (if s.size > 1 ∧ s.data.toList.getD 0 0 = 48 then (-1 : Int) else (numG s.data.toList 0).getD (-1)) = -1 := if_pos ⟨by omega, u8_48.2 (by omega)⟩
        rw [e]; exact ev_ret (by simp)
      · have e : (if s.size > 1 ∧ s.data.toList.getD 0 0 = 48 then (-1 : Int) else (numG s.data.toList 0).getD (-1)) = (numG s.data.toList 0).getD (-1) := if_neg (fun q => c3 (by rw [u8_48.1 q.2]; rfl))
        rw [e, ← numR_get _ hp]; exact iNum0 s (by omega)
    · have e : (if s.size > 1 ∧ s.data.toList.getD 0 0 = 48 then (-1 : Int) else (numG s.data.toList 0).getD (-1)) = (numG s.data.toList 0).getD (-1) := if_neg (fun q => by omega)
      rw [e, ← numR_get _ hp]; exact iNum1 s (by omega)
theorem decR_ok {s : ByteArray} : (decR s).2 = true ↔ 0 ≤ numO s := by
  unfold decR
  split <;> simp_all
theorem decR_val {s : ByteArray} (h : 0 ≤ numO s) : (decR s).1 = numO s := by unfold decR; rw [if_pos h]
/-! ### a phase, read -/
def gw (l : List ByteArray) (i : Nat) : ByteArray := l.getD i ByteArray.empty
theorem gw_end {l : List ByteArray} {i : Nat} (h : l.length ≤ i) : gw l i = (⟨#[]⟩ : ByteArray) := by
  unfold gw; rw [List.getD_eq_getElem?_getD, List.getElem?_eq_none h]; rfl
theorem gw_drop (l : List ByteArray) (n i : Nat) : rdOf ByteArray.empty (l.drop n) (i : Int) = gw l (n + i) := by
  rw [rdOf_nat]; unfold gw
  rw [List.getD_eq_getElem?_getD, List.getD_eq_getElem?_getD, List.getElem?_drop]
theorem next_eq (l : List ByteArray) (n : Nat) (hl : l.length ≤ 1000000) : impl_phaseOf_1.f (l.drop n) = some (gw l n, l.drop (n + 1)) := by
  unfold impl_phaseOf_1.f
  have h0 : rdOf ByteArray.empty (l.drop n) 0 = gw l n := gw_drop l n 0
  have h1 : (l.drop n).drop (1 : Int).toNat = l.drop (n + 1) := by rw [List.drop_drop]; rfl
  rw [h0, h1]
  by_cases c : ((l.drop n).length : Int) = 0
  · rw [if_pos c]
    rw [List.length_drop] at c
    rw [gw_end (by omega), List.drop_eq_nil_iff.2 (by omega : l.length ≤ n), List.drop_eq_nil_iff.2 (by omega : l.length ≤ n + 1)]
  · rw [if_neg c, if_pos (by omega), if_pos (by omega)]
def wWithin : ByteArray := (⟨#[119, 105, 116, 104, 105, 110]⟩ : ByteArray)
def wThen : ByteArray := (⟨#[116, 104, 101, 110]⟩ : ByteArray)
def wElse : ByteArray := (⟨#[101, 108, 115, 101]⟩ : ByteArray)
def mTT (l : List ByteArray) (q : Int) : S_impl_RecPhase := ⟨gw l 0, q, gw l 2, gw l 3, numO (gw l 4), numO (gw l 6), gw l 8, gw l 10⟩
def mFT (l : List ByteArray) (q : Int) : S_impl_RecPhase := ⟨gw l 0, q, gw l 2, (⟨#[]⟩ : ByteArray), numO (gw l 3), numO (gw l 5), gw l 7, gw l 9⟩
def mFF (l : List ByteArray) (q : Int) : S_impl_RecPhase := ⟨gw l 0, q, gw l 2, (⟨#[]⟩ : ByteArray), 0, numO (gw l 4), gw l 6, gw l 8⟩
structure OkX (l : List ByteArray) (o : Nat) (p : S_impl_RecPhase) : Prop where
  a : gw l o = wWithin
  b : gw l (o + 2) = wThen
  c : gw l (o + 4) = wElse
  n : l.length = o + 6
  p : phaseB p = true
abbrev Tup := ByteArray × Int × ByteArray × ByteArray × Int × Int × ByteArray × ByteArray × Bool
def tupP (p : S_impl_RecPhase) (b : Bool) : Tup := (p.f0, p.f1, p.f2, p.f3, p.f4, p.f5, p.f6, p.f7, b)
def flagT (t : Tup) : Bool := t.2.2.2.2.2.2.2.2
def Res (O : Prop) (p : S_impl_RecPhase) (t : Tup) : Prop := (O → t = tupP p true) ∧ (¬ O → flagT t = false)
theorem res_no {O : Prop} {p : S_impl_RecPhase} {t : Tup} (h : ¬ O) (k : flagT t = false) : Res O p t := ⟨fun q => absurd q h, fun _ => k⟩
theorem phaseB_within {x : S_impl_RecPhase} (h : phaseB x = true) : 1 ≤ x.f5 ∧ x.f7 ≠ (⟨#[]⟩ : ByteArray) := by
  unfold phaseB at h
  simp only [Bool.and_eq_true] at h
  obtain ⟨_, h5, _, _, h7⟩ := h
  refine ⟨(of_decide_eq_true h5).1, fun e => ?_⟩
  rw [e] at h7
  unfold nameB at h7
  simp at h7
  exact absurd h7.1.1 (by decide)
theorem phaseB_num {x : S_impl_RecPhase} (h : phaseB x = true) (hk : x.f1 = 1 ∨ x.f1 = 2 ∨ x.f1 = 3) : 1 ≤ x.f4 := by
  unfold phaseB at h
  simp only [Bool.and_eq_true] at h
  obtain ⟨_, _, ⟨_, ha⟩, _⟩ := h
  unfold argsB at ha
  split at ha
  · simp only [Bool.and_eq_true] at ha; exact (of_decide_eq_true ha.2).1
  · split at ha
    · simp only [Bool.and_eq_true] at ha; exact (of_decide_eq_true ha.2.2).1
    · split at ha
      · simp only [Bool.and_eq_true] at ha; exact (of_decide_eq_true ha.2).1
      · omega
theorem phaseB_n0 {x : S_impl_RecPhase} (h : phaseB x = true) : 1 ≤ x.f5 := (phaseB_within h).1
theorem gw_size (l : List ByteArray) (hz : ∀ w ∈ l, w.size ≤ 1000000) (i : Nat) : (gw l i).size ≤ 140737488351232 := by
  by_cases c : i < l.length
  · have := hz _ (mem_getD ByteArray.empty l i c)
    unfold gw; omega
  · rw [gw_end (by omega)]; decide
section
variable (l : List ByteArray) (hl : l.length ≤ 1000000) (hz : ∀ w ∈ l, w.size ≤ 1000000) (h2 : 2 ≤ l.length)
include hl hz h2
theorem phTT (q : Int) (hq : q = 1 ∨ q = 2) : ExP (fun k => impl_phaseOf.j6 k l true true q) (Res (OkX l 5 (mTT l q)) (mTT l q)) := by
  have e2 : (2 : Int).toNat = 2 := rfl
  have nn : OkX l 5 (mTT l q) → 0 ≤ numO (gw l 4) ∧ 0 ≤ numO (gw l 6) := fun h => by
    have a1 := phaseB_num h.p (by rcases hq with e | e <;> simp [mTT, e])
    have a2 := phaseB_n0 h.p
    simp only [mTT] at a1 a2
    omega
  refine exp_step (fun k => by rw [impl_phaseOf.j6]) (exp_pos (by omega) ?_)
  rw [e2]
  refine exp_let (next_eq l 2 hl) (exp_pos rfl (exp_let (next_eq l 3 hl) (exp_pos rfl (exp_let (next_eq l 4 hl) (exp_ev (dec_ev _) (exp_ite (fun n4 => ?_) (fun n4 => ?_)))))))
  · have n4' := decR_ok.1 n4
    refine exp_let (next_eq l 5 hl) (exp_let (next_eq l 6 hl) (exp_ev (dec_ev _) (exp_ite (fun a5 => exp_ite (fun n6 => ?_) (fun n6 => ?_)) (fun a5 => ?_))))
    · have n6' := decR_ok.1 n6
      refine exp_let (next_eq l 7 hl) ?_
      refine exp_step (fun k => by rw [impl_phaseOf.j0]) (exp_let (next_eq l 8 hl) (exp_ite (fun a7 => ?_) (fun a7 => ?_)))
      · refine exp_let (next_eq l 9 hl) (exp_let (next_eq l 10 hl) (exp_ite (fun a9 => exp_ite (fun a11 => ?_) (fun a11 => ?_)) (fun a9 => ?_)))
        · refine exp_ev (implPhase_ev (mTT l q) ⟨gw_size l hz _, gw_size l hz _, gw_size l hz _, gw_size l hz _, gw_size l hz _⟩ |> fun h => by
            have v4 := decR_val n4'; have v6 := decR_val n6'
            dsimp only at v4 v6 ⊢
            rw [v4, v6]; exact h) (exp_ret ?_)
          have v4 := decR_val n4'; have v6 := decR_val n6'
          dsimp only at v4 v6 a11 ⊢
          rw [v4, v6]
          rw [List.length_drop] at a11
          cases hp : phaseB (mTT l q) with
          | false => exact res_no (fun h => by rw [h.p] at hp; cases hp) rfl
          | true =>
            have hlen : l.length = 11 := by
              have := (phaseB_within hp).2
              simp only [mTT] at this
              by_cases c : 11 ≤ l.length
              · omega
              · exact absurd (gw_end (by omega)) this
            have O : OkX l 5 (mTT l q) := ⟨ba_iff.1 a5, ba_iff.1 (of_decide_eq_true a7), ba_iff.1 a9, hlen, hp⟩
            exact ⟨fun _ => rfl, fun h => absurd O h⟩
        · exact exp_ret (res_no (fun h => a11 (by dsimp only; rw [List.length_drop]; have := h.n; omega)) rfl)
        · exact exp_ret (res_no (fun h => a9 (ba_iff.2 h.c)) rfl)
      · exact exp_let (next_eq l 9 hl) (exp_ret (res_no (fun h => a7 (decide_eq_true (ba_iff.2 h.b))) rfl))
    · refine exp_step (fun k => by rw [impl_phaseOf.j0]) ?_
      refine exp_let (next_eq l 7 hl) ?_
      refine exp_neg Bool.false_ne_true ?_
      refine exp_let (next_eq l 8 hl) ?_
      exact exp_ret (res_no (fun h => n6 (decR_ok.2 (nn h).2)) rfl)
    · refine exp_step (fun k => by rw [impl_phaseOf.j0]) ?_
      refine exp_let (next_eq l 7 hl) ?_
      refine exp_neg Bool.false_ne_true ?_
      refine exp_let (next_eq l 8 hl) ?_
      exact exp_ret (res_no (fun h => a5 (ba_iff.2 h.a)) rfl)
  · refine exp_let (next_eq l 5 hl) ?_
    refine exp_ev (dec_ev _) ?_
    refine exp_step (fun k => by rw [impl_phaseOf.j1]) ?_
    refine exp_let (next_eq l 6 hl) ?_
    refine exp_let (next_eq l 7 hl) ?_
    exact exp_ret (res_no (fun h => n4 (decR_ok.2 (nn h).1)) rfl)
theorem phFT (q : Int) (hq : q = 3) : ExP (fun k => impl_phaseOf.j6 k l false true q) (Res (OkX l 4 (mFT l q)) (mFT l q)) := by
  have e2 : (2 : Int).toNat = 2 := rfl
  have nn : OkX l 4 (mFT l q) → 0 ≤ numO (gw l 3) ∧ 0 ≤ numO (gw l 5) := fun h => by
    have a1 := phaseB_num h.p (by simp [mFT, hq])
    have a2 := phaseB_n0 h.p
    simp only [mFT] at a1 a2
    omega
  refine exp_step (fun k => by rw [impl_phaseOf.j6]) (exp_pos (by omega) ?_)
  rw [e2]
  refine exp_let (next_eq l 2 hl) (exp_neg (by simp) (exp_pos rfl (exp_let (next_eq l 3 hl) (exp_ev (dec_ev _) (exp_ite (fun n4 => ?_) (fun n4 => ?_))))))
  · have n4' := decR_ok.1 n4
    refine exp_let (next_eq l 4 hl) (exp_let (next_eq l 5 hl) (exp_ev (dec_ev _) (exp_ite (fun a5 => exp_ite (fun n6 => ?_) (fun n6 => ?_)) (fun a5 => ?_))))
    · have n6' := decR_ok.1 n6
      refine exp_let (next_eq l 6 hl) ?_
      refine exp_step (fun k => by rw [impl_phaseOf.j3]) (exp_let (next_eq l 7 hl) (exp_ite (fun a7 => ?_) (fun a7 => ?_)))
      · refine exp_let (next_eq l 8 hl) (exp_let (next_eq l 9 hl) (exp_ite (fun a9 => exp_ite (fun a11 => ?_) (fun a11 => ?_)) (fun a9 => ?_)))
        · refine exp_ev (implPhase_ev (mFT l q) ⟨gw_size l hz _, gw_size l hz _, (by simp only [mFT]; decide), gw_size l hz _, gw_size l hz _⟩ |> fun h => by
            have v4 := decR_val n4'; have v6 := decR_val n6'
            dsimp only at v4 v6 ⊢
            rw [v4, v6]; exact h) (exp_ret ?_)
          have v4 := decR_val n4'; have v6 := decR_val n6'
          dsimp only at v4 v6 a11 ⊢
          rw [v4, v6]
          rw [List.length_drop] at a11
          cases hp : phaseB (mFT l q) with
          | false => exact res_no (fun h => by rw [h.p] at hp; cases hp) rfl
          | true =>
            have hlen : l.length = 10 := by
              have := (phaseB_within hp).2
              simp only [mFT] at this
              by_cases c : 10 ≤ l.length
              · omega
              · exact absurd (gw_end (by omega)) this
            have O : OkX l 4 (mFT l q) := ⟨ba_iff.1 a5, ba_iff.1 (of_decide_eq_true a7), ba_iff.1 a9, hlen, hp⟩
            exact ⟨fun _ => rfl, fun h => absurd O h⟩
        · exact exp_ret (res_no (fun h => a11 (by dsimp only; rw [List.length_drop]; have := h.n; omega)) rfl)
        · exact exp_ret (res_no (fun h => a9 (ba_iff.2 h.c)) rfl)
      · exact exp_let (next_eq l 8 hl) (exp_ret (res_no (fun h => a7 (decide_eq_true (ba_iff.2 h.b))) rfl))
    · refine exp_step (fun k => by rw [impl_phaseOf.j3]) ?_
      refine exp_let (next_eq l 6 hl) ?_
      refine exp_neg Bool.false_ne_true ?_
      refine exp_let (next_eq l 7 hl) ?_
      exact exp_ret (res_no (fun h => n6 (decR_ok.2 (nn h).2)) rfl)
    · refine exp_step (fun k => by rw [impl_phaseOf.j3]) ?_
      refine exp_let (next_eq l 6 hl) ?_
      refine exp_neg Bool.false_ne_true ?_
      refine exp_let (next_eq l 7 hl) ?_
      exact exp_ret (res_no (fun h => a5 (ba_iff.2 h.a)) rfl)
  · refine exp_let (next_eq l 4 hl) ?_
    refine exp_ev (dec_ev _) ?_
    refine exp_step (fun k => by rw [impl_phaseOf.j4]) ?_
    refine exp_let (next_eq l 5 hl) ?_
    refine exp_let (next_eq l 6 hl) ?_
    exact exp_ret (res_no (fun h => n4 (decR_ok.2 (nn h).1)) rfl)
theorem phFF (q : Int) : ExP (fun k => impl_phaseOf.j6 k l false false q) (Res (OkX l 3 (mFF l q)) (mFF l q)) := by
  have e2 : (2 : Int).toNat = 2 := rfl
  have nn : OkX l 3 (mFF l q) → 0 ≤ numO (gw l 4) := fun h => by
    have a2 := phaseB_n0 h.p
    simp only [mFF] at a2
    omega
  refine exp_step (fun k => by rw [impl_phaseOf.j6]) (exp_pos (by omega) ?_)
  rw [e2]
  refine exp_let (next_eq l 2 hl) (exp_neg (by simp) (exp_neg (by simp) (exp_let (next_eq l 3 hl) (exp_let (next_eq l 4 hl) (exp_ev (dec_ev _) (exp_ite (fun a5 => exp_ite (fun n6 => ?_) (fun n6 => ?_)) (fun a5 => ?_)))))))
  · have n6' := decR_ok.1 n6
    refine exp_let (next_eq l 5 hl) ?_
    refine exp_step (fun k => by rw [impl_phaseOf.j5]) (exp_let (next_eq l 6 hl) (exp_ite (fun a7 => ?_) (fun a7 => ?_)))
    · refine exp_let (next_eq l 7 hl) (exp_let (next_eq l 8 hl) (exp_ite (fun a9 => exp_ite (fun a11 => ?_) (fun a11 => ?_)) (fun a9 => ?_)))
      · refine exp_ev (implPhase_ev (mFF l q) ⟨gw_size l hz _, gw_size l hz _, (by simp only [mFF]; decide), gw_size l hz _, gw_size l hz _⟩ |> fun h => by
          have v6 := decR_val n6'
          dsimp only at v6 ⊢
          rw [v6]; exact h) (exp_ret ?_)
        have v6 := decR_val n6'
        dsimp only at v6 a11 ⊢
        rw [v6]
        rw [List.length_drop] at a11
        cases hp : phaseB (mFF l q) with
        | false => exact res_no (fun h => by rw [h.p] at hp; cases hp) rfl
        | true =>
          have hlen : l.length = 9 := by
            have := (phaseB_within hp).2
            simp only [mFF] at this
            by_cases c : 9 ≤ l.length
            · omega
            · exact absurd (gw_end (by omega)) this
          have O : OkX l 3 (mFF l q) := ⟨ba_iff.1 a5, ba_iff.1 (of_decide_eq_true a7), ba_iff.1 a9, hlen, hp⟩
          exact ⟨fun _ => rfl, fun h => absurd O h⟩
      · exact exp_ret (res_no (fun h => a11 (by dsimp only; rw [List.length_drop]; have := h.n; omega)) rfl)
      · exact exp_ret (res_no (fun h => a9 (ba_iff.2 h.c)) rfl)
    · exact exp_let (next_eq l 7 hl) (exp_ret (res_no (fun h => a7 (decide_eq_true (ba_iff.2 h.b))) rfl))
  · refine exp_step (fun k => by rw [impl_phaseOf.j5]) ?_
    refine exp_let (next_eq l 5 hl) ?_
    refine exp_neg Bool.false_ne_true ?_
    refine exp_let (next_eq l 6 hl) ?_
    exact exp_ret (res_no (fun h => n6 (decR_ok.2 (nn h))) rfl)
  · refine exp_step (fun k => by rw [impl_phaseOf.j5]) ?_
    refine exp_let (next_eq l 5 hl) ?_
    refine exp_neg Bool.false_ne_true ?_
    refine exp_let (next_eq l 6 hl) ?_
    exact exp_ret (res_no (fun h => a5 (ba_iff.2 h.a)) rfl)
end
/-! ### what a line says -/
def wFill : ByteArray := (⟨#[102, 105, 108, 108]⟩ : ByteArray)
def wMove : ByteArray := (⟨#[109, 111, 118, 101]⟩ : ByteArray)
def wHold : ByteArray := (⟨#[104, 111, 108, 100]⟩ : ByteArray)
def wClean : ByteArray := (⟨#[99, 108, 101, 97, 110]⟩ : ByteArray)
def wTest : ByteArray := (⟨#[116, 101, 115, 116]⟩ : ByteArray)
def kO (l : List ByteArray) : Prop × S_impl_RecPhase :=
  if gw l 1 = wFill then (OkX l 5 (mTT l 1), mTT l 1) else if gw l 1 = wMove then (OkX l 5 (mTT l 2), mTT l 2) else if gw l 1 = wHold then (OkX l 4 (mFT l 3), mFT l 3) else
  if gw l 1 = wClean then (OkX l 3 (mFF l 4), mFF l 4) else if gw l 1 = wTest then (OkX l 3 (mFF l 5), mFF l 5) else (False, z_impl_RecPhase)
theorem kO_len {l : List ByteArray} (h : (kO l).1) : 9 ≤ l.length := by
  unfold kO at h
  split at h
  · have := h.n; omega
  · split at h
    · have := h.n; omega
    · split at h
      · have := h.n; omega
      · split at h
        · have := h.n; omega
        · split at h
          · have := h.n; omega
          · exact h.elim
theorem kO_p {l : List ByteArray} (h : (kO l).1) : phaseB (kO l).2 = true := by
  unfold kO at h ⊢
  split at h
  · rename_i c; rw [if_pos c]; exact h.p
  · rename_i c; rw [if_neg c]
    split at h
    · rename_i c; rw [if_pos c]; exact h.p
    · rename_i c; rw [if_neg c]
      split at h
      · rename_i c; rw [if_pos c]; exact h.p
      · rename_i c; rw [if_neg c]
        split at h
        · rename_i c; rw [if_pos c]; exact h.p
        · rename_i c; rw [if_neg c]
          split at h
          · rename_i c; rw [if_pos c]; exact h.p
          · exact h.elim
theorem gw_rd (l : List ByteArray) (i : Nat) : rdOf ByteArray.empty l (i : Int) = gw l i := rdOf_nat _ _ _
theorem phaseOf_ok (l : List ByteArray) (hl : l.length ≤ 1000000) (hz : ∀ w ∈ l, w.size ≤ 1000000) : ExP (fun k => impl_phaseOf.f k l) (Res (kO l).1 (kO l).2) := by
  unfold impl_phaseOf.f
  refine exp_ite (fun c => exp_ret (res_no (fun h => by have := kO_len h; omega) rfl)) (fun c => exp_pos (by omega) (exp_pos (by omega) ?_))
  have e1 : rdOf ByteArray.empty l 1 = gw l 1 := gw_rd l 1
  rw [e1]
  refine exp_ite (fun c1 => ?_) (fun c1 => exp_ite (fun c2 => ?_) (fun c2 => exp_ite (fun c3 => ?_) (fun c3 => exp_ite (fun c4 => ?_) (fun c4 => exp_ite (fun c5 => ?_) (fun c5 => ?_)))))
  · have k1 : gw l 1 = wFill := ba_iff.1 c1
    rw [show kO l = (OkX l 5 (mTT l 1), mTT l 1) by unfold kO; rw [if_pos k1]]
    exact phTT l hl hz (by omega) 1 (.inl rfl)
  · have k1 : ¬ gw l 1 = wFill := fun e => c1 (ba_iff.2 e)
    have k2 : gw l 1 = wMove := ba_iff.1 c2
    rw [show kO l = (OkX l 5 (mTT l 2), mTT l 2) by unfold kO; rw [if_neg k1, if_pos k2]]
    exact phTT l hl hz (by omega) 2 (.inr rfl)
  · have k1 : ¬ gw l 1 = wFill := fun e => c1 (ba_iff.2 e)
    have k2 : ¬ gw l 1 = wMove := fun e => c2 (ba_iff.2 e)
    have k3 : gw l 1 = wHold := ba_iff.1 c3
    rw [show kO l = (OkX l 4 (mFT l 3), mFT l 3) by unfold kO; rw [if_neg k1, if_neg k2, if_pos k3]]
    exact phFT l hl hz (by omega) 3 rfl
  · have k1 : ¬ gw l 1 = wFill := fun e => c1 (ba_iff.2 e)
    have k2 : ¬ gw l 1 = wMove := fun e => c2 (ba_iff.2 e)
    have k3 : ¬ gw l 1 = wHold := fun e => c3 (ba_iff.2 e)
    have k4 : gw l 1 = wClean := ba_iff.1 c4
    rw [show kO l = (OkX l 3 (mFF l 4), mFF l 4) by unfold kO; rw [if_neg k1, if_neg k2, if_neg k3, if_pos k4]]
    exact phFF l hl hz (by omega) 4
  · have k1 : ¬ gw l 1 = wFill := fun e => c1 (ba_iff.2 e)
    have k2 : ¬ gw l 1 = wMove := fun e => c2 (ba_iff.2 e)
    have k3 : ¬ gw l 1 = wHold := fun e => c3 (ba_iff.2 e)
    have k4 : ¬ gw l 1 = wClean := fun e => c4 (ba_iff.2 e)
    have k5 : gw l 1 = wTest := ba_iff.1 c5
    rw [show kO l = (OkX l 3 (mFF l 5), mFF l 5) by unfold kO; rw [if_neg k1, if_neg k2, if_neg k3, if_neg k4, if_pos k5]]
    exact phFF l hl hz (by omega) 5
  · have k1 : ¬ gw l 1 = wFill := fun e => c1 (ba_iff.2 e)
    have k2 : ¬ gw l 1 = wMove := fun e => c2 (ba_iff.2 e)
    have k3 : ¬ gw l 1 = wHold := fun e => c3 (ba_iff.2 e)
    have k4 : ¬ gw l 1 = wClean := fun e => c4 (ba_iff.2 e)
    have k5 : ¬ gw l 1 = wTest := fun e => c5 (ba_iff.2 e)
    rw [show kO l = (False, z_impl_RecPhase) by unfold kO; rw [if_neg k1, if_neg k2, if_neg k3, if_neg k4, if_neg k5]]
    exact exp_ret (res_no (fun h => h) rfl)
/-! ### the same, by the reference -/
theorem specJ0 (p : S_impl_RecPhase) (b : Bool) : Ev (fun k => spec_l43Phase.j0 k b p.f0 p.f1 p.f2 p.f3 p.f4 p.f5 p.f6 p.f7) (tupP p (b && phaseB p)) := by
  refine Ev.step (fun k => by rw [spec_l43Phase.j0]) ?_
  cases b
  · exact ev_neg Bool.false_ne_true (ev_ret rfl)
  · exact ev_pos rfl (Ev.bind (specPhase_ev p) (ev_ret rfl))
theorem tail_ev (l : List ByteArray) (o : Nat) (p : S_impl_RecPhase) (hn : l.length = o + 6) : Ev (fun k => spec_l43Tail.f k p.f0 p.f1 p.f2 p.f3 p.f4 p.f5 p.f6 p.f7 (l.drop o))
    (if gw l o = wWithin ∧ gw l (o + 2) = wThen ∧ gw l (o + 4) = wElse then tupP ⟨p.f0, p.f1, p.f2, p.f3, p.f4, numO (gw l (o + 1)), gw l (o + 3), gw l (o + 5)⟩ true else tupP p false) := by
  unfold spec_l43Tail.f
  have hd : (l.drop o).length = 6 := by rw [List.length_drop]; omega
  have d0 : rdOf ByteArray.empty (l.drop o) 0 = gw l o := gw_drop l o 0
  have d1 : rdOf ByteArray.empty (l.drop o) 1 = gw l (o + 1) := gw_drop l o 1
  have d2 : rdOf ByteArray.empty (l.drop o) 2 = gw l (o + 2) := gw_drop l o 2
  have d3 : rdOf ByteArray.empty (l.drop o) 3 = gw l (o + 3) := gw_drop l o 3
  have d4 : rdOf ByteArray.empty (l.drop o) 4 = gw l (o + 4) := gw_drop l o 4
  have d5 : rdOf ByteArray.empty (l.drop o) 5 = gw l (o + 5) := gw_drop l o 5
  rw [hd, d0, d1, d2, d3, d4, d5]
  refine ev_pos rfl (ev_pos (by omega) (ev_split (fun a => ev_pos (by omega) (ev_split (fun b => ev_pos (by omega) (ev_split (fun c => ev_pos (by omega) (Ev.bind (l43Number_ev _) (ev_pos (by omega) (ev_pos (by omega) (ev_ret ?_))))) (fun c => ev_ret ?_))) (fun b => ev_ret ?_))) (fun a => ev_ret ?_)))
  · rw [if_pos ⟨ba_iff.1 a, ba_iff.1 b, ba_iff.1 c⟩]; rfl
  · rw [if_neg (fun q => c (ba_iff.2 q.2.2))]; rfl
  · rw [if_neg (fun q => b (ba_iff.2 q.2.1))]; rfl
  · rw [if_neg (fun q => a (ba_iff.2 q.1))]; rfl
/-- behind the tail -/
theorem fin_ok (l : List ByteArray) (o : Nat) (p p' : S_impl_RecPhase) (hn : l.length = o + 6) (hp : p' = ⟨p.f0, p.f1, p.f2, p.f3, p.f4, numO (gw l (o + 1)), gw l (o + 3), gw l (o + 5)⟩) :
    ExP (fun k => (spec_l43Tail.f k p.f0 p.f1 p.f2 p.f3 p.f4 p.f5 p.f6 p.f7 (l.drop o)).bind fun t => spec_l43Phase.j0 k t.2.2.2.2.2.2.2.2 t.1 t.2.1 t.2.2.1 t.2.2.2.1 t.2.2.2.2.1 t.2.2.2.2.2.1 t.2.2.2.2.2.2.1 t.2.2.2.2.2.2.2.1) (Res (OkX l o p') p') := by
  refine exp_ev (tail_ev l o p hn) ?_
  by_cases C : gw l o = wWithin ∧ gw l (o + 2) = wThen ∧ gw l (o + 4) = wElse
  · rw [if_pos C, ← hp]
    refine exp_of (specJ0 p' true) ?_
    cases hb : phaseB p' with
    | true => exact ⟨fun _ => rfl, fun h => absurd ⟨C.1, C.2.1, C.2.2, hn, hb⟩ h⟩
    | false => exact res_no (fun h => by rw [h.p] at hb; cases hb) rfl
  · rw [if_neg C]
    exact exp_of (specJ0 p false) (res_no (fun h => C ⟨h.a, h.b, h.c⟩) rfl)
theorem j0F (p : S_impl_RecPhase) {O : Prop} {q : S_impl_RecPhase} (h : ¬ O) : ExP (fun k => spec_l43Phase.j0 k false p.f0 p.f1 p.f2 p.f3 p.f4 p.f5 p.f6 p.f7) (Res O q) := exp_of (specJ0 p false) (res_no h rfl)
theorem j1F (l : List ByteArray) {O : Prop} {q : S_impl_RecPhase} (h : ¬ O) : ExP (fun k => spec_l43Phase.j1 k l false) (Res O q) :=
  exp_step (fun k => by rw [spec_l43Phase.j1]) (exp_neg Bool.false_ne_true (j0F ⟨rdOf ByteArray.empty l 0, 0, rdOf ByteArray.empty l 2, (⟨#[]⟩ : ByteArray), 0, 0, (⟨#[]⟩ : ByteArray), (⟨#[]⟩ : ByteArray)⟩ h))
theorem sTT (l : List ByteArray) (q : Int) (hn : l.length = 11) (hq : gw l 1 = wFill ∧ q = 1 ∨ gw l 1 = wMove ∧ q = 2) : ExP (fun k => spec_l43Phase.j3 k l true) (Res (OkX l 5 (mTT l q)) (mTT l q)) := by
  have e1 : rdOf ByteArray.empty l 1 = gw l 1 := gw_rd l 1
  refine exp_step (fun k => by rw [spec_l43Phase.j3]) (exp_pos rfl (exp_pos (by omega) ?_))
  rw [e1]
  rcases hq with ⟨k1, rfl⟩ | ⟨k1, rfl⟩
  · refine exp_neg (fun c => absurd (k1.symm.trans (ba_iff.1 c)) (by decide)) (exp_pos (by omega) (exp_pos (by omega) (exp_ev (l43Number_ev _) (exp_pos (by omega) ?_))))
    exact fin_ok l 5 ⟨gw l 0, 1, gw l 2, gw l 3, numO (gw l 4), 0, (⟨#[]⟩ : ByteArray), (⟨#[]⟩ : ByteArray)⟩ _ hn rfl
  · refine exp_pos (ba_iff.2 k1) (exp_pos (by omega) (exp_pos (by omega) (exp_ev (l43Number_ev _) (exp_pos (by omega) ?_))))
    exact fin_ok l 5 ⟨gw l 0, 2, gw l 2, gw l 3, numO (gw l 4), 0, (⟨#[]⟩ : ByteArray), (⟨#[]⟩ : ByteArray)⟩ _ hn rfl
theorem sFT (l : List ByteArray) (hn : l.length = 10) : ExP (fun k => spec_l43Phase.j2 k l true) (Res (OkX l 4 (mFT l 3)) (mFT l 3)) := by
  refine exp_step (fun k => by rw [spec_l43Phase.j2]) ?_
  refine exp_pos rfl ?_
  refine exp_pos (by omega) ?_
  refine exp_ev (l43Number_ev _) ?_
  refine exp_pos (by omega) ?_
  exact fin_ok l 4 ⟨gw l 0, 3, gw l 2, (⟨#[]⟩ : ByteArray), numO (gw l 3), 0, (⟨#[]⟩ : ByteArray), (⟨#[]⟩ : ByteArray)⟩ _ hn rfl
theorem sFF (l : List ByteArray) (q : Int) (hn : l.length = 9) (hq : gw l 1 = wClean ∧ q = 4 ∨ gw l 1 = wTest ∧ q = 5) : ExP (fun k => spec_l43Phase.j1 k l true) (Res (OkX l 3 (mFF l q)) (mFF l q)) := by
  have e1 : rdOf ByteArray.empty l 1 = gw l 1 := gw_rd l 1
  refine exp_step (fun k => by rw [spec_l43Phase.j1]) (exp_pos rfl (exp_pos (by omega) ?_))
  rw [e1]
  rcases hq with ⟨k1, rfl⟩ | ⟨k1, rfl⟩
  · refine exp_neg (fun c => absurd (k1.symm.trans (ba_iff.1 c)) (by decide)) (exp_pos (by omega) ?_)
    exact fin_ok l 3 ⟨gw l 0, 4, gw l 2, (⟨#[]⟩ : ByteArray), 0, 0, (⟨#[]⟩ : ByteArray), (⟨#[]⟩ : ByteArray)⟩ _ hn rfl
  · refine exp_pos (ba_iff.2 k1) (exp_pos (by omega) ?_)
    exact fin_ok l 3 ⟨gw l 0, 5, gw l 2, (⟨#[]⟩ : ByteArray), 0, 0, (⟨#[]⟩ : ByteArray), (⟨#[]⟩ : ByteArray)⟩ _ hn rfl
section
variable (l : List ByteArray) (h9 : 9 ≤ l.length)
include h9
/-- no phase with four numbers: what is left -/
theorem s2 {O : Prop} {p : S_impl_RecPhase} (hc : gw l 1 = wClean → l.length = 9 → O = OkX l 3 (mFF l 4) ∧ p = mFF l 4) (ht : gw l 1 = wTest → l.length = 9 → O = OkX l 3 (mFF l 5) ∧ p = mFF l 5) (hno : ¬ (gw l 1 = wClean ∧ l.length = 9) → ¬ (gw l 1 = wTest ∧ l.length = 9) → ¬ O) :
    ExP (fun k => spec_l43Phase.j2 k l false) (Res O p) := by
  have e1 : rdOf ByteArray.empty l 1 = gw l 1 := gw_rd l 1
  refine exp_step (fun k => by rw [spec_l43Phase.j2]) (exp_neg Bool.false_ne_true (exp_pos (by omega) ?_))
  rw [e1]
  refine exp_ite (fun c => exp_ite (fun n => ?_) (fun n => exp_ite (fun c2 => ?_) (fun c2 => ?_))) (fun c => exp_ite (fun c2 => ?_) (fun c2 => ?_))
  · obtain ⟨rfl, rfl⟩ := hc (ba_iff.1 c) (by omega)
    exact sFF l 4 (by omega) (.inl ⟨ba_iff.1 c, rfl⟩)
  · exact absurd ((ba_iff.1 c).symm.trans (ba_iff.1 c2)) (by decide)
  · exact j1F l (hno (fun q => n (by omega)) (fun q => c2 (ba_iff.2 q.1)))
  · by_cases n : l.length = 9
    · obtain ⟨rfl, rfl⟩ := ht (ba_iff.1 c2) n
      rw [decide_eq_true (show (l.length : Int) = 9 by omega)]
      exact sFF l 5 n (.inr ⟨ba_iff.1 c2, rfl⟩)
    · rw [decide_eq_false (show ¬ (l.length : Int) = 9 by omega)]
      exact j1F l (hno (fun q => n q.2) (fun q => n q.2))
  · exact j1F l (hno (fun q => c (ba_iff.2 q.1)) (fun q => c2 (ba_iff.2 q.1)))
theorem s3 {O : Prop} {p : S_impl_RecPhase} (hh : gw l 1 = wHold → l.length = 10 → O = OkX l 4 (mFT l 3) ∧ p = mFT l 3) (hc : gw l 1 = wClean → l.length = 9 → O = OkX l 3 (mFF l 4) ∧ p = mFF l 4) (ht : gw l 1 = wTest → l.length = 9 → O = OkX l 3 (mFF l 5) ∧ p = mFF l 5)
    (hno : ¬ (gw l 1 = wHold ∧ l.length = 10) → ¬ (gw l 1 = wClean ∧ l.length = 9) → ¬ (gw l 1 = wTest ∧ l.length = 9) → ¬ O) : ExP (fun k => spec_l43Phase.j3 k l false) (Res O p) := by
  have e1 : rdOf ByteArray.empty l 1 = gw l 1 := gw_rd l 1
  refine exp_step (fun k => by rw [spec_l43Phase.j3]) (exp_neg Bool.false_ne_true (exp_pos (by omega) ?_))
  rw [e1]
  refine exp_ite (fun c => ?_) (fun c => ?_)
  · by_cases n : l.length = 10
    · obtain ⟨rfl, rfl⟩ := hh (ba_iff.1 c) n
      rw [decide_eq_true (show (l.length : Int) = 10 by omega)]
      exact sFT l n
    · rw [decide_eq_false (show ¬ (l.length : Int) = 10 by omega)]
      exact s2 l h9 hc ht (fun a b => hno (fun q => n q.2) a b)
  · exact s2 l h9 hc ht (fun a b => hno (fun q => c (ba_iff.2 q.1)) a b)
end
theorem l43Phase_ok (l : List ByteArray) : ExP (fun k => spec_l43Phase.f k l) (Res (kO l).1 (kO l).2) := by
  unfold spec_l43Phase.f
  refine exp_ite (fun c => exp_ret (res_no (fun h => by have := kO_len h; omega) rfl)) (fun c => exp_pos (by omega) (exp_pos (by omega) (exp_pos (by omega) ?_)))
  have e1 : rdOf ByteArray.empty l 1 = gw l 1 := gw_rd l 1
  rw [e1]
  have h9 : 9 ≤ l.length := by omega
  have rest : ∀ (hf : ¬ (gw l 1 = wFill ∧ l.length = 11)) (hm : ¬ (gw l 1 = wMove ∧ l.length = 11)), ExP (fun k => spec_l43Phase.j3 k l false) (Res (kO l).1 (kO l).2) := fun hf hm => by
    refine s3 l h9 (fun k _ => ?_) (fun k _ => ?_) (fun k _ => ?_) (fun a b d h => ?_)
    · have n1 : ¬ gw l 1 = wFill := by rw [k]; decide
      have n2 : ¬ gw l 1 = wMove := by rw [k]; decide
      unfold kO; rw [if_neg n1, if_neg n2, if_pos k]; exact ⟨rfl, rfl⟩
    · have n1 : ¬ gw l 1 = wFill := by rw [k]; decide
      have n2 : ¬ gw l 1 = wMove := by rw [k]; decide
      have n3 : ¬ gw l 1 = wHold := by rw [k]; decide
      unfold kO; rw [if_neg n1, if_neg n2, if_neg n3, if_pos k]; exact ⟨rfl, rfl⟩
    · have n1 : ¬ gw l 1 = wFill := by rw [k]; decide
      have n2 : ¬ gw l 1 = wMove := by rw [k]; decide
      have n3 : ¬ gw l 1 = wHold := by rw [k]; decide
      have n4 : ¬ gw l 1 = wClean := by rw [k]; decide
      unfold kO; rw [if_neg n1, if_neg n2, if_neg n3, if_neg n4, if_pos k]; exact ⟨rfl, rfl⟩
    · unfold kO at h
      split at h
      · rename_i k; exact hf ⟨k, h.n⟩
      · split at h
        · rename_i k; exact hm ⟨k, h.n⟩
        · split at h
          · rename_i k; exact a ⟨k, h.n⟩
          · split at h
            · rename_i k; exact b ⟨k, h.n⟩
            · split at h
              · rename_i k; exact d ⟨k, h.n⟩
              · exact h
  refine exp_ite (fun c1 => exp_ite (fun n => ?_) (fun n => exp_ite (fun c2 => ?_) (fun c2 => ?_))) (fun c1 => exp_ite (fun c2 => ?_) (fun c2 => ?_))
  · have k : gw l 1 = wFill := ba_iff.1 c1
    rw [show kO l = (OkX l 5 (mTT l 1), mTT l 1) by unfold kO; rw [if_pos k]]
    exact sTT l 1 (by omega) (.inl ⟨k, rfl⟩)
  · exact absurd ((ba_iff.1 c1).symm.trans (ba_iff.1 c2)) (by decide)
  · exact rest (fun q => n (by omega)) (fun q => c2 (ba_iff.2 q.1))
  · have k : gw l 1 = wMove := ba_iff.1 c2
    have n1 : ¬ gw l 1 = wFill := fun e => c1 (ba_iff.2 e)
    by_cases n : l.length = 11
    · rw [decide_eq_true (show (l.length : Int) = 11 by omega), show kO l = (OkX l 5 (mTT l 2), mTT l 2) by unfold kO; rw [if_neg n1, if_pos k]]
      exact sTT l 2 n (.inr ⟨k, rfl⟩)
    · rw [decide_eq_false (show ¬ (l.length : Int) = 11 by omega)]
      exact rest (fun q => n q.2) (fun q => n q.2)
  · exact rest (fun q => c1 (ba_iff.2 q.1)) (fun q => c2 (ba_iff.2 q.1))
/-! ### numbers, written -/
theorem dec_small {n : Nat} (h : n < 10) : Lib.decDigits n = [UInt8.ofNat (48 + n)] := by rw [Lib.decDigits, dif_pos h]
theorem dec_big {n : Nat} (h : ¬ n < 10) : Lib.decDigits n = Lib.decDigits (n / 10) ++ [UInt8.ofNat (48 + n % 10)] := by rw [Lib.decDigits, dif_neg h]
theorem dec_len : ∀ (m n : Nat), n ≤ m → (Lib.decDigits n).length ≤ n + 1
  | m, n, h => by
    by_cases c : n < 10
    · rw [dec_small c]; simp
    · rw [dec_big c]
      have := dec_len (n / 10) (n / 10) (Nat.le_refl _)
      simp; omega
termination_by m n => n
decreasing_by omega
def decB (n : Int) : ByteArray := ⟨(Lib.decDigits n.toNat).toArray⟩
theorem decB_size {n : Int} (h0 : 0 ≤ n) (h : n ≤ 10000) : (decB n).size ≤ 10001 := by
  have := dec_len n.toNat n.toNat (Nat.le_refl _)
  show (Lib.decDigits n.toNat).toArray.size ≤ 10001
  rw [List.size_toArray]; omega
theorem itoa_ev (n : Int) (h : 0 ≤ n) (h1 : n ≤ 10000) : Ev (fun _ => strconv_Itoa.f n) (decB n) := by
  unfold strconv_Itoa.f itoaSf
  rw [if_pos ⟨by omega, by omega⟩]
  exact ev_ret (by unfold itoaS Lib.itoa decB; rw [if_neg (by omega)])
theorem dig (d : Int) (h0 : 0 ≤ d) (h1 : d < 10) : UInt8.ofNat (IntKind.wrap .u8 (wrap64 (48 + d))).toNat = UInt8.ofNat (48 + d.toNat) := by
  have : d = 0 ∨ d = 1 ∨ d = 2 ∨ d = 3 ∨ d = 4 ∨ d = 5 ∨ d = 6 ∨ d = 7 ∨ d = 8 ∨ d = 9 := by omega
  rcases this with rfl | rfl | rfl | rfl | rfl | rfl | rfl | rfl | rfl | rfl <;> decide +kernel
theorem ba_app (a b : List UInt8) : (⟨a.toArray⟩ : ByteArray) ++ ⟨b.toArray⟩ = ⟨(a ++ b).toArray⟩ := by
  apply ByteArray.ext
  simp [ByteArray.data_append]
theorem l43Dec_ev : ∀ (m : Nat) (n : Int), 0 ≤ n → n ≤ 10000 → n.toNat ≤ m → Ev (fun k => spec_l43Dec.f k n) (decB n)
  | m, n, h0, h1, hm => by
    refine Ev.step (fun k => by rw [spec_l43Dec.f]) ?_
    by_cases c : n < 10
    · refine ev_pos c (ev_ret ?_)
      unfold decB
      rw [dec_small (by omega), dig n h0 c]
    · have e1 : wrap64 (Int.tdiv n 10) = n / 10 := by rw [Int.tdiv_eq_ediv_of_nonneg h0]; exact w64 (by omega) (by omega)
      have e2 : Int.tmod n 10 = n % 10 := Int.tmod_eq_emod_of_nonneg h0
      rw [e1, e2, dig (n % 10) (by omega) (by omega)]
      have hs := decB_size (n := n / 10) (by omega) (by omega)
      refine ev_neg c (Ev.bind (l43Dec_ev (n / 10).toNat (n / 10) (by omega) (by omega) (Nat.le_refl _)) (ev_pos ?_ (ev_ret ?_)))
      · have : (⟨#[UInt8.ofNat (48 + (n % 10).toNat)]⟩ : ByteArray).size = 1 := rfl
        rw [this]; omega
      · unfold decB
        rw [dec_big (n := n.toNat) (by omega), show (n / 10).toNat = n.toNat / 10 by omega, show (n % 10).toNat = n.toNat % 10 by omega]
        exact ba_app _ _
termination_by m n => n.toNat
decreasing_by omega
/-! ### a recipe, written -/
theorem z1 : (⟨#[32]⟩ : ByteArray).size = 1 := rfl
theorem zn : (⟨#[10]⟩ : ByteArray).size = 1 := rfl
theorem z8 : (⟨#[32, 119, 105, 116, 104, 105, 110, 32]⟩ : ByteArray).size = 8 := rfl
theorem z6 : (⟨#[32, 116, 104, 101, 110, 32]⟩ : ByteArray).size = 6 := rfl
theorem z6b : (⟨#[32, 101, 108, 115, 101, 32]⟩ : ByteArray).size = 6 := rfl
theorem z0 : (⟨#[]⟩ : ByteArray).size = 0 := rfl
def kindL : List ByteArray := ([(⟨#[]⟩ : ByteArray), (⟨#[102, 105, 108, 108]⟩ : ByteArray), (⟨#[109, 111, 118, 101]⟩ : ByteArray), (⟨#[104, 111, 108, 100]⟩ : ByteArray), (⟨#[99, 108, 101, 97, 110]⟩ : ByteArray), (⟨#[116, 101, 115, 116]⟩ : ByteArray)] : List ByteArray)
def kindW (k : Int) : ByteArray := rdOf ByteArray.empty kindL k
theorem kindW_size (k : Int) (h0 : 0 ≤ k) (h1 : k < 6) : (kindW k).size ≤ 8 := by
  have : k = 0 ∨ k = 1 ∨ k = 2 ∨ k = 3 ∨ k = 4 ∨ k = 5 := by omega
  rcases this with rfl | rfl | rfl | rfl | rfl | rfl <;> decide
theorem kind_ev (k : Int) (h0 : 0 ≤ k) (h1 : k < 6) : Ev (fun _ => spec_l43Kind.f k) (kindW k) := by
  unfold spec_l43Kind.f
  exact ev_pos h0 (ev_pos h1 (ev_ret rfl))
/-- what is asked of a phase that is written -/
structure PrOk (x : S_impl_RecPhase) : Prop where
  a0 : x.f0.size ≤ 8
  a2 : x.f2.size ≤ 8
  a3 : x.f3.size ≤ 8
  a6 : x.f6.size ≤ 8
  a7 : x.f7.size ≤ 8
  b1 : 0 ≤ x.f1 ∧ x.f1 < 6
  b4 : 0 ≤ x.f4 ∧ x.f4 ≤ 1000
  b5 : 0 ≤ x.f5 ∧ x.f5 ≤ 1000
theorem nameB_size {s : ByteArray} (h : nameB s = true) : s.size ≤ 8 := by
  unfold nameB at h
  rw [Bool.and_eq_true, decide_eq_true_iff] at h
  exact h.1.2
theorem inB_spec {a b c : Int} (h : inB a b c = true) : b ≤ a ∧ a ≤ c := of_decide_eq_true h
theorem prOk {x : S_impl_RecPhase} (h : phaseB x = true) : PrOk x := by
  unfold phaseB at h
  simp only [Bool.and_eq_true] at h
  obtain ⟨⟨h0, _⟩, h5, ⟨h2, ha⟩, h6, h7⟩ := h
  have h5' := inB_spec h5
  have key : x.f3.size ≤ 8 ∧ (0 ≤ x.f1 ∧ x.f1 < 6) ∧ (0 ≤ x.f4 ∧ x.f4 ≤ 1000) := by
    unfold argsB at ha
    split at ha
    · rename_i c
      simp only [Bool.and_eq_true] at ha
      have := inB_spec ha.2
      exact ⟨nameB_size ha.1, by omega, by omega⟩
    · split at ha
      · rename_i c
        simp only [Bool.and_eq_true] at ha
        have := inB_spec ha.2.2
        exact ⟨nameB_size ha.1, by omega, by omega⟩
      · split at ha
        · rename_i c
          simp only [Bool.and_eq_true, decide_eq_true_eq] at ha
          have := inB_spec ha.2
          exact ⟨by rw [ha.1]; decide, by omega, by omega⟩
        · split at ha
          · rename_i c
            simp only [Bool.and_eq_true, decide_eq_true_eq] at ha
            exact ⟨by rw [ha.1]; decide, by omega, by omega⟩
          · cases ha
  exact ⟨nameB_size h0, nameB_size h2, key.1, nameB_size h6, nameB_size h7, key.2.1, key.2.2, by omega⟩
theorem recB_ok {l : List S_impl_RecPhase} (h : recB l = true) : l.length ≤ 12 ∧ ∀ x ∈ l, PrOk x := by
  unfold recB at h
  simp only [Bool.and_eq_true] at h
  obtain ⟨h1, h2, _⟩ := h
  have h1' := inB_spec h1
  refine ⟨by omega, ?_⟩
  have key : ∀ (r : List S_impl_RecPhase) (i : Nat), recA l i r = true → ∀ x ∈ r, PrOk x := fun r => by
    induction r with
    | nil => intro i _ x hx; cases hx
    | cons y r ih =>
      intro i hr x hx
      simp only [recA, ownB, Bool.and_eq_true] at hr
      rcases List.mem_cons.1 hx with rfl | hx
      · exact prOk hr.1.1
      · exact ih _ hr.2 x hx
  exact key l 0 h2
def tl1 (x : S_impl_RecPhase) : ByteArray := (⟨#[32, 119, 105, 116, 104, 105, 110, 32]⟩ : ByteArray) ++ (decB x.f5 ++ ((⟨#[32, 116, 104, 101, 110, 32]⟩ : ByteArray) ++ (x.f6 ++ ((⟨#[32, 101, 108, 115, 101, 32]⟩ : ByteArray) ++ (x.f7 ++ (⟨#[10]⟩ : ByteArray))))))
def tl2 (x : S_impl_RecPhase) : ByteArray := (if x.f4 > 0 then (⟨#[32]⟩ : ByteArray) ++ (decB x.f4 ++ tl1 x) else tl1 x)
def tl3 (x : S_impl_RecPhase) : ByteArray := x.f0 ++ ((⟨#[32]⟩ : ByteArray) ++ (kindW x.f1 ++ ((⟨#[32]⟩ : ByteArray) ++ (x.f2 ++ (if x.f3.toList = (⟨#[]⟩ : ByteArray).toList then tl2 x else (⟨#[32]⟩ : ByteArray) ++ (x.f3 ++ tl2 x))))))
theorem tl1_size {x : S_impl_RecPhase} (h : PrOk x) : (tl1 x).size ≤ 11000 := by
  have h5 := decB_size h.b5.1 (by have := h.b5.2; omega)
  have := h.a6; have := h.a7
  unfold tl1
  simp only [ByteArray.size_append, z1, zn, z8, z6, z6b]; omega
theorem tl2_size {x : S_impl_RecPhase} (h : PrOk x) : (tl2 x).size ≤ 22000 := by
  have h4 := decB_size h.b4.1 (by have := h.b4.2; omega)
  have := tl1_size h
  unfold tl2
  split
  · simp only [ByteArray.size_append, z1]; omega
  · omega
theorem tl3_size {x : S_impl_RecPhase} (h : PrOk x) : (tl3 x).size ≤ 23000 := by
  have := tl2_size h
  have := h.a0; have := h.a2; have := h.a3; have := kindW_size _ h.b1.1 h.b1.2
  unfold tl3
  split
  · simp only [ByteArray.size_append, z1]; omega
  · simp only [ByteArray.size_append, z1]; omega
theorem ev_arg {α β : Type} {f : Nat → α → Option β} {a b : α} {r : β} (h : Ev (fun k => f k b) r) (e : a = b) : Ev (fun k => f k a) r := e ▸ h
section
variable (l : List S_impl_RecPhase) (i : Nat) (x : S_impl_RecPhase) (hi : i < l.length) (hl : l.length ≤ 12) (hx : l.getD i z_impl_RecPhase = x) (hp : PrOk x) (acc : ByteArray) (R : ByteArray)
include hi hl hx hp
theorem specJ1 (ha : acc.size ≤ 1000000) (h : Ev (fun k => spec_RecPrint.l0 k l (acc ++ tl1 x) ((i + 1 : Nat) : Int)) R) : Ev (fun k => spec_RecPrint.j1 k l acc (i : Int)) R := by
  have h5 := decB_size hp.b5.1 (by have := hp.b5.2; omega)
  have b5 := hp.b5; have := hp.a6; have := hp.a7
  refine Ev.step (fun k => by unfold spec_RecPrint.j1; rfl) ?_
  rw [rdRP, hx]
  refine ev_pos (by simp only [ByteArray.size_append, z1, zn, z8, z6, z6b]; omega) (Ev.bind (l43Dec_ev _ _ b5.1 (by omega) (Nat.le_refl _)) ?_)
  repeat' (first | (refine ev_pos ?hh ?_; (case hh => ((try simp only [ByteArray.size_append, z1, zn, z8, z6, z6b]); omega))) | fail)
  refine Ev.step (fun k => by rw [spec_RecPrint.j0]) ?_
  rw [wsucc hi (by omega)]
  exact ev_arg (f := fun k a => spec_RecPrint.l0 k l a ((i + 1 : Nat) : Int)) h (by simp only [tl1, ByteArray.append_assoc])
theorem specJ2 (ha : acc.size ≤ 900000) (h : Ev (fun k => spec_RecPrint.l0 k l (acc ++ tl2 x) ((i + 1 : Nat) : Int)) R) : Ev (fun k => spec_RecPrint.j2 k l acc (i : Int)) R := by
  have h4 := decB_size hp.b4.1 (by have := hp.b4.2; omega)
  have b4 := hp.b4
  refine Ev.step (fun k => by rw [spec_RecPrint.j2]) ?_
  rw [rdRP, hx]
  refine ev_split (fun c => ?_) (fun c => ?_)
  · refine ev_pos (by simp only [ByteArray.size_append, z1]; omega) (Ev.bind (l43Dec_ev _ _ b4.1 (by omega) (Nat.le_refl _)) ?_)
    refine ev_pos (by simp only [ByteArray.size_append, z1]; omega) ?_
    refine specJ1 l i x hi hl hx hp _ R (by simp only [ByteArray.size_append, z1]; omega) ?_
    exact ev_arg (f := fun k a => spec_RecPrint.l0 k l a ((i + 1 : Nat) : Int)) h (by simp only [tl2, if_pos c, ByteArray.append_assoc])
  · refine specJ1 l i x hi hl hx hp _ R (by omega) ?_
    exact ev_arg (f := fun k a => spec_RecPrint.l0 k l a ((i + 1 : Nat) : Int)) h (by simp only [tl2, if_neg c])
theorem specL (ha : acc.size ≤ 600000) (h : Ev (fun k => spec_RecPrint.l0 k l (acc ++ tl3 x) ((i + 1 : Nat) : Int)) R) : Ev (fun k => spec_RecPrint.l0 k l acc (i : Int)) R := by
  have := hp.a0; have := hp.a2; have := hp.a3; have := kindW_size _ hp.b1.1 hp.b1.2
  refine Ev.step (fun k => by rw [spec_RecPrint.l0]) (ev_pos (by omega) (ev_pos (by omega) ?_))
  rw [rdRP, hx]
  repeat' (first | (refine ev_pos ?hh ?_; (case hh => ((try simp only [ByteArray.size_append, z1]); omega))) | fail)
  refine Ev.bind (kind_ev _ hp.b1.1 hp.b1.2) ?_
  repeat' (first | (refine ev_pos ?hh ?_; (case hh => ((try simp only [ByteArray.size_append, z1]); omega))) | fail)
  refine ev_split (fun c => ?_) (fun c => ?_)
  · refine specJ2 l i x hi hl hx hp _ R (by simp only [ByteArray.size_append, z1]; omega) ?_
    exact ev_arg (f := fun k a => spec_RecPrint.l0 k l a ((i + 1 : Nat) : Int)) h (by simp only [tl3, if_pos c, ByteArray.append_assoc])
  · repeat' (first | (refine ev_pos ?hh ?_; (case hh => ((try simp only [ByteArray.size_append, z1]); omega))) | fail)
    refine specJ2 l i x hi hl hx hp _ R (by simp only [ByteArray.size_append, z1]; omega) ?_
    exact ev_arg (f := fun k a => spec_RecPrint.l0 k l a ((i + 1 : Nat) : Int)) h (by simp only [tl3, if_neg c, ByteArray.append_assoc])
theorem implJ1 (ha : acc.size ≤ 1000000) (h : Ev (fun k => impl_RecPrint.l0 k l (acc ++ tl1 x) ((i + 1 : Nat) : Int)) R) : Ev (fun k => impl_RecPrint.j1 k l acc (i : Int)) R := by
  have h5 := decB_size hp.b5.1 (by have := hp.b5.2; omega)
  have b5 := hp.b5; have := hp.a6; have := hp.a7
  refine Ev.step (fun k => by rw [impl_RecPrint.j1]) ?_
  rw [rdRP, hx]
  refine Ev.bind (itoa_ev _ b5.1 (by omega)) ?_
  repeat' (first | (refine ev_pos ?hh ?_; (case hh => ((try simp only [ByteArray.size_append, z1, zn, z8, z6, z6b]); omega))) | fail)
  refine Ev.step (fun k => by rw [impl_RecPrint.j0]) ?_
  rw [wsucc hi (by omega)]
  exact ev_arg (f := fun k a => impl_RecPrint.l0 k l a ((i + 1 : Nat) : Int)) h (by simp only [tl1, ByteArray.append_assoc])
theorem implJ2 (ha : acc.size ≤ 900000) (h : Ev (fun k => impl_RecPrint.l0 k l (acc ++ tl2 x) ((i + 1 : Nat) : Int)) R) : Ev (fun k => impl_RecPrint.j2 k l acc (i : Int)) R := by
  have h4 := decB_size hp.b4.1 (by have := hp.b4.2; omega)
  have b4 := hp.b4
  refine Ev.step (fun k => by rw [impl_RecPrint.j2]) ?_
  rw [rdRP, hx]
  refine ev_split (fun c => ?_) (fun c => ?_)
  · refine Ev.bind (itoa_ev _ b4.1 (by omega)) ?_
    repeat' (first | (refine ev_pos ?hh ?_; (case hh => ((try simp only [ByteArray.size_append, z1]); omega))) | fail)
    refine implJ1 l i x hi hl hx hp _ R (by simp only [ByteArray.size_append, z1]; omega) ?_
    exact ev_arg (f := fun k a => impl_RecPrint.l0 k l a ((i + 1 : Nat) : Int)) h (by simp only [tl2, if_pos c, ByteArray.append_assoc])
  · refine implJ1 l i x hi hl hx hp _ R (by omega) ?_
    exact ev_arg (f := fun k a => impl_RecPrint.l0 k l a ((i + 1 : Nat) : Int)) h (by simp only [tl2, if_neg c])
theorem implL (ha : acc.size ≤ 600000) (h : Ev (fun k => impl_RecPrint.l0 k l (acc ++ tl3 x) ((i + 1 : Nat) : Int)) R) : Ev (fun k => impl_RecPrint.l0 k l acc (i : Int)) R := by
  have := hp.a0; have := hp.a2; have := hp.a3; have hk := kindW_size _ hp.b1.1 hp.b1.2
  have b1 := hp.b1
  refine Ev.step (fun k => by rw [impl_RecPrint.l0]) (ev_pos (by omega) (ev_pos (by omega) ?_))
  rw [rdRP, hx]
  change Ev (fun k => if ((x.f0.size + (⟨#[32]⟩ : ByteArray).size : Nat) : Int) ≤ 9223372036854775807 then _ else none) R
  simp only [show (rdOf ByteArray.empty ([(⟨#[]⟩ : ByteArray), (⟨#[102, 105, 108, 108]⟩ : ByteArray), (⟨#[109, 111, 118, 101]⟩ : ByteArray), (⟨#[104, 111, 108, 100]⟩ : ByteArray), (⟨#[99, 108, 101, 97, 110]⟩ : ByteArray), (⟨#[116, 101, 115, 116]⟩ : ByteArray)] : List ByteArray) x.f1) = kindW x.f1 from rfl]
  repeat' (first | (refine ev_pos ?hh ?_; (case hh => (first | omega | (simp only [ByteArray.size_append, z1]; omega)))) | fail)
  refine ev_split (fun c => ?_) (fun c => ?_)
  · refine implJ2 l i x hi hl hx hp _ R (by simp only [ByteArray.size_append, z1]; omega) ?_
    exact ev_arg (f := fun k a => impl_RecPrint.l0 k l a ((i + 1 : Nat) : Int)) h (by simp only [tl3, if_pos c, ByteArray.append_assoc])
  · repeat' (first | (refine ev_pos ?hh ?_; (case hh => ((try simp only [ByteArray.size_append, z1]); omega))) | fail)
    refine implJ2 l i x hi hl hx hp _ R (by simp only [ByteArray.size_append, z1]; omega) ?_
    exact ev_arg (f := fun k a => impl_RecPrint.l0 k l a ((i + 1 : Nat) : Int)) h (by simp only [tl3, if_neg c, ByteArray.append_assoc])
end
def linesB : List S_impl_RecPhase → ByteArray → ByteArray
  | [], acc => acc
  | x :: r, acc => linesB r (acc ++ tl3 x)
theorem specLs (l : List S_impl_RecPhase) (hl : l.length ≤ 12) (hp : ∀ x ∈ l, PrOk x) : Ev (fun k => spec_RecPrint.l0 k l (⟨#[]⟩ : ByteArray) 0) (linesB l (⟨#[]⟩ : ByteArray)) := by
  have key := loopL z_impl_RecPhase l (P := fun i r => i ≤ l.length → ∀ acc : ByteArray, acc.size ≤ i * 23000 → Ev (fun k => spec_RecPrint.l0 k l acc (i : Int)) (linesB r acc))
    (fun _ acc _ => by refine Ev.step (fun k => by rw [spec_RecPrint.l0]) ?_; exact ev_neg (by omega) (ev_ret rfl)) (fun i x r hi hx hm _ ih _ acc ha => ?_)
  · exact key (by omega) _ (by rw [z0]; omega)
  have := tl3_size (hp x hm)
  exact specL l i x hi hl hx (hp x hm) acc _ (by omega) (ih (by omega) _ (by rw [ByteArray.size_append]; omega))
theorem implLs (l : List S_impl_RecPhase) (hl : l.length ≤ 12) (hp : ∀ x ∈ l, PrOk x) : Ev (fun k => impl_RecPrint.l0 k l (⟨#[]⟩ : ByteArray) 0) (linesB l (⟨#[]⟩ : ByteArray)) := by
  have key := loopL z_impl_RecPhase l (P := fun i r => i ≤ l.length → ∀ acc : ByteArray, acc.size ≤ i * 23000 → Ev (fun k => impl_RecPrint.l0 k l acc (i : Int)) (linesB r acc))
    (fun _ acc _ => by refine Ev.step (fun k => by rw [impl_RecPrint.l0]) ?_; exact ev_neg (by omega) (ev_ret rfl)) (fun i x r hi hx hm _ ih _ acc ha => ?_)
  · exact key (by omega) _ (by rw [z0]; omega)
  have := tl3_size (hp x hm)
  exact implL l i x hi hl hx (hp x hm) acc _ (by omega) (ih (by omega) _ (by rw [ByteArray.size_append]; omega))
def printB (l : List S_impl_RecPhase) : ByteArray := if recB l = true then linesB l (⟨#[]⟩ : ByteArray) else (⟨#[]⟩ : ByteArray)
/-! ### numbers drawn -/
theorem xorI_nat (a b : Nat) (ha : a < 2 ^ 62) (hb : b < 2 ^ 62) : xorI .i64 (a : Int) (b : Int) = ((a ^^^ b : Nat) : Int) := by
  have hx : a ^^^ b < 2 ^ 62 := Nat.xor_lt_two_pow ha hb
  have ha' : a % 2 ^ IntKind.i64.bits = a := Nat.mod_eq_of_lt (Nat.lt_trans ha (by decide))
  have hb' : b % 2 ^ IntKind.i64.bits = b := Nat.mod_eq_of_lt (Nat.lt_trans hb (by decide))
  have e : xorI .i64 (a : Int) (b : Int) = IntKind.i64.wrap ((a ^^^ b : Nat) : Int) := by
    simp only [xorI, BitVec.ofInt_natCast, BitVec.toNat_xor, BitVec.toNat_ofNat, ha', hb']
  rw [e, IntKind.wrap_i64]
  generalize a ^^^ b = n at hx ⊢
  have : (2 : Nat) ^ 62 = 4611686018427387904 := by decide
  omega
theorem xorI_range {a b : Int} (h0 : 0 ≤ a) (h1 : a ≤ 1000000000000000) (h2 : 0 ≤ b) (h3 : b ≤ 1000000000000000) : 0 ≤ xorI .i64 a b := by
  obtain ⟨m, rfl⟩ : ∃ m : Nat, a = (m : Int) := ⟨a.toNat, by omega⟩
  obtain ⟨n, rfl⟩ : ∃ n : Nat, b = (n : Int) := ⟨b.toNat, by omega⟩
  rw [xorI_nat m n (by have : (2 : Nat) ^ 62 = 4611686018427387904 := by decide
                       omega) (by have : (2 : Nat) ^ 62 = 4611686018427387904 := by decide
                                  omega)]
  omega
structure Bytes (b : List Int) : Prop where
  len : b.length ≤ 2000
  byte : ∀ i, i < b.length → 0 ≤ b.getD i 0 ∧ b.getD i 0 ≤ 255
theorem Bytes.rd {b : List Int} (h : Bytes b) (i : Int) (h0 : 0 ≤ i) (h1 : i < b.length) : 0 ≤ rd b i ∧ rd b i ≤ 255 := by
  obtain ⟨n, rfl⟩ : ∃ n : Nat, i = (n : Int) := ⟨i.toNat, by omega⟩
  rw [rd_nat]
  exact h.byte n (by omega)
theorem pick_ok {b : List Int} (hb : Bytes b) (p n : Int) (hp : 0 ≤ p) (hp1 : p ≤ 1000000000) (hn : n ≤ 1000000000) :
    ∃ v, (0 ≤ v ∧ (1 ≤ n → v < n) ∧ (n < 1 → v = 0)) ∧ spec_l41Rd_pick.f b p n = some (v, b, p + 1) := by
  unfold spec_l41Rd_pick.f
  have hw : wrap64 (wrap64 (p + 1) - 1) = p := by rw [w64 (x := p + 1) (by omega) (by omega), w64 (by omega) (by omega)]; omega
  rw [hw, w64 (x := p + 1) (by omega) (by omega)]
  by_cases c : n < 1
  · exact ⟨0, ⟨by omega, by omega, by omega⟩, by rw [if_pos c]⟩
  by_cases e : (b.length : Int) = 0
  · exact ⟨0, ⟨by omega, by omega, by omega⟩, by rw [if_neg c, if_pos e]⟩
  have hl := hb.len
  have fin : ∀ x : Int, 0 ≤ x → (0 ≤ Int.tmod x n ∧ (1 ≤ n → Int.tmod x n < n) ∧ (n < 1 → Int.tmod x n = 0)) := fun x hx => by
    rw [Int.tmod_eq_emod_of_nonneg hx]
    exact ⟨Int.emod_nonneg _ (by omega), fun _ => Int.emod_lt_of_pos _ (by omega), fun q => by omega⟩
  rw [if_neg c, if_neg e]
  by_cases q : p < (b.length : Int)
  · have hr := hb.rd p hp q
    exact ⟨_, fin (wrap64 (rd b p)) (by rw [w64 (by omega) (by omega)]; omega), by rw [if_pos q, if_pos hp, if_pos (by omega)]⟩
  have h7 : wrap64 (wrap64 (p * 7) + 3) = p * 7 + 3 := by rw [w64 (x := p * 7) (by omega) (by omega), w64 (by omega) (by omega)]
  have m1 : Int.tmod p (b.length : Int) = p % (b.length : Int) := Int.tmod_eq_emod_of_nonneg hp
  have m2 : Int.tmod (p * 7 + 3) (b.length : Int) = (p * 7 + 3) % (b.length : Int) := Int.tmod_eq_emod_of_nonneg (by omega)
  have d1 : Int.tdiv p (b.length : Int) = p / (b.length : Int) := Int.tdiv_eq_ediv_of_nonneg hp
  have r1 := Int.emod_nonneg p e
  have r2 := Int.emod_lt_of_pos p (show (0 : Int) < (b.length : Int) by omega)
  have r3 := Int.emod_nonneg (p * 7 + 3) e
  have r4 := Int.emod_lt_of_pos (p * 7 + 3) (show (0 : Int) < (b.length : Int) by omega)
  have v1 := hb.rd _ r1 r2
  have v2 := hb.rd _ r3 r4
  have dv0 : 0 ≤ p / (b.length : Int) := Int.ediv_nonneg hp (by omega)
  have dv1 : p / (b.length : Int) ≤ p := Int.ediv_le_self _ hp
  rw [h7, m1, m2, d1, if_neg q, if_pos e, if_pos r1, if_pos r2, if_pos r3, if_pos r4, if_pos (show n ≠ 0 by omega)]
  generalize rd b (p % (b.length : Int)) = u1 at *
  generalize rd b ((p * 7 + 3) % (b.length : Int)) = u2 at *
  generalize p / (b.length : Int) = u3 at *
  rw [w64 (x := u1) (by omega) (by omega), w64 (x := u2) (by omega) (by omega), w64 (x := u1 * 131) (by omega) (by omega), w64 (x := u2 * 1117) (by omega) (by omega), w64 (x := u1 * 131 + u2 * 1117) (by omega) (by omega), w64 (x := p * 29) (by omega) (by omega),
    w64 (x := u1 * 131 + u2 * 1117 + p * 29) (by omega) (by omega), w64 (x := u3) (by omega) (by omega), w64 (x := u3 * 53) (by omega) (by omega), w64 (x := u1 * 131 + u2 * 1117 + p * 29 + u3 * 53) (by omega) (by omega)]
  obtain ⟨x, hx⟩ : ∃ x, u1 * 131 + u2 * 1117 + p * 29 + u3 * 53 = x := ⟨_, rfl⟩
  rw [hx]
  have x0 : 0 ≤ x := by omega
  have x1 : x ≤ 1000000000000 := by omega
  have y0 : 0 ≤ Int.tdiv x 64 ∧ Int.tdiv x 64 ≤ x := by rw [Int.tdiv_eq_ediv_of_nonneg x0]; exact ⟨Int.ediv_nonneg x0 (by omega), Int.ediv_le_self _ x0⟩
  rw [w64 (x := Int.tdiv x 64) (by omega) (by omega)]
  exact ⟨_, fin _ (xorI_range x0 (by omega) y0.1 (by omega)), rfl⟩
theorem of_ok {b : List Int} (hb : Bytes b) (p : Int) (hp : 0 ≤ p) (hp1 : p ≤ 1000000000) (l : List ByteArray) (h1 : 1 ≤ l.length) (h2 : l.length ≤ 1000000) : ∃ s ∈ l, spec_l41Rd_of.f b p l = some (s, b, p + 1) := by
  unfold spec_l41Rd_of.f
  obtain ⟨v, ⟨v0, v1, _⟩, e⟩ := pick_ok hb p (l.length : Int) hp hp1 (by omega)
  have v1 := v1 (by omega)
  obtain ⟨n, rfl⟩ : ∃ n : Nat, v = (n : Int) := ⟨v.toNat, by omega⟩
  refine ⟨l.getD n ByteArray.empty, mem_getD _ _ _ (by omega), ?_⟩
  rw [e]
  simp only [Option.bind_some]
  rw [if_pos v0, if_pos v1, rdOf_nat]
theorem open_ok (l : List Int) (h : ∀ x ∈ l, 0 ≤ x ∧ x ≤ 255) : ∃ b, Bytes b ∧ spec_l41Open.f l = some (b, 0) := by
  unfold spec_l41Open.f
  by_cases c : (l.length : Int) > 2000
  · refine ⟨l.take 2000, ⟨by simp; omega, fun i hi => ?_⟩, by rw [if_pos c, if_pos (by omega)]; rfl⟩
    exact h _ (List.mem_of_mem_take (mem_getD 0 _ i hi))
  · exact ⟨l, ⟨by omega, fun i hi => h _ (mem_getD 0 _ i hi)⟩, by rw [if_neg c]⟩
theorem bytes_of {l : List Int} (h : ∀ x ∈ l, (Lit.int .u8 x).wf = true) : ∀ x ∈ l, 0 ≤ x ∧ x ≤ 255 := fun x hx => by
  have := h x hx
  simpa [Lit.wf, IntKind.min, IntKind.max, IntKind.signed, IntKind.bits] using this
/-! ### recipes, drawn -/
theorem exp_some {α : Type} {g : Option α} {a : α} {Q : α → Prop} (h : g = some a) (k : Q a) : ExP (fun _ => g) Q := by subst h; exact exp_ret k
structure Dp (x : S_impl_RecPhase) : Prop where
  a0 : x.f0.size ≤ 1000
  a2 : x.f2.size ≤ 1000
  a3 : x.f3.size ≤ 1000
  a6 : x.f6.size ≤ 1000
  a7 : x.f7.size ≤ 1000
theorem Dp.sz {x : S_impl_RecPhase} (h : Dp x) : SzR x := by
  obtain ⟨a, b, c, d, e⟩ := h
  exact ⟨by omega, by omega, by omega, by omega, by omega⟩
theorem slot_ok {b : List Int} (hb : Bytes b) (p : Int) (hp : 0 ≤ p) (hp1 : p ≤ 1000000000) : ∃ s : ByteArray, s.size ≤ 100 ∧ spec_l45Slot.f b p = some (s, b, p + 1) := by
  unfold spec_l45Slot.f
  obtain ⟨s, hs, e⟩ := of_ok hb p hp hp1 ([(⟨#[115, 49]⟩ : ByteArray), (⟨#[115, 49]⟩ : ByteArray), (⟨#[115, 50]⟩ : ByteArray), (⟨#[115, 51]⟩ : ByteArray), (⟨#[107, 101, 103]⟩ : ByteArray)] : List ByteArray) (by decide) (by decide)
  refine ⟨s, ?_, by rw [e]; rfl⟩
  simp only [List.mem_cons, List.mem_nil_iff, or_false] at hs
  rcases hs with rfl | rfl | rfl | rfl | rfl <;> decide
abbrev TP := ByteArray × Int × ByteArray × ByteArray × Int × Int × ByteArray × ByteArray × List Int × Int
def phT (t : TP) : S_impl_RecPhase := ⟨t.1, t.2.1, t.2.2.1, t.2.2.2.1, t.2.2.2.2.1, t.2.2.2.2.2.1, t.2.2.2.2.2.2.1, t.2.2.2.2.2.2.2.1⟩
def QP (b : List Int) (p : Int) (t : TP) : Prop := Dp (phT t) ∧ t.2.2.2.2.2.2.2.2.1 = b ∧ p ≤ t.2.2.2.2.2.2.2.2.2 ∧ t.2.2.2.2.2.2.2.2.2 ≤ p + 20
theorem l45PhaseJ {b : List Int} (hb : Bytes b) (name : ByteArray) (later : List ByteArray) (hn : name.size ≤ 1000) (hl : later.length ≤ 100) (hlz : ∀ x ∈ later, x.size ≤ 1000) (t59 : Int × List Int × Int) (t60 : ByteArray × List Int × Int) (t61 : Int × List Int × Int) (hs : t60.1.size ≤ 100)
    (p p0 : Int) (h0 : 0 ≤ p0) (hp0 : p0 ≤ p) (hp1 : p ≤ p0 + 10) (hp : p ≤ 100000000) (B : ByteArray) (hB : B.size ≤ 100) (N : Int) : ExP (fun k => spec_l45Phase.j0 k name later t59 t60 t61 b p B N) (QP b p0) := by
  have hlist : ∀ x ∈ (([(⟨#[103, 111, 111, 100]⟩ : ByteArray), (⟨#[115, 97, 118, 101, 100]⟩ : ByteArray), (⟨#[115, 99, 114, 97, 112, 112, 101, 100]⟩ : ByteArray)] : List ByteArray) ++ later), x.size ≤ 1000 := fun x hx => by
    rcases List.mem_append.1 hx with hx | hx
    · simp only [List.mem_cons, List.mem_nil_iff, or_false] at hx
      rcases hx with rfl | rfl | rfl <;> decide
    · exact hlz x hx
  have hlen : (([(⟨#[103, 111, 111, 100]⟩ : ByteArray), (⟨#[115, 97, 118, 101, 100]⟩ : ByteArray), (⟨#[115, 99, 114, 97, 112, 112, 101, 100]⟩ : ByteArray)] : List ByteArray) ++ later).length = 3 + later.length := by simp; omega
  refine exp_step (fun k => by rw [spec_l45Phase.j0]) (exp_pos (by omega) ?_)
  obtain ⟨u, hu, e1⟩ := of_ok hb p (by omega) (by omega) _ (by rw [hlen]; omega) (by rw [hlen]; omega)
  refine exp_let e1 ?_
  dsimp only
  obtain ⟨v, hv, e2⟩ := of_ok hb (p + 1) (by omega) (by omega) _ (by rw [hlen]; omega) (by rw [hlen]; omega)
  refine exp_let e2 ?_
  dsimp only
  have hu' := hlist u hu; have hv' := hlist v hv
  refine exp_ite (fun c => ?_) (fun c => exp_ret ⟨⟨hn, by show t60.1.size ≤ 1000; omega, by show B.size ≤ 1000; omega, hu', hv'⟩, rfl, by dsimp only; omega, by dsimp only; omega⟩)
  obtain ⟨w, _, e3⟩ := pick_ok hb (p + 1 + 1) 4 (by omega) (by omega) (by omega)
  refine exp_let e3 ?_
  dsimp only
  refine exp_ite (fun _ => exp_pos (by omega) (exp_ret ⟨⟨hn, by show t60.1.size ≤ 1000; omega, by show B.size ≤ 1000; omega, ?_, hv'⟩, rfl, by dsimp only; omega, by dsimp only; omega⟩)) (fun _ => exp_ret ⟨⟨hn, by show t60.1.size ≤ 1000; omega, by show B.size ≤ 1000; omega, hu', hv'⟩, rfl, by dsimp only; omega, by dsimp only; omega⟩)
  show (rdOf ByteArray.empty later 0).size ≤ 1000
  exact hlz _ (mem_getD ByteArray.empty later 0 (by omega))
theorem l45Phase_ok {b : List Int} (hb : Bytes b) (p : Int) (h0 : 0 ≤ p) (hp : p ≤ 10000000) (name : ByteArray) (later : List ByteArray) (hn : name.size ≤ 1000) (hl : later.length ≤ 100) (hlz : ∀ x ∈ later, x.size ≤ 1000) : ExP (fun k => spec_l45Phase.f k b p name later) (QP b p) := by
  unfold spec_l45Phase.f
  obtain ⟨v, ⟨v0, v1, _⟩, e1⟩ := pick_ok hb p 5 (by omega) (by omega) (by omega)
  refine exp_let e1 ?_
  dsimp only
  obtain ⟨s, hs, e2⟩ := slot_ok hb (p + 1) (by omega) (by omega)
  refine exp_let e2 ?_
  dsimp only
  obtain ⟨w, ⟨w0, w1, _⟩, e3⟩ := pick_ok hb (p + 1 + 1) 20 (by omega) (by omega) (by omega)
  have w1 := w1 (by omega)
  refine exp_let e3 ?_
  dsimp only
  have zv : (⟨#[118, 97, 116]⟩ : ByteArray).size ≤ 100 := by decide
  have ze : (⟨#[]⟩ : ByteArray).size ≤ 100 := by decide
  refine exp_ite (fun _ => ?_) (fun _ => exp_ite (fun _ => ?_) (fun _ => exp_ite (fun _ => ?_) (fun _ => ?_)))
  · obtain ⟨u, hu, e4⟩ := of_ok hb (p + 1 + 1 + 1) (by omega) (by omega) ([(⟨#[97, 108, 101]⟩ : ByteArray), (⟨#[109, 97, 108, 116]⟩ : ByteArray)] : List ByteArray) (by decide) (by decide)
    have hu' : u.size ≤ 100 := by
      simp only [List.mem_cons, List.mem_nil_iff, or_false] at hu
      rcases hu with rfl | rfl <;> decide
    refine exp_let e4 ?_
    dsimp only
    obtain ⟨x, _, e5⟩ := pick_ok hb (p + 1 + 1 + 1 + 1) 30 (by omega) (by omega) (by omega)
    refine exp_let e5 ?_
    dsimp only
    exact l45PhaseJ hb name later hn hl hlz _ _ _ hs _ p h0 (by omega) (by omega) (by omega) _ hu' _
  · obtain ⟨u, hu, e4⟩ := slot_ok hb (p + 1 + 1 + 1) (by omega) (by omega)
    refine exp_let e4 ?_
    dsimp only
    refine exp_ite (fun _ => ?_) (fun _ => ?_)
    · obtain ⟨x, _, e5⟩ := pick_ok hb (p + 1 + 1 + 1 + 1) 30 (by omega) (by omega) (by omega)
      refine exp_let e5 ?_
      dsimp only
      exact l45PhaseJ hb name later hn hl hlz _ _ _ hs _ p h0 (by omega) (by omega) (by omega) _ zv _
    · obtain ⟨x, _, e5⟩ := pick_ok hb (p + 1 + 1 + 1 + 1) 30 (by omega) (by omega) (by omega)
      refine exp_let e5 ?_
      dsimp only
      exact l45PhaseJ hb name later hn hl hlz _ _ _ hs _ p h0 (by omega) (by omega) (by omega) _ hu _
  · have hw : wrap64 (1 + w) = 1 + w := w64 (by omega) (by omega)
    rw [hw]
    obtain ⟨x, _, e5⟩ := pick_ok hb (p + 1 + 1 + 1) (1 + w) (by omega) (by omega) (by omega)
    refine exp_let e5 ?_
    dsimp only
    exact l45PhaseJ hb name later hn hl hlz _ _ _ hs _ p h0 (by omega) (by omega) (by omega) _ ze _
  · exact l45PhaseJ hb name later hn hl hlz _ _ _ hs _ p h0 (by omega) (by omega) (by omega) _ ze _
/-- a recipe, and where the reader is -/
abbrev TR := List S_impl_RecPhase × List Int × Int
def QR (b : List Int) (lo hi : Int) (n0 n1 : Nat) (t : TR) : Prop := (n0 ≤ t.1.length ∧ t.1.length ≤ n1 ∧ ∀ x ∈ t.1, Dp x) ∧ t.2.1 = b ∧ lo ≤ t.2.2 ∧ t.2.2 ≤ hi
theorem dec_small_size {n : Int} (h0 : 0 ≤ n) (h : n ≤ 100) : (decB n).size ≤ 101 := by
  have := dec_len n.toNat n.toNat (Nat.le_refl _)
  show (_ : List UInt8).toArray.size ≤ 101
  rw [List.size_toArray]; omega
theorem dp_app {l : List S_impl_RecPhase} {x : S_impl_RecPhase} (h : ∀ z ∈ l, Dp z) (hx : Dp x) : ∀ z ∈ l ++ [x], Dp z := fun z hz => by
  rcases List.mem_append.1 hz with hz | hz
  · exact h z hz
  · rw [List.mem_singleton] at hz; subst hz; exact hx
theorem recipe1 {b : List Int} (hb : Bytes b) : ∀ (m : Nat) (l : List S_impl_RecPhase) (i : Nat) (p : Int), l.length + m = 12 → (∀ x ∈ l, Dp x) → i + m ≤ 100 → 0 ≤ p → p + 30 * m ≤ 1000000 → ExP (fun k => spec_l45Recipe.l1 k l (i : Int) b p) (QR b p (p + 30 * m) l.length 12)
  | 0, l, i, p, hl, hd, hi, h0, hp => by
    refine exp_step (fun k => by rw [spec_l45Recipe.l1]) (exp_neg (by omega) (exp_ret ⟨⟨Nat.le_refl _, by dsimp only; omega, hd⟩, rfl, by dsimp only; omega, by dsimp only; omega⟩))
  | m + 1, l, i, p, hl, hd, hi, h0, hp => by
    refine exp_step (fun k => by rw [spec_l45Recipe.l1]) (exp_pos (by omega) ?_)
    refine exp_ev (l43Dec_ev i (i : Int) (by omega) (by omega) (by omega)) ?_
    have hds := dec_small_size (n := (i : Int)) (by omega) (by omega)
    have z1 : (⟨#[121]⟩ : ByteArray).size = 1 := rfl
    refine exp_pos (by omega) ?_
    refine exp_bind (l45Phase_ok hb p h0 (by omega) _ [] (by rw [ByteArray.size_append]; omega) (by simp) (fun x hx => by cases hx)) (fun t ht => ?_)
    obtain ⟨d, hbb, q0, q1⟩ := ht
    refine exp_pos (by omega) ?_
    rw [hbb, wsucc (n := 100) (by omega) (by omega)]
    refine exp_mono (recipe1 hb m (l ++ [phT t]) (i + 1) _ (by simp; omega) (dp_app hd d) (by omega) (by omega) (by omega)) (fun q hq => ?_)
    obtain ⟨⟨a1, a2, a3⟩, a4, a5, a6⟩ := hq
    rw [List.length_append] at a1
    exact ⟨⟨by omega, a2, a3⟩, a4, by omega, by omega⟩
theorem recipe0 {b : List Int} (hb : Bytes b) (names : List ByteArray) (hnl : names.length = 8) (hnz : ∀ x ∈ names, x.size ≤ 1000) (v : Int) (t123 : Int × List Int × Int) (hv : t123.1 = v) (hv0 : 0 ≤ v) (hv1 : v < 8) : ∀ (m : Nat) (l : List S_impl_RecPhase) (p : Int), (l.length : Int) + m = 1 + v → (∀ x ∈ l, Dp x) → 0 ≤ p → p + 30 * m + 1000 ≤ 1000000 →
    ExP (fun k => spec_l45Recipe.l0 k l (l.length : Int) names t123 b p) (QR b p (p + 30 * m + 1000) (l.length + m) 12)
  | 0, l, p, hl, hd, h0, hp => by
    have hw : wrap64 (1 + t123.1) = 1 + v := by rw [hv]; exact w64 (by omega) (by omega)
    refine exp_step (fun k => by rw [spec_l45Recipe.l0]) ?_
    rw [hw]
    refine exp_neg (by omega) ?_
    obtain ⟨x, _, e⟩ := pick_ok hb p 20 (by omega) (by omega) (by omega)
    refine exp_let e ?_
    dsimp only
    refine exp_ite (fun _ => ?_) (fun _ => exp_ret ⟨⟨by dsimp only; omega, by dsimp only; omega, hd⟩, rfl, by dsimp only; omega, by dsimp only; omega⟩)
    refine exp_mono (recipe1 hb (12 - l.length) l 0 (p + 1) (by omega) hd (by omega) (by omega) (by omega)) (fun q hq => ?_)
    obtain ⟨⟨a1, a2, a3⟩, a4, a5, a6⟩ := hq
    exact ⟨⟨by omega, a2, a3⟩, a4, by omega, by omega⟩
  | m + 1, l, p, hl, hd, h0, hp => by
    have hw : wrap64 (1 + t123.1) = 1 + v := by rw [hv]; exact w64 (by omega) (by omega)
    refine exp_step (fun k => by rw [spec_l45Recipe.l0]) ?_
    rw [hw, wsucc (n := 100) (by omega) (by omega)]
    refine exp_pos (by omega) (exp_pos (by omega) (exp_pos (by omega) (exp_pos (by omega) (exp_pos (by omega) (exp_pos (by omega) ?_)))))
    refine exp_bind (l45Phase_ok hb p h0 (by omega) _ _ (by rw [rdOf_nat]; exact hnz _ (mem_getD _ _ _ (by omega))) (by rw [List.length_drop, List.length_take]; omega) (fun x hx => hnz x (List.mem_of_mem_take (List.mem_of_mem_drop hx)))) (fun t ht => ?_)
    obtain ⟨d, hbb, q0, q1⟩ := ht
    refine exp_pos (by omega) ?_
    rw [hbb]
    have hlen : (l ++ [phT t]).length = l.length + 1 := by simp
    have ih := recipe0 hb names hnl hnz v t123 hv hv0 hv1 m (l ++ [phT t]) t.2.2.2.2.2.2.2.2.2 (by rw [hlen]; omega) (dp_app hd d) (by omega) (by omega)
    rw [hlen] at ih
    refine exp_mono ih (fun q hq => ?_)
    obtain ⟨⟨a1, a2, a3⟩, a4, a5, a6⟩ := hq
    exact ⟨⟨by omega, a2, a3⟩, a4, by omega, by omega⟩
theorem recipe_ok {b : List Int} (hb : Bytes b) (p : Int) (h0 : 0 ≤ p) (hp : p ≤ 1000) : ExP (fun k => spec_l45Recipe.f k b p) (QR b p (p + 2000) 1 12) := by
  unfold spec_l45Recipe.f
  have eN : spec_l45Names.f = some ([(⟨#[98, 114, 101, 119]⟩ : ByteArray), (⟨#[102, 49]⟩ : ByteArray), (⟨#[102, 50]⟩ : ByteArray), (⟨#[103]⟩ : ByteArray), (⟨#[104]⟩ : ByteArray), (⟨#[109, 97, 115, 104]⟩ : ByteArray), (⟨#[114, 101, 115, 116]⟩ : ByteArray), (⟨#[120, 45, 57]⟩ : ByteArray)] : List ByteArray) := rfl
  refine exp_let eN ?_
  obtain ⟨v, ⟨v0, v1, _⟩, e⟩ := pick_ok hb p 8 (by omega) (by omega) (by omega)
  have v1 := v1 (by omega)
  refine exp_let e ?_
  dsimp only
  obtain ⟨n, rfl⟩ : ∃ n : Nat, v = (n : Int) := ⟨v.toNat, by omega⟩
  refine exp_mono (recipe0 hb _ rfl (fun x hx => by
    simp only [List.mem_cons, List.mem_nil_iff, or_false] at hx
    rcases hx with rfl | rfl | rfl | rfl | rfl | rfl | rfl | rfl <;> decide) (n : Int) _ rfl v0 v1 (n + 1) [] (p + 1) (by simp; omega) (fun x hx => by cases hx) (by omega) (by omega)) (fun q hq => ?_)
  obtain ⟨⟨a1, a2, a3⟩, a4, a5, a6⟩ := hq
  exact ⟨⟨by simp at a1; omega, a2, a3⟩, a4, by omega, by omega⟩
theorem spoilPhase_ok {b : List Int} (hb : Bytes b) (p : Int) (h0 : 0 ≤ p) (hp : p ≤ 1000000) (x : S_impl_RecPhase) (hx : Dp x) : ∃ t : TP, QP b p t ∧ spec_l45SpoilPhase.f b p x.f0 x.f1 x.f2 x.f3 x.f4 x.f5 x.f6 x.f7 = some t := by
  have key : ExP (fun _ => spec_l45SpoilPhase.f b p x.f0 x.f1 x.f2 x.f3 x.f4 x.f5 x.f6 x.f7) (QP b p) := by
    unfold spec_l45SpoilPhase.f
    obtain ⟨a0, a2, a3, a6, a7⟩ := hx
    obtain ⟨v, _, e⟩ := pick_ok hb p 8 (by omega) (by omega) (by omega)
    refine exp_let e ?_
    dsimp only
    have of5 : ∀ (L : List ByteArray), 1 ≤ L.length → L.length ≤ 100 → (∀ y ∈ L, y.size ≤ 1000) → ∃ s : ByteArray, s.size ≤ 1000 ∧ spec_l41Rd_of.f b (p + 1) L = some (s, b, p + 1 + 1) := fun L h1 h2 h3 => by
      obtain ⟨s, hs, e⟩ := of_ok hb (p + 1) (by omega) (by omega) L h1 (by omega)
      exact ⟨s, h3 s hs, e⟩
    refine exp_ite (fun _ => ?_) (fun _ => exp_ite (fun _ => ?_) (fun _ => exp_ite (fun _ => ?_) (fun _ => exp_ite (fun _ => ?_) (fun _ => exp_ite (fun _ => ?_) (fun _ => exp_ite (fun _ => ?_) (fun _ => exp_ite (fun _ => ?_) (fun _ => ?_)))))))
    · obtain ⟨s, hs, e2⟩ := of5 ([(⟨#[]⟩ : ByteArray), (⟨#[65]⟩ : ByteArray), (⟨#[103, 111, 111, 100]⟩ : ByteArray), (⟨#[102, 49]⟩ : ByteArray), (⟨#[110, 105, 110, 101, 45, 98, 121, 116, 101, 115]⟩ : ByteArray)] : List ByteArray) (by decide) (by decide) (fun y hy => by
        simp only [List.mem_cons, List.mem_nil_iff, or_false] at hy
        rcases hy with rfl | rfl | rfl | rfl | rfl <;> decide)
      exact exp_let e2 (exp_ret ⟨⟨hs, a2, a3, a6, a7⟩, rfl, by dsimp only; omega, by dsimp only; omega⟩)
    · obtain ⟨s, _, e2⟩ := pick_ok hb (p + 1) 8 (by omega) (by omega) (by omega)
      exact exp_let e2 (exp_ret ⟨⟨a0, a2, a3, a6, a7⟩, rfl, by dsimp only; omega, by dsimp only; omega⟩)
    · obtain ⟨s, hs, e2⟩ := of5 ([(⟨#[]⟩ : ByteArray), (⟨#[65]⟩ : ByteArray), x.f3, (⟨#[103, 111, 111, 100]⟩ : ByteArray)] : List ByteArray) (by simp) (by simp) (fun y hy => by
        simp only [List.mem_cons, List.mem_nil_iff, or_false] at hy
        rcases hy with rfl | rfl | rfl | rfl
        · decide
        · decide
        · exact a3
        · decide)
      exact exp_let e2 (exp_ret ⟨⟨a0, hs, a3, a6, a7⟩, rfl, by dsimp only; omega, by dsimp only; omega⟩)
    · obtain ⟨s, hs, e2⟩ := of5 ([(⟨#[]⟩ : ByteArray), (⟨#[65]⟩ : ByteArray), x.f2, (⟨#[103, 111, 111, 100]⟩ : ByteArray)] : List ByteArray) (by simp) (by simp) (fun y hy => by
        simp only [List.mem_cons, List.mem_nil_iff, or_false] at hy
        rcases hy with rfl | rfl | rfl | rfl
        · decide
        · decide
        · exact a2
        · decide)
      exact exp_let e2 (exp_ret ⟨⟨a0, a2, hs, a6, a7⟩, rfl, by dsimp only; omega, by dsimp only; omega⟩)
    · obtain ⟨s, ⟨s0, s1, _⟩, e2⟩ := pick_ok hb (p + 1) 7 (by omega) (by omega) (by omega)
      have s1 := s1 (by omega)
      exact exp_let e2 (exp_pos s0 (exp_pos s1 (exp_ret ⟨⟨a0, a2, a3, a6, a7⟩, rfl, by dsimp only; omega, by dsimp only; omega⟩)))
    · obtain ⟨s, ⟨s0, s1, _⟩, e2⟩ := pick_ok hb (p + 1) 5 (by omega) (by omega) (by omega)
      have s1 := s1 (by omega)
      exact exp_let e2 (exp_pos s0 (exp_pos s1 (exp_ret ⟨⟨a0, a2, a3, a6, a7⟩, rfl, by dsimp only; omega, by dsimp only; omega⟩)))
    · obtain ⟨s, hs, e2⟩ := of5 ([(⟨#[]⟩ : ByteArray), (⟨#[98, 114, 101, 119]⟩ : ByteArray), (⟨#[102, 49]⟩ : ByteArray), (⟨#[114, 101, 115, 116]⟩ : ByteArray), (⟨#[110, 111, 110, 101]⟩ : ByteArray)] : List ByteArray) (by decide) (by decide) (fun y hy => by
        simp only [List.mem_cons, List.mem_nil_iff, or_false] at hy
        rcases hy with rfl | rfl | rfl | rfl | rfl <;> decide)
      exact exp_let e2 (exp_ret ⟨⟨a0, a2, a3, hs, a7⟩, rfl, by dsimp only; omega, by dsimp only; omega⟩)
    · obtain ⟨s, hs, e2⟩ := of5 ([(⟨#[]⟩ : ByteArray), (⟨#[98, 114, 101, 119]⟩ : ByteArray), (⟨#[102, 49]⟩ : ByteArray), (⟨#[114, 101, 115, 116]⟩ : ByteArray), (⟨#[110, 111, 110, 101]⟩ : ByteArray)] : List ByteArray) (by decide) (by decide) (fun y hy => by
        simp only [List.mem_cons, List.mem_nil_iff, or_false] at hy
        rcases hy with rfl | rfl | rfl | rfl | rfl <;> decide)
      exact exp_let e2 (exp_ret ⟨⟨a0, a2, a3, a6, hs⟩, rfl, by dsimp only; omega, by dsimp only; omega⟩)
  obtain ⟨t, ⟨N, hN⟩, hq⟩ := key
  exact ⟨t, hq, hN N (Nat.le_refl _)⟩
/-! ### recipes, spoilt -/
theorem spoil0 {b : List Int} (hb : Bytes b) (v : Int) (t248 : Int × List Int × Int) (hv : t248.1 = v) (hv0 : 0 ≤ v) (hv1 : v < 2) : ∀ (m : Nat) (l : List S_impl_RecPhase) (i : Nat) (p : Int), (12 + v).toNat - l.length ≤ m → l.length ≤ 14 → (∀ x ∈ l, Dp x) → i + m ≤ 100 → 0 ≤ p → p + 30 * m ≤ 1000000 → ExP (fun k => spec_l45Spoil.l0 k l (i : Int) t248 b p) (QR b p (p + 30 * m) 0 14)
  | 0, l, i, p, hl, hl2, hd, hi, h0, hp => by
    have hw : wrap64 (12 + t248.1) = 12 + v := by rw [hv]; exact w64 (by omega) (by omega)
    refine exp_step (fun k => by rw [spec_l45Spoil.l0]) ?_
    rw [hw]
    exact exp_neg (by omega) (exp_step (fun k => by rw [spec_l45Spoil.j0]) (exp_ret ⟨⟨Nat.zero_le _, hl2, hd⟩, rfl, by dsimp only; omega, by dsimp only; omega⟩))
  | m + 1, l, i, p, hl, hl2, hd, hi, h0, hp => by
    have hw : wrap64 (12 + t248.1) = 12 + v := by rw [hv]; exact w64 (by omega) (by omega)
    refine exp_step (fun k => by rw [spec_l45Spoil.l0]) ?_
    rw [hw]
    refine exp_ite (fun c => ?_) (fun c => exp_step (fun k => by rw [spec_l45Spoil.j0]) (exp_ret ⟨⟨Nat.zero_le _, hl2, hd⟩, rfl, by dsimp only; omega, by dsimp only; omega⟩))
    refine exp_ev (l43Dec_ev i (i : Int) (by omega) (by omega) (by omega)) ?_
    have hds := dec_small_size (n := (i : Int)) (by omega) (by omega)
    have z1 : (⟨#[122]⟩ : ByteArray).size = 1 := rfl
    refine exp_pos (by omega) ?_
    refine exp_bind (l45Phase_ok hb p h0 (by omega) _ [] (by rw [ByteArray.size_append]; omega) (by simp) (fun x hx => by cases hx)) (fun t ht => ?_)
    obtain ⟨d, hbb, q0, q1⟩ := ht
    refine exp_pos (by omega) ?_
    rw [hbb, wsucc (n := 100) (by omega) (by omega)]
    refine exp_mono (spoil0 hb v t248 hv hv0 hv1 m (l ++ [phT t]) (i + 1) _ (by simp; omega) (by simp; omega) (dp_app hd d) (by omega) (by omega) (by omega)) (fun q hq => ?_)
    obtain ⟨⟨a1, a2, a3⟩, a4, a5, a6⟩ := hq
    exact ⟨⟨a1, a2, a3⟩, a4, by omega, by omega⟩
theorem dp_set {l : List S_impl_RecPhase} {x : S_impl_RecPhase} (h : ∀ z ∈ l, Dp z) (hx : Dp x) (i : Nat) : ∀ z ∈ l.set i x, Dp z := fun z hz => by
  rcases List.mem_or_eq_of_mem_set hz with hz | hz
  · exact h z hz
  · subst hz; exact hx
theorem spoil_ok {b : List Int} (hb : Bytes b) (p : Int) (h0 : 0 ≤ p) (hp : p ≤ 10000) (l : List S_impl_RecPhase) (hl0 : 1 ≤ l.length) (hl : l.length ≤ 12) (hd : ∀ x ∈ l, Dp x) : ExP (fun k => spec_l45Spoil.f k b p l) (QR b p (p + 2000) 0 14) := by
  unfold spec_l45Spoil.f
  refine exp_pos (by omega) ?_
  obtain ⟨v, ⟨v0, v1, _⟩, e1⟩ := pick_ok hb p (0 + l.length : Int) (by omega) (by omega) (by omega)
  have v1 := v1 (by omega)
  obtain ⟨n, rfl⟩ : ∃ n : Nat, v = (n : Int) := ⟨v.toNat, by omega⟩
  refine exp_let e1 ?_
  dsimp only
  obtain ⟨u, _, e2⟩ := pick_ok hb (p + 1) 6 (by omega) (by omega) (by omega)
  refine exp_let e2 ?_
  dsimp only
  have hnil : ([] : List S_impl_RecPhase) ++ l = l := rfl
  rw [hnil, rdRP]
  have hx := hd _ (mem_getD z_impl_RecPhase l n (by omega))
  have fin : ∀ (l' : List S_impl_RecPhase) (p' : Int), l'.length ≤ 14 → (∀ x ∈ l', Dp x) → p ≤ p' → p' ≤ p + 2000 → ExP (fun k => spec_l45Spoil.j0 k l' b p') (QR b p (p + 2000) 0 14) := fun l' p' g1 g2 g3 g4 =>
    exp_step (fun k => by rw [spec_l45Spoil.j0]) (exp_ret ⟨⟨Nat.zero_le _, g1, g2⟩, rfl, g3, g4⟩)
  refine exp_ite (fun _ => ?_) (fun _ => exp_ite (fun _ => ?_) (fun _ => exp_ite (fun _ => ?_) (fun _ => ?_)))
  · exact exp_pos v0 (exp_pos v1 (exp_pos (by omega) (fin _ _ (by simp; omega) (dp_app hd hx) (by omega) (by omega))))
  · exact exp_pos v0 (exp_pos v1 (exp_pos (by omega) (fin _ _ (by simp; omega) (dp_set hd hx _) (by omega) (by omega))))
  · obtain ⟨w, ⟨w0, w1, _⟩, e3⟩ := pick_ok hb (p + 1 + 1) 2 (by omega) (by omega) (by omega)
    have w1 := w1 (by omega)
    refine exp_let e3 ?_
    dsimp only
    refine exp_mono (spoil0 hb w _ rfl w0 w1 14 l 0 (p + 1 + 1 + 1) (by omega) (by omega) hd (by omega) (by omega) (by omega)) (fun q hq => ?_)
    obtain ⟨⟨a1, a2, a3⟩, a4, a5, a6⟩ := hq
    exact ⟨⟨a1, a2, a3⟩, a4, by omega, by omega⟩
  · refine exp_pos v0 (exp_pos v1 ?_)
    obtain ⟨t, ⟨d, hbb, q0, q1⟩, e3⟩ := spoilPhase_ok hb (p + 1 + 1) (by omega) (by omega) _ hx
    refine exp_let e3 ?_
    rw [hbb]
    exact fin _ _ (by simp; omega) (dp_set hd d _) (by omega) (by omega)
theorem any_ok {b : List Int} (hb : Bytes b) (p : Int) (h0 : 0 ≤ p) (hp : p ≤ 1000) : ExP (fun k => spec_l45Any.f k b p) (QR b p (p + 5000) 0 14) := by
  unfold spec_l45Any.f
  refine exp_bind (recipe_ok hb p h0 hp) (fun t ht => ?_)
  obtain ⟨⟨a1, a2, a3⟩, a4, a5, a6⟩ := ht
  rw [a4]
  obtain ⟨u, _, e2⟩ := pick_ok hb t.2.2 24 (by omega) (by omega) (by omega)
  refine exp_let e2 ?_
  dsimp only
  refine exp_ite (fun _ => ?_) (fun _ => exp_ite (fun _ => ?_) (fun _ => ?_))
  · refine exp_bind (spoil_ok hb (t.2.2 + 1) (by omega) (by omega) t.1 a1 a2 a3) (fun q hq => ?_)
    obtain ⟨⟨b1, b2, b3⟩, b4, b5, b6⟩ := hq
    exact exp_ret ⟨⟨b1, b2, b3⟩, b4, by dsimp only; omega, by dsimp only; omega⟩
  · exact exp_ret ⟨⟨Nat.zero_le _, by simp, fun x hx => by cases hx⟩, rfl, by dsimp only; omega, by dsimp only; omega⟩
  · exact exp_ret ⟨⟨Nat.zero_le _, by dsimp only; omega, a3⟩, rfl, by dsimp only; omega, by dsimp only; omega⟩
/-! ### a recipe, read: what the result says -/
theorem wfI {x : Int} (h0 : -9223372036854775808 ≤ x) (h1 : x ≤ 9223372036854775807) : (Lit.int .i64 x).wf = true := by
  simp [Lit.wf, IntKind.min, IntKind.max, IntKind.signed, IntKind.bits]
  exact ⟨h0, h1⟩
def ok_impl_RecPhase (_ : S_impl_RecPhase) : Prop := True
theorem phaseB_ok {x : S_impl_RecPhase} (_ : phaseB x = true) : ok_impl_RecPhase x := trivial
abbrev RR := List S_impl_RecPhase × Int × Int
def Good (R : RR) : Prop := (R.1.length ≤ 12 ∧ ∀ z ∈ R.1, ok_impl_RecPhase z) ∧ (0 ≤ R.2.1 ∧ R.2.1 ≤ 1000000000000) ∧ (0 ≤ R.2.2 ∧ R.2.2 ≤ 100)
theorem refersT (r : List S_impl_RecPhase) (at_ : List Int) (hr : r.length ≤ 12) (ha : at_.length = r.length) (hv : ∀ v ∈ at_, 0 ≤ v ∧ v ≤ 1000000000000) (hok : ∀ z ∈ r, ok_impl_RecPhase z) :
    ∃ f : Int × Int, Ev (fun k => spec_l43Refers.f k r at_) f ∧ (f = (0, 0) ∧ recN r 0 r = true ∧ Ev (fun k => impl_RecParse.l1 k r at_ 0) (if r.length = 0 then (([], 0, 6) : RR) else (r, 0, 0)) ∨ (f.2 = 4 ∧ recN r 0 r = false ∧ (0 ≤ f.1 ∧ f.1 ≤ 1000000000000) ∧ Ev (fun k => impl_RecParse.l1 k r at_ 0) (([], f.1, 4) : RR))) := by
  unfold spec_l43Refers.f
  refine loopL z_impl_RecPhase r (P := fun i s => ∃ f : Int × Int, Ev (fun k => spec_l43Refers.l0 k r at_ (i : Int)) f ∧ (f = (0, 0) ∧ recN r i s = true ∧ Ev (fun k => impl_RecParse.l1 k r at_ (i : Int)) (if r.length = 0 then (([], 0, 6) : RR) else (r, 0, 0)) ∨ (f.2 = 4 ∧ recN r i s = false ∧ (0 ≤ f.1 ∧ f.1 ≤ 1000000000000) ∧ Ev (fun k => impl_RecParse.l1 k r at_ (i : Int)) (([], f.1, 4) : RR))))
    ⟨(0, 0), by refine Ev.step (fun k => by rw [spec_l43Refers.l0]) ?_; exact ev_neg (by omega) (ev_ret rfl), .inl ⟨rfl, rfl, by
      refine Ev.step (fun k => by rw [impl_RecParse.l1]) ?_
      refine ev_neg (by omega) (ev_split (fun c => ev_ret (by rw [if_pos (by omega)])) (fun c => ev_ret (by rw [if_neg (by omega)])))⟩⟩ (fun i x rest hi hx hm _ ih => ?_)
  have hrl : r.length ≤ 140737488351232 := by omega
  have hat : rd at_ (i : Int) = at_.getD i 0 := rd_nat _ _
  have hav := hv _ (mem_getD 0 at_ i (by omega))
  have e6 : rdOf ByteArray.empty ([x.f6, x.f7] : List ByteArray) 0 = x.f6 := rfl
  have e7 : rdOf ByteArray.empty ([x.f6, x.f7] : List ByteArray) 1 = x.f7 := rfl
  have w0 : wrap64 (0 + 1) = 1 := by unfold wrap64; omega
  have w1 : wrap64 (1 + 1) = 2 := by unfold wrap64; omega
  have hN : recN r i (x :: rest) = ((onB r i x.f6 && onB r i x.f7) && recN r (i + 1) rest) := rfl
  have o6 : onB r i x.f6 = (!decide (endOf x.f6 = 0) || decide ((i : Int) < phIx x.f6 r 0)) := rfl
  have o7 : onB r i x.f7 = (!decide (endOf x.f7 = 0) || decide ((i : Int) < phIx x.f7 r 0)) := rfl
  have fault : (endOf x.f6 = 0 ∧ phIx x.f6 r 0 ≤ (i : Int)) ∨ (¬ (endOf x.f6 = 0 ∧ phIx x.f6 r 0 ≤ (i : Int)) ∧ endOf x.f7 = 0 ∧ phIx x.f7 r 0 ≤ (i : Int)) →
      Ev (fun k => spec_l43Refers.l0 k r at_ (i : Int)) (at_.getD i 0, 4) ∧ Ev (fun k => impl_RecParse.l1 k r at_ (i : Int)) (([], at_.getD i 0, 4) : RR) := fun h => by
    constructor
    · refine Ev.step (fun k => by rw [spec_l43Refers.l0]) (ev_pos (by omega) (ev_pos (by omega) ?_))
      rw [rdRP, hx, hat]
      refine Ev.bind (specEnd_ev _) (ev_split (fun c => Ev.bind (l42At_ev r x.f6 hrl) (ev_split (fun c2 => ev_pos (by omega) (ev_ret rfl)) (fun c2 => ?_))) (fun c => ?_))
      · rcases h with h | ⟨_, h1, h2⟩
        · exact absurd h.2 c2
        · exact Ev.bind (specEnd_ev _) (ev_pos h1 (Ev.bind (l42At_ev r x.f7 hrl) (ev_pos h2 (ev_pos (by omega) (ev_ret rfl)))))
      · rcases h with h | ⟨_, h1, h2⟩
        · exact absurd h.1 c
        · exact Ev.bind (specEnd_ev _) (ev_pos h1 (Ev.bind (l42At_ev r x.f7 hrl) (ev_pos h2 (ev_pos (by omega) (ev_ret rfl)))))
    · refine Ev.step (fun k => by rw [impl_RecParse.l1]) (ev_pos (by omega) (ev_pos (by omega) ?_))
      refine Ev.step (fun k => by rw [impl_RecParse.l2]) (ev_pos (by omega) (ev_pos (by omega) (ev_pos (by omega) ?_)))
      rw [rdRP, hx, hat, e6, w0]
      have q1 : (endOf x.f7 = 0 ∧ phIx x.f7 r 0 ≤ (i : Int)) → Ev (fun k => impl_RecParse.l2 k r at_ (i : Int) 1) (([], at_.getD i 0, 4) : RR) := fun h => by
        refine Ev.step (fun k => by rw [impl_RecParse.l2]) (ev_pos (by omega) (ev_pos (by omega) (ev_pos (by omega) ?_)))
        rw [rdRP, hx, hat, e7]
        exact Ev.bind (implEnd_ev _) (ev_pos h.1 (Ev.bind (phase_ev r x.f7 hrl) (ev_pos h.2 (ev_pos (by omega) (ev_ret rfl)))))
      refine Ev.bind (implEnd_ev _) (ev_split (fun c => Ev.bind (phase_ev r x.f6 hrl) (ev_split (fun c2 => ev_pos (by omega) (ev_ret rfl)) (fun c2 => ?_))) (fun c => ?_))
      · rcases h with h | ⟨_, h⟩
        · exact absurd h.2 c2
        · exact q1 h
      · rcases h with h | ⟨_, h⟩
        · exact absurd h.1 c
        · exact q1 h
  by_cases A : endOf x.f6 = 0 ∧ phIx x.f6 r 0 ≤ (i : Int)
  · obtain ⟨g1, g2⟩ := fault (.inl A)
    exact ⟨_, g1, .inr ⟨rfl, by rw [hN, o6, decide_eq_true A.1, decide_eq_false (by omega : ¬ (i : Int) < phIx x.f6 r 0)]; rfl, hav, g2⟩⟩
  by_cases B : endOf x.f7 = 0 ∧ phIx x.f7 r 0 ≤ (i : Int)
  · obtain ⟨g1, g2⟩ := fault (.inr ⟨A, B⟩)
    exact ⟨_, g1, .inr ⟨rfl, by rw [hN, o7, decide_eq_true B.1, decide_eq_false (by omega : ¬ (i : Int) < phIx x.f7 r 0)]; simp, hav, g2⟩⟩
  have b6 : onB r i x.f6 = true := by
    rw [o6]; by_cases c : endOf x.f6 = 0
    · rw [decide_eq_true (show (i : Int) < phIx x.f6 r 0 from Int.not_le.1 (fun q => A ⟨c, q⟩))]; simp
    · rw [decide_eq_false c]; rfl
  have b7 : onB r i x.f7 = true := by
    rw [o7]; by_cases c : endOf x.f7 = 0
    · rw [decide_eq_true (show (i : Int) < phIx x.f7 r 0 from Int.not_le.1 (fun q => B ⟨c, q⟩))]; simp
    · rw [decide_eq_false c]; rfl
  rw [hN, b6, b7]
  obtain ⟨f, g1, g2⟩ := ih
  have hs : Ev (fun k => spec_l43Refers.l0 k r at_ (i : Int)) f := by
    refine Ev.step (fun k => by rw [spec_l43Refers.l0]) (ev_pos (by omega) (ev_pos (by omega) ?_))
    rw [rdRP, hx, wsucc hi (by omega)]
    have tl : Ev (fun k => (spec_RecEnd.f x.f7).bind fun t => if t = 0 then (spec_l42At.f k r x.f7).bind fun t2 => if t2 ≤ (i : Int) then (if (i : Int) < (at_.length : Int) then some (rd at_ (i : Int), 4) else none) else spec_l43Refers.l0 k r at_ ((i + 1 : Nat) : Int) else spec_l43Refers.l0 k r at_ ((i + 1 : Nat) : Int)) f := by
      refine Ev.bind (specEnd_ev _) (ev_split (fun c => Ev.bind (l42At_ev r x.f7 hrl) (ev_neg (fun q => B ⟨c, q⟩) g1)) (fun c => g1))
    refine Ev.bind (specEnd_ev _) (ev_split (fun c => Ev.bind (l42At_ev r x.f6 hrl) (ev_neg (fun q => A ⟨c, q⟩) tl)) (fun c => tl))
  have hi2 : ∀ R : RR, Ev (fun k => impl_RecParse.l1 k r at_ ((i + 1 : Nat) : Int)) R → Ev (fun k => impl_RecParse.l1 k r at_ (i : Int)) R := fun R hR => by
    have q2 : Ev (fun k => impl_RecParse.l2 k r at_ (i : Int) 2) R := by
      refine Ev.step (fun k => by rw [impl_RecParse.l2]) ?_
      rw [wsucc hi (by omega)]
      exact ev_neg (by omega) hR
    have q1 : Ev (fun k => impl_RecParse.l2 k r at_ (i : Int) 1) R := by
      refine Ev.step (fun k => by rw [impl_RecParse.l2]) (ev_pos (by omega) (ev_pos (by omega) (ev_pos (by omega) ?_)))
      rw [rdRP, hx, e7, w1]
      exact Ev.bind (implEnd_ev _) (ev_split (fun c => Ev.bind (phase_ev r x.f7 hrl) (ev_neg (fun q => B ⟨c, q⟩) q2)) (fun c => q2))
    refine Ev.step (fun k => by rw [impl_RecParse.l1]) (ev_pos (by omega) (ev_pos (by omega) ?_))
    refine Ev.step (fun k => by rw [impl_RecParse.l2]) (ev_pos (by omega) (ev_pos (by omega) (ev_pos (by omega) ?_)))
    rw [rdRP, hx, e6, w0]
    exact Ev.bind (implEnd_ev _) (ev_split (fun c => Ev.bind (phase_ev r x.f6 hrl) (ev_neg (fun q => A ⟨c, q⟩) q1)) (fun c => q1))
  refine ⟨f, hs, ?_⟩
  rcases g2 with ⟨e, e2, g⟩ | ⟨e, e2, b, g⟩
  · exact .inl ⟨e, by rw [e2]; rfl, hi2 _ g⟩
  · exact .inr ⟨e, by rw [e2]; rfl, b, hi2 _ g⟩
theorem wsp_lens : ∀ (bs cur : List UInt8) (out o : List ByteArray), (∀ w ∈ out, w.size ≤ 24) → cur.length ≤ 24 → wsp bs cur out = some o → o.length ≤ out.length + bs.length ∧ ∀ w ∈ o, w.size ≤ 24
  | [], cur, out, o, ho, _, h => by injection h with h; subst h; exact ⟨by simp, ho⟩
  | b :: l, cur, out, o, ho, hc, h => by
    rw [wsp] at h
    split at h
    · split at h
      · have := wsp_lens l cur out o ho hc h; exact ⟨by simp; omega, this.2⟩
      · have := wsp_lens l [] (out ++ [mkB cur]) o (fun w hw => by
          rcases List.mem_append.1 hw with hw | hw
          · exact ho w hw
          · rw [List.mem_singleton] at hw; subst hw; rw [mkB_size]; exact hc) (by simp) h
        refine ⟨?_, this.2⟩
        have h1 := this.1
        simp at h1 ⊢; omega
    · split at h
      · rename_i hv
        have := wsp_lens l (cur ++ [b]) out o ho (by simp; omega) h; exact ⟨by simp; omega, this.2⟩
      · cases h
/-! ### what is read so far -/
def OwnL (r : List S_impl_RecPhase) : Prop := ∀ j : Nat, j < r.length → phaseB (r.getD j z_impl_RecPhase) = true ∧ phIx (r.getD j z_impl_RecPhase).f0 r 0 = (j : Int)
theorem phIx_ge (a : ByteArray) : ∀ (r : List S_impl_RecPhase) (i : Nat), phIx a r i = -1 ∨ (i : Int) ≤ phIx a r i
  | [], _ => .inl rfl
  | y :: r, i => by
    rw [show phIx a (y :: r) i = if y.f0 = a then (i : Int) else phIx a r (i + 1) from rfl]
    split
    · exact .inr (Int.le_refl _)
    · rcases phIx_ge a r (i + 1) with h | h
      · exact .inl h
      · right; omega
theorem phIx_app (a : ByteArray) (s : List S_impl_RecPhase) : ∀ (r : List S_impl_RecPhase) (i : Nat), phIx a (r ++ s) i = if phIx a r i < 0 then phIx a s (i + r.length) else phIx a r i
  | [], i => by simp [phIx]
  | y :: r, i => by
    rw [List.cons_append, show phIx a (y :: (r ++ s)) i = if y.f0 = a then (i : Int) else phIx a (r ++ s) (i + 1) from rfl, show phIx a (y :: r) i = if y.f0 = a then (i : Int) else phIx a r (i + 1) from rfl]
    by_cases c : y.f0 = a
    · rw [if_pos c, if_pos c, if_neg (by omega)]
    · rw [if_neg c, if_neg c, phIx_app a s r (i + 1), List.length_cons, show i + 1 + r.length = i + (r.length + 1) by omega]
theorem ownL_nil : OwnL [] := fun j h => by simp at h
theorem ownL_app {r : List S_impl_RecPhase} {p : S_impl_RecPhase} (h : OwnL r) (hp : phaseB p = true) (hn : ¬ phIx p.f0 r 0 ≥ 0) : OwnL (r ++ [p]) := fun j hj => by
  rw [List.length_append, List.length_singleton] at hj
  by_cases c : j < r.length
  · have e : (r ++ [p]).getD j z_impl_RecPhase = r.getD j z_impl_RecPhase := by
      rw [List.getD_eq_getElem?_getD, List.getD_eq_getElem?_getD, List.getElem?_append_left c]
    obtain ⟨h1, h2⟩ := h j c
    rw [e]
    exact ⟨h1, by rw [phIx_app, h2, if_neg (by omega)]⟩
  · have hj' : j = r.length := by omega
    subst hj'
    have e : (r ++ [p]).getD r.length z_impl_RecPhase = p := by
      rw [List.getD_eq_getElem?_getD, List.getElem?_append_right (Nat.le_refl _), Nat.sub_self]; rfl
    rw [e]
    refine ⟨hp, ?_⟩
    rw [phIx_app, if_pos (by omega)]
    simp [phIx]
theorem recA_of {r : List S_impl_RecPhase} (h : OwnL r) : recA r 0 r = true :=
  loopL z_impl_RecPhase r (P := fun i s => recA r i s = true) rfl (fun i x s hi hx _ _ ih => by
    obtain ⟨h1, h2⟩ := h i hi
    rw [hx] at h1 h2
    rw [show recA r i (x :: s) = (ownB r i x && recA r (i + 1) s) from rfl, ih, show ownB r i x = (phaseB x && decide (phIx x.f0 r 0 = (i : Int))) from rfl, h1, decide_eq_true h2]; rfl)
theorem recB_of {r : List S_impl_RecPhase} (h : OwnL r) (h0 : ¬ r.length = 0) (h12 : r.length ≤ 12) (hN : recN r 0 r = true) : recB r = true := by
  unfold recB
  rw [recA_of h, hN, inB_t (by omega)]; rfl
/-- a result that is told: ok if there is no fault, nothing else -/
def GoodT (R : RR) : Prop := Good R ∧ (R.2.2 = 0 → recB R.1 = true) ∧ (R.2.2 ≠ 0 → R.1 = [])
theorem linesT (ls : List ByteArray) (hls : ls.length ≤ 60) (hz : ∀ x ∈ ls, x.size ≤ 4000) : ∃ R : RR, GoodT R ∧ Ev (fun k => spec_RecParse.l0 k [] [] 0 ls) R ∧ Ev (fun k => impl_RecParse.l0 k [] [] 0 ls) R := by
  have key := loopL ByteArray.empty ls (P := fun i _ => ∀ (r : List S_impl_RecPhase) (at_ : List Int), r.length ≤ 12 → at_.length = r.length → (∀ v ∈ at_, 0 ≤ v ∧ v ≤ 1000000000000) → (∀ z ∈ r, ok_impl_RecPhase z) → OwnL r →
      ∃ R : RR, GoodT R ∧ Ev (fun k => spec_RecParse.l0 k r at_ (i : Int) ls) R ∧ Ev (fun k => impl_RecParse.l0 k r at_ (i : Int) ls) R)
    (fun r at_ hr ha hv hok how => by
      obtain ⟨f, g1, g2⟩ := refersT r at_ hr ha hv hok
      rcases g2 with ⟨rfl, gN, g⟩ | ⟨e, gN, b, g⟩
      · refine ⟨if r.length = 0 then (([], 0, 6) : RR) else (r, 0, 0), ?_, ?_, ?_⟩
        · split
          · exact ⟨⟨⟨by simp, fun z hz => by cases hz⟩, by simp, by simp⟩, by simp, fun _ => rfl⟩
          · rename_i cz
            exact ⟨⟨⟨hr, hok⟩, by simp, by simp⟩, fun _ => recB_of how cz hr gN, by simp⟩
        · refine Ev.step (fun k => by rw [spec_RecParse.l0]) ?_
          refine ev_neg (by omega) (Ev.bind g1 (ev_pos rfl (ev_split (fun c => ev_ret ?_) (fun c => ev_ret ?_))))
          · rw [if_pos (by omega)]
            have : r = [] := List.eq_nil_of_length_eq_zero (by omega)
            rw [this]
          · rw [if_neg (by omega)]
        · refine Ev.step (fun k => by rw [impl_RecParse.l0]) ?_
          exact ev_neg (by omega) g
      · refine ⟨([], f.1, 4), ⟨⟨⟨by simp, fun z hz => by cases hz⟩, b, by simp⟩, by simp, fun _ => rfl⟩, ?_, ?_⟩
        · refine Ev.step (fun k => by rw [spec_RecParse.l0]) ?_
          refine ev_neg (by omega) (Ev.bind g1 (ev_neg (by omega) (ev_ret (by rw [e]))))
        · refine Ev.step (fun k => by rw [impl_RecParse.l0]) ?_
          exact ev_neg (by omega) g) (fun i x rest hi hx hm _ ih r at_ hr ha hv hok how => ?_)
  · exact key [] [] (by simp) rfl (fun v hv => by cases hv) (fun z hz => by cases hz) ownL_nil
  have hxs := hz x hm
  have hs := l43Words_ev x (by omega)
  have hi' := cutWords2_ev x (by omega)
  have hbl := bareL_len 35 x.data.toList
  rw [ba_len] at hbl
  -- what comes of a fault
  have bad : ∀ c : Int, 1 ≤ c → c ≤ 100 → GoodT (([], ((i + 1 : Nat) : Int), c) : RR) := fun c h0 h1 => ⟨⟨⟨by simp, fun z hz => by cases hz⟩, ⟨by simp only; omega, by simp only; omega⟩, ⟨by simp only; omega, h1⟩⟩, fun q => (by simp only at q; omega), fun _ => rfl⟩
  cases ho : wsp (bareL 35 x.data.toList ++ [32]) [] [] with
  | none =>
    rw [ho] at hs hi'
    refine ⟨_, bad 1 (by omega) (by omega), ?_, ?_⟩
    · refine Ev.step (fun k => by rw [spec_RecParse.l0]) (ev_pos (by omega) (ev_pos (by omega) ?_))
      rw [rdOf_nat, hx, wsucc hi (by omega)]
      exact Ev.bind hs (ev_neg Bool.false_ne_true (ev_ret rfl))
    · refine Ev.step (fun k => by rw [impl_RecParse.l0]) (ev_pos (by omega) (ev_pos (by omega) ?_))
      rw [rdOf_nat, hx, wsucc hi (by omega)]
      exact Ev.bind hi' (ev_neg Bool.false_ne_true (ev_ret rfl))
  | some ws =>
    rw [ho] at hs hi'
    obtain ⟨wl, wz⟩ := wsp_lens _ [] [] ws (fun w hw => by cases hw) (by simp) ho
    have wl' : ws.length ≤ 1000000 := by simp at wl; omega
    by_cases c0 : ws.length = 0
    · obtain ⟨R, g0, g1, g2⟩ := ih r at_ hr ha hv hok how
      refine ⟨R, g0, ?_, ?_⟩
      · refine Ev.step (fun k => by rw [spec_RecParse.l0]) (ev_pos (by omega) (ev_pos (by omega) ?_))
        rw [rdOf_nat, hx, wsucc hi (by omega)]
        exact Ev.bind hs (ev_pos rfl (ev_pos (by show ((ws.length : Nat) : Int) = 0; omega) g1))
      · refine Ev.step (fun k => by rw [impl_RecParse.l0]) (ev_pos (by omega) (ev_pos (by omega) ?_))
        rw [rdOf_nat, hx, wsucc hi (by omega)]
        exact Ev.bind hi' (ev_pos rfl (ev_pos (by show ((ws.length : Nat) : Int) = 0; omega) g2))
    · obtain ⟨ts, s1, s2⟩ := l43Phase_ok ws
      obtain ⟨ti, i1, i2⟩ := phaseOf_ok ws wl' (fun w hw => by have := wz w hw; omega)
      have cn : ¬ ((ws.length : Nat) : Int) = 0 := by omega
      by_cases K : (kO ws).1
      · have et := s2.1 K
        have ei := i2.1 K
        subst et; subst ei
        have hp := kO_p K
        generalize (kO ws).2 = p at *
        have hpk := phaseB_ok hp
        have a1 := l42At_ev r p.f0 (by omega)
        have a2 := phase_ev r p.f0 (by omega)
        by_cases c1 : phIx p.f0 r 0 ≥ 0
        · refine ⟨_, bad 3 (by omega) (by omega), ?_, ?_⟩
          · refine Ev.step (fun k => by rw [spec_RecParse.l0]) (ev_pos (by omega) (ev_pos (by omega) ?_))
            rw [rdOf_nat, hx, wsucc hi (by omega)]
            exact Ev.bind hs (ev_pos rfl (ev_neg cn (Ev.bind s1 (ev_pos rfl (Ev.bind a1 (ev_pos c1 (ev_ret rfl)))))))
          · refine Ev.step (fun k => by rw [impl_RecParse.l0]) (ev_pos (by omega) (ev_pos (by omega) ?_))
            rw [rdOf_nat, hx, wsucc hi (by omega)]
            exact Ev.bind hi' (ev_pos rfl (ev_neg cn (Ev.bind i1 (ev_pos rfl (Ev.bind a2 (ev_pos c1 (ev_ret rfl)))))))
        · by_cases c2 : (r.length : Int) ≥ 12
          · refine ⟨_, bad 5 (by omega) (by omega), ?_, ?_⟩
            · refine Ev.step (fun k => by rw [spec_RecParse.l0]) (ev_pos (by omega) (ev_pos (by omega) ?_))
              rw [rdOf_nat, hx, wsucc hi (by omega)]
              exact Ev.bind hs (ev_pos rfl (ev_neg cn (Ev.bind s1 (ev_pos rfl (Ev.bind a1 (ev_neg c1 (ev_pos c2 (ev_ret rfl))))))))
            · refine Ev.step (fun k => by rw [impl_RecParse.l0]) (ev_pos (by omega) (ev_pos (by omega) ?_))
              rw [rdOf_nat, hx, wsucc hi (by omega)]
              exact Ev.bind hi' (ev_pos rfl (ev_neg cn (Ev.bind i1 (ev_pos rfl (Ev.bind a2 (ev_neg c1 (ev_pos c2 (ev_ret rfl))))))))
          · obtain ⟨R, g0, g1, g2⟩ := ih (r ++ [p]) (at_ ++ [((i + 1 : Nat) : Int)]) (by simp; omega) (by simp; omega) (fun v hv' => by
                rcases List.mem_append.1 hv' with hv' | hv'
                · exact hv v hv'
                · rw [List.mem_singleton] at hv'; subst hv'; omega) (fun z hz' => by
                rcases List.mem_append.1 hz' with hz' | hz'
                · exact hok z hz'
                · rw [List.mem_singleton] at hz'; subst hz'; exact hpk) (ownL_app how hp c1)
            refine ⟨R, g0, ?_, ?_⟩
            · refine Ev.step (fun k => by rw [spec_RecParse.l0]) (ev_pos (by omega) (ev_pos (by omega) ?_))
              rw [rdOf_nat, hx, wsucc hi (by omega)]
              exact Ev.bind hs (ev_pos rfl (ev_neg cn (Ev.bind s1 (ev_pos rfl (Ev.bind a1 (ev_neg c1 (ev_neg c2 (ev_pos (by omega) (ev_pos (by omega) g1)))))))))
            · refine Ev.step (fun k => by rw [impl_RecParse.l0]) (ev_pos (by omega) (ev_pos (by omega) ?_))
              rw [rdOf_nat, hx, wsucc hi (by omega)]
              exact Ev.bind hi' (ev_pos rfl (ev_neg cn (Ev.bind i1 (ev_pos rfl (Ev.bind a2 (ev_neg c1 (ev_neg c2 (ev_pos (by omega) (ev_pos (by omega) g2)))))))))
      · have fs : ¬ ts.2.2.2.2.2.2.2.2 = true := by have := s2.2 K; unfold flagT at this; rw [this]; exact Bool.false_ne_true
        have fi : ¬ ti.2.2.2.2.2.2.2.2 = true := by have := i2.2 K; unfold flagT at this; rw [this]; exact Bool.false_ne_true
        refine ⟨_, bad 2 (by omega) (by omega), ?_, ?_⟩
        · refine Ev.step (fun k => by rw [spec_RecParse.l0]) (ev_pos (by omega) (ev_pos (by omega) ?_))
          rw [rdOf_nat, hx, wsucc hi (by omega)]
          exact Ev.bind hs (ev_pos rfl (ev_neg cn (Ev.bind s1 (ev_neg fs (ev_ret rfl)))))
        · refine Ev.step (fun k => by rw [impl_RecParse.l0]) (ev_pos (by omega) (ev_pos (by omega) ?_))
          rw [rdOf_nat, hx, wsucc hi (by omega)]
          exact Ev.bind hi' (ev_pos rfl (ev_neg cn (Ev.bind i1 (ev_neg fi (ev_ret rfl)))))
theorem parseT (s : ByteArray) (hs : s.size ≤ 1048576) : ∃ R : RR, GoodT R ∧ Ev (fun k => spec_RecParse.f k s) R ∧ Ev (fun k => impl_RecParse.f k s) R := by
  have h1 := l43Lines_ev s hs
  have h2 := cutLines_ev s hs
  have hm := finL_mem s.data.toList []
  have long : GoodT (([], 0, 7) : RR) := ⟨⟨⟨by simp, fun z hz => by cases hz⟩, by simp, by simp⟩, by simp, fun _ => rfl⟩
  unfold spec_RecParse.f impl_RecParse.f
  by_cases c : (s.size : Int) > 4000
  · exact ⟨_, long, Ev.bind h1 (ev_pos c (ev_ret rfl)), Ev.bind h2 (ev_pos c (ev_ret rfl))⟩
  by_cases c2 : ((finL [] s.data.toList).length : Int) > 60
  · exact ⟨_, long, Ev.bind h1 (ev_neg c (ev_pos c2 (ev_ret rfl))), Ev.bind h2 (ev_neg c (ev_pos c2 (ev_ret rfl)))⟩
  have hsz : ∀ x ∈ finL [] s.data.toList, x.size ≤ 4000 := fun x hx => by
    have := hm x hx
    rw [ba_len] at this
    simp at this; omega
  obtain ⟨R, g0, g1, g2⟩ := linesT (finL [] s.data.toList) (by omega) hsz
  exact ⟨R, g0, Ev.bind h1 (ev_neg c (ev_neg c2 g1)), Ev.bind h2 (ev_neg c (ev_neg c2 g2))⟩
/-! ### words, written one by one -/
def goodW (w : List UInt8) : Prop := w ≠ [] ∧ w.length ≤ 24 ∧ ∀ b ∈ w, (33 ≤ b.toNat ∧ b.toNat ≤ 126) ∧ b ≠ 35
theorem wsp_word : ∀ (w rest cur : List UInt8) (out : List ByteArray), (∀ b ∈ w, 33 ≤ b.toNat ∧ b.toNat ≤ 126) → cur.length + w.length ≤ 24 → wsp (w ++ rest) cur out = wsp rest (cur ++ w) out
  | [], rest, cur, out, _, _ => by simp
  | b :: w, rest, cur, out, h, hl => by
    have hb := h b (List.mem_cons_self ..)
    simp only [List.length_cons] at hl
    rw [List.cons_append, wsp, if_neg (fun e => by rw [u8_32] at e; omega), if_pos ⟨hb, by omega⟩, wsp_word w rest (cur ++ [b]) out (fun x hx => h x (List.mem_cons_of_mem _ hx)) (by simp; omega)]
    simp
def spc : List ByteArray → List UInt8
  | [] => []
  | w :: r => 32 :: (w.data.toList ++ spc r)
def jn : List ByteArray → List UInt8
  | [] => []
  | w :: r => w.data.toList ++ spc r
theorem spc_app : ∀ a b : List ByteArray, spc (a ++ b) = spc a ++ spc b
  | [], b => rfl
  | w :: a, b => by rw [List.cons_append, spc, spc_app a b, spc]; simp
theorem wsp_spc1 : ∀ (ws : List ByteArray) (cur : List UInt8) (out : List ByteArray), cur ≠ [] → (∀ w ∈ ws, goodW w.data.toList) → wsp (spc ws ++ [32]) cur out = some (out ++ [mkB cur] ++ ws)
  | [], cur, out, hc, _ => by simp [spc, wsp, hc]
  | w :: r, cur, out, hc, h => by
    obtain ⟨g1, g2, g3⟩ := h w (List.mem_cons_self ..)
    have ih := wsp_spc1 r w.data.toList (out ++ [mkB cur]) g1 (fun x hx => h x (List.mem_cons_of_mem _ hx))
    rw [mkB_data] at ih
    have key := wsp_word w.data.toList (spc r ++ [32]) [] (out ++ [mkB cur]) (fun b hb => (g3 b hb).1) (by simpa using g2)
    rw [spc, List.cons_append, wsp, if_pos rfl, List.append_assoc, if_neg hc, key, List.nil_append, ih]
    simp
theorem wsp_jn : ∀ (ws : List ByteArray), ws ≠ [] → (∀ w ∈ ws, goodW w.data.toList) → wsp (jn ws ++ [32]) [] [] = some ws
  | [], h, _ => absurd rfl h
  | w :: r, _, h => by
    obtain ⟨g1, g2, g3⟩ := h w (List.mem_cons_self ..)
    rw [jn, List.append_assoc, wsp_word w.data.toList _ [] [] (fun b hb => (g3 b hb).1) (by simpa using g2), List.nil_append, wsp_spc1 r _ _ g1 (fun x hx => h x (List.mem_cons_of_mem _ hx)), mkB_data]
    rfl
theorem spc_in : ∀ ws : List ByteArray, (∀ w ∈ ws, goodW w.data.toList) → ∀ x ∈ spc ws, x ≠ 35 ∧ x ≠ 10
  | [], _, x, hx => by simp [spc] at hx
  | w :: r, h, x, hx => by
    rw [spc] at hx
    rcases List.mem_cons.1 hx with rfl | hx
    · decide
    · rcases List.mem_append.1 hx with hx | hx
      · have := (h w (List.mem_cons_self ..)).2.2 x hx
        exact ⟨this.2, fun e => by subst e; have := this.1.1; revert this; decide⟩
      · exact spc_in r (fun y hy => h y (List.mem_cons_of_mem _ hy)) x hx
theorem jn_in : ∀ ws : List ByteArray, (∀ w ∈ ws, goodW w.data.toList) → ∀ x ∈ jn ws, x ≠ 35 ∧ x ≠ 10
  | [], _, x, hx => by simp [jn] at hx
  | w :: r, h, x, hx => by
    rw [jn] at hx
    rcases List.mem_append.1 hx with hx | hx
    · have := (h w (List.mem_cons_self ..)).2.2 x hx
      exact ⟨this.2, fun e => by subst e; have := this.1.1; revert this; decide⟩
    · exact spc_in r (fun y hy => h y (List.mem_cons_of_mem _ hy)) x hx
theorem spc_len : ∀ ws : List ByteArray, (∀ w ∈ ws, goodW w.data.toList) → (spc ws).length ≤ 25 * ws.length
  | [], _ => by simp [spc]
  | w :: r, h => by
    have h1 := (h w (List.mem_cons_self ..)).2.1
    have h2 := spc_len r (fun y hy => h y (List.mem_cons_of_mem _ hy))
    simp only [spc, List.length_cons, List.length_append]; omega
theorem jn_len (ws : List ByteArray) (h : ∀ w ∈ ws, goodW w.data.toList) : (jn ws).length ≤ 25 * ws.length := by
  cases ws with
  | nil => simp [jn]
  | cons w r =>
    have h1 := (h w (List.mem_cons_self ..)).2.1
    have h2 := spc_len r (fun y hy => h y (List.mem_cons_of_mem _ hy))
    simp only [jn, List.length_cons, List.length_append]; omega
theorem bareL_all : ∀ (a : List UInt8) (c : UInt8), (∀ x ∈ a, x ≠ c) → bareL c a = a
  | [], c, _ => by simp [bareL]
  | x :: a, c, h => by rw [bareL, if_neg (h x (List.mem_cons_self ..)), bareL_all a c (fun y hy => h y (List.mem_cons_of_mem _ hy))]
theorem name_good {s : ByteArray} (h : nameB s = true) : goodW s.data.toList := by
  unfold nameB at h
  rw [Bool.and_eq_true, decide_eq_true_iff] at h
  obtain ⟨h1, h2⟩ := h
  have hl := ba_len s
  refine ⟨fun e => by rw [e] at hl; simp at hl; omega, by omega, fun b hb => ?_⟩
  obtain ⟨i, hi, rfl⟩ := List.getElem_of_mem hb
  have h3 := of_decide_eq_true h2 i (by omega) (Nat.zero_le _)
  rw [bt_list s i (by omega), getD_eq _ _ _ hi] at h3
  generalize s.data.toList[i] = b at *
  have : (97 ≤ (b.toNat : Int) ∧ (b.toNat : Int) ≤ 122) ∨ (48 ≤ (b.toNat : Int) ∧ (b.toNat : Int) ≤ 57) ∨ (b.toNat : Int) = 45 := by
    simp [okc] at h3; omega
  exact ⟨by omega, fun e => by rw [e] at this; revert this; decide⟩
/-! ### numbers, written and read -/
def dgt (k : Nat) : UInt8 := UInt8.ofNat (48 + k)
theorem dgt_nat {k : Nat} (h : k < 10) : (dgt k).toNat = 48 + k := by
  unfold dgt
  rw [UInt8.toNat_ofNat']; omega
def valK : List Nat → Int → Int
  | [], a => a
  | k :: ks, a => valK ks (10 * a + (k : Int))
theorem dd (n : Nat) (h : n < 10000) : ∃ ks : List Nat, (∀ k ∈ ks, k < 10) ∧ 1 ≤ ks.length ∧ ks.length ≤ 4 ∧ (ks.length > 1 → ks.getD 0 0 ≠ 0) ∧ Lib.decDigits n = ks.map dgt ∧ valK ks 0 = (n : Int) := by
  by_cases c1 : n < 10
  · exact ⟨[n], by simp; omega, by simp, by simp, by simp, by rw [dec_small c1]; rfl, by simp [valK]⟩
  rw [dec_big c1]
  by_cases c2 : n / 10 < 10
  · exact ⟨[n / 10, n % 10], by simp; omega, by simp, by simp, by simp; omega, by rw [dec_small c2]; rfl, by simp [valK]; omega⟩
  rw [dec_big c2]
  by_cases c3 : n / 10 / 10 < 10
  · exact ⟨[n / 10 / 10, n / 10 % 10, n % 10], by simp; omega, by simp, by simp, by simp; omega, by rw [dec_small c3]; rfl, by simp [valK]; omega⟩
  rw [dec_big c3, dec_small (by omega : n / 10 / 10 / 10 < 10)]
  exact ⟨[n / 10 / 10 / 10, n / 10 / 10 % 10, n / 10 % 10, n % 10], by simp; omega, by simp, by simp, by simp; omega, rfl, by simp [valK]; omega⟩
theorem numG_dgt : ∀ (ks : List Nat) (a : Int), (∀ k ∈ ks, k < 10) → numG (ks.map dgt) a = some (valK ks a)
  | [], a, _ => rfl
  | k :: ks, a, h => by
    have hk := dgt_nat (h k (List.mem_cons_self ..))
    have hk10 := h k (List.mem_cons_self ..)
    rw [List.map_cons, numG, hk, if_pos (by omega), numG_dgt ks _ (fun x hx => h x (List.mem_cons_of_mem _ hx)), valK]
    congr 2; omega
theorem num_dec {n : Int} (h0 : 0 ≤ n) (h1 : n < 10000) : numO (decB n) = n ∧ goodW (decB n).data.toList := by
  obtain ⟨ks, k1, k2, k3, k4, k5, k6⟩ := dd n.toNat (by omega)
  have e : (decB n).data.toList = ks.map dgt := by rw [← k5]; simp [decB]
  have hs : (decB n).size = ks.length := by rw [← ba_len, e, List.length_map]
  constructor
  · unfold numO
    rw [hs, if_pos ⟨k2, k3⟩, e]
    rw [if_neg, numG_dgt ks 0 k1, k6]
    · simp; omega
    · rintro ⟨q1, q2⟩
      have := k4 q1
      have hk := dgt_nat (k1 _ (mem_getD 0 ks 0 (by omega)))
      rw [getD_eq _ _ _ (by rw [List.length_map]; omega), List.getElem_map, ← getD_eq 0 ks 0 (by omega)] at q2
      rw [q2] at hk
      have e48 : (48 : UInt8).toNat = 48 := rfl
      omega
  · rw [e]
    refine ⟨fun q => by simp at q; rw [q] at k2; simp at k2, by rw [List.length_map]; omega, fun b hb => ?_⟩
    obtain ⟨k, hk, rfl⟩ := List.mem_map.1 hb
    have hd := dgt_nat (k1 k hk)
    have hk10 := k1 k hk
    exact ⟨by omega, fun q => by rw [q] at hd; have e35 : (35 : UInt8).toNat = 35 := rfl; omega⟩
/-! ### a recipe, written and read -/
theorem recB_own {l : List S_impl_RecPhase} : ∀ (r : List S_impl_RecPhase) (i : Nat), l.drop i = r → recA l i r = true → ∀ t, i ≤ t → t < l.length → ownB l t (l.getD t z_impl_RecPhase) = true := fun r => by
  induction r with
  | nil => intro i hd _ t h1 h2; have := List.drop_eq_nil_iff.1 hd; omega
  | cons x r ih =>
    intro i hd hr t h1 h2
    have hi : i < l.length := by
      refine Nat.lt_of_not_le fun hle => ?_
      rw [List.drop_eq_nil_iff.2 hle] at hd; cases hd
    have e := List.drop_eq_getElem_cons hi
    rw [hd] at e; injection e with e1 e2
    rw [show recA l i (x :: r) = (ownB l i x && recA l (i + 1) r) from rfl, Bool.and_eq_true] at hr
    by_cases c : t = i
    · subst c
      rw [getD_eq _ l t hi, ← e1]; exact hr.1
    · exact ih (i + 1) e2.symm hr.2 t (by omega) h2
theorem own_of {l : List S_impl_RecPhase} (h : recB l = true) {j : Nat} (hj : j < l.length) : phaseB (l.getD j z_impl_RecPhase) = true ∧ phIx (l.getD j z_impl_RecPhase).f0 l 0 = (j : Int) := by
  have h' := h
  unfold recB at h'
  simp only [Bool.and_eq_true] at h'
  have := recB_own l 0 rfl h'.2.1 j (Nat.zero_le _) hj
  unfold ownB at this
  rw [Bool.and_eq_true] at this
  exact ⟨this.1, of_decide_eq_true this.2⟩
theorem own_at {l : List S_impl_RecPhase} (h : recB l = true) {j : Nat} (hj : j < l.length) : phIx (l.getD j z_impl_RecPhase).f0 l 0 = (j : Int) := (own_of h hj).2
theorem recB_all {l : List S_impl_RecPhase} (h : recB l = true) : ∀ x ∈ l, phaseB x = true := fun x hx => by
  obtain ⟨i, hi, rfl⟩ := List.getElem_of_mem hx
  have := (own_of h hi).1
  rwa [getD_eq _ l i hi] at this
theorem data_app (a b : ByteArray) : (a ++ b).data.toList = a.data.toList ++ b.data.toList := by simp [ByteArray.data_append]
def wordsP (x : S_impl_RecPhase) : List ByteArray := [x.f0, kindW x.f1, x.f2] ++ ((if x.f3 = (⟨#[]⟩ : ByteArray) then [] else [x.f3]) ++ ((if x.f4 > 0 then [decB x.f4] else []) ++ [wWithin, decB x.f5, wThen, x.f6, wElse, x.f7]))
theorem d32 : (⟨#[32]⟩ : ByteArray).data.toList = [32] := rfl
theorem d10 : (⟨#[10]⟩ : ByteArray).data.toList = [10] := rfl
def sW : ByteArray := (⟨#[32, 119, 105, 116, 104, 105, 110, 32]⟩ : ByteArray)
def sT : ByteArray := (⟨#[32, 116, 104, 101, 110, 32]⟩ : ByteArray)
def sE : ByteArray := (⟨#[32, 101, 108, 115, 101, 32]⟩ : ByteArray)
theorem dW : sW.data.toList = 32 :: (wWithin.data.toList ++ [32]) := rfl
theorem dT : sT.data.toList = 32 :: (wThen.data.toList ++ [32]) := rfl
theorem dE : sE.data.toList = 32 :: (wElse.data.toList ++ [32]) := rfl
theorem tl1_jn (x : S_impl_RecPhase) : (tl1 x).data.toList = spc [wWithin, decB x.f5, wThen, x.f6, wElse, x.f7] ++ [10] := by
  show (sW ++ (decB x.f5 ++ (sT ++ (x.f6 ++ (sE ++ (x.f7 ++ (⟨#[10]⟩ : ByteArray))))))).data.toList = _
  simp only [data_app, dW, dT, dE, d10, spc, List.append_assoc, List.cons_append, List.nil_append, List.append_nil]
theorem tl2_jn (x : S_impl_RecPhase) : (tl2 x).data.toList = spc ((if x.f4 > 0 then [decB x.f4] else []) ++ [wWithin, decB x.f5, wThen, x.f6, wElse, x.f7]) ++ [10] := by
  unfold tl2
  by_cases c : x.f4 > 0
  · rw [if_pos c, if_pos c, spc_app, List.append_assoc, ← tl1_jn]
    simp only [data_app, d32, spc, List.append_nil, List.cons_append, List.nil_append, List.append_assoc]
  · rw [if_neg c, if_neg c, List.nil_append, tl1_jn]
theorem tl3_jn (x : S_impl_RecPhase) : (tl3 x).data.toList = jn (wordsP x) ++ [10] := by
  unfold tl3 wordsP
  rw [List.cons_append, jn]
  by_cases c : x.f3 = (⟨#[]⟩ : ByteArray)
  · rw [if_pos (ba_iff.2 c), if_pos c]
    simp only [data_app, d32, tl2_jn, List.cons_append, List.nil_append, List.append_assoc, spc]
  · rw [if_neg (fun e => c (ba_iff.1 e)), if_neg c]
    simp only [data_app, d32, tl2_jn, List.cons_append, List.nil_append, List.append_assoc, spc]
def goodC (w : ByteArray) : Bool := decide (w.data.toList ≠ []) && (decide (w.data.toList.length ≤ 24) && w.data.toList.all fun b => decide ((33 ≤ b.toNat ∧ b.toNat ≤ 126) ∧ b ≠ 35))
theorem goodC_out {w : ByteArray} (h : goodC w = true) : goodW w.data.toList := by
  unfold goodC at h
  simp only [Bool.and_eq_true, decide_eq_true_eq, List.all_eq_true] at h
  exact ⟨h.1, h.2.1, h.2.2⟩
theorem kind_good (k : Int) (h0 : 1 ≤ k) (h1 : k < 6) : goodW (kindW k).data.toList := by
  have : k = 1 ∨ k = 2 ∨ k = 3 ∨ k = 4 ∨ k = 5 := by omega
  rcases this with rfl | rfl | rfl | rfl | rfl <;> exact goodC_out (by decide)
/-- what is known of the kinds -/
theorem phaseB_cases {x : S_impl_RecPhase} (h : phaseB x = true) : nameB x.f0 = true ∧ nameB x.f2 = true ∧ nameB x.f6 = true ∧ nameB x.f7 = true ∧ (1 ≤ x.f5 ∧ x.f5 ≤ 1000) ∧
    (((x.f1 = 1 ∨ x.f1 = 2) ∧ nameB x.f3 = true ∧ 1 ≤ x.f4 ∧ x.f4 ≤ 1000) ∨ (x.f1 = 3 ∧ x.f3 = (⟨#[]⟩ : ByteArray) ∧ 1 ≤ x.f4 ∧ x.f4 ≤ 1000) ∨ ((x.f1 = 4 ∨ x.f1 = 5) ∧ x.f3 = (⟨#[]⟩ : ByteArray) ∧ x.f4 = 0)) := by
  unfold phaseB at h
  simp only [Bool.and_eq_true] at h
  obtain ⟨⟨h0, _⟩, h5, ⟨h2, ha⟩, h6, h7⟩ := h
  have h5' := inB_spec h5
  refine ⟨h0, h2, h6, h7, h5', ?_⟩
  unfold argsB at ha
  split at ha
  · rename_i c
    simp only [Bool.and_eq_true] at ha
    exact .inl ⟨.inl c, ha.1, inB_spec ha.2⟩
  · split at ha
    · rename_i c
      simp only [Bool.and_eq_true] at ha
      exact .inl ⟨.inr c, ha.1, inB_spec ha.2.2⟩
    · split at ha
      · rename_i c
        simp only [Bool.and_eq_true, decide_eq_true_eq] at ha
        have := inB_spec ha.2
        exact .inr (.inl ⟨c, ha.1, by omega, by omega⟩)
      · split at ha
        · rename_i c
          simp only [Bool.and_eq_true, decide_eq_true_eq] at ha
          exact .inr (.inr ⟨c, ha.1, ha.2⟩)
        · cases ha
theorem words_good {x : S_impl_RecPhase} (h : phaseB x = true) : ∀ w ∈ wordsP x, goodW w.data.toList := fun w hw => by
  obtain ⟨h0, h2, h6, h7, h5, hk⟩ := phaseB_cases h
  have k1 : 1 ≤ x.f1 ∧ x.f1 < 6 := by omega
  unfold wordsP at hw
  simp only [List.mem_append, List.mem_cons, List.mem_nil_iff, or_false] at hw
  rcases hw with (rfl | rfl | rfl) | hw | hw | rfl | rfl | rfl | rfl | rfl | rfl
  · exact name_good h0
  · exact kind_good _ k1.1 k1.2
  · exact name_good h2
  · split at hw
    · cases hw
    · rename_i c
      rw [List.mem_singleton] at hw; subst hw
      rcases hk with ⟨_, q, _⟩ | ⟨_, q, _⟩ | ⟨_, q, _⟩
      · exact name_good q
      · exact absurd q c
      · exact absurd q c
  · split at hw
    · rw [List.mem_singleton] at hw; subst hw
      exact (num_dec (by omega) (by omega)).2
    · cases hw
  · exact goodC_out (by decide)
  · exact (num_dec (by omega) (by omega)).2
  · exact goodC_out (by decide)
  · exact name_good h6
  · exact goodC_out (by decide)
  · exact name_good h7
theorem name_ne {s : ByteArray} (h : nameB s = true) : ¬ s = (⟨#[]⟩ : ByteArray) := fun e => by
  have := (name_good h).1
  rw [e] at this; exact this rfl
theorem kO_words {x : S_impl_RecPhase} (h : phaseB x = true) : (kO (wordsP x)).1 ∧ (kO (wordsP x)).2 = x := by
  obtain ⟨h0, h2, h6, h7, h5, hk⟩ := phaseB_cases h
  have n5 := (num_dec (n := x.f5) (by omega) (by omega)).1
  obtain ⟨a0, a1, a2, a3, a4, a5, a6, a7⟩ := x
  dsimp only at *
  rcases hk with ⟨hk, q3, q4⟩ | ⟨hk, q3, q4⟩ | ⟨hk, q3, q4⟩
  · have n4 := (num_dec (n := a4) (by omega) (by omega)).1
    have e : wordsP ⟨a0, a1, a2, a3, a4, a5, a6, a7⟩ = [a0, kindW a1, a2, a3, decB a4, wWithin, decB a5, wThen, a6, wElse, a7] := by
      unfold wordsP; rw [if_neg (name_ne q3), if_pos (by dsimp only; omega)]; rfl
    rw [e]
    have em : ∀ q : Int, q = a1 → mTT [a0, kindW a1, a2, a3, decB a4, wWithin, decB a5, wThen, a6, wElse, a7] q = ⟨a0, a1, a2, a3, a4, a5, a6, a7⟩ := fun q hq => by
      subst hq
      show (⟨a0, _, a2, a3, numO (decB a4), numO (decB a5), a6, a7⟩ : S_impl_RecPhase) = _
      rw [n4, n5]
    have ok : OkX [a0, kindW a1, a2, a3, decB a4, wWithin, decB a5, wThen, a6, wElse, a7] 5 ⟨a0, a1, a2, a3, a4, a5, a6, a7⟩ := ⟨rfl, rfl, rfl, rfl, h⟩
    unfold kO
    rcases hk with rfl | rfl
    · rw [if_pos (show gw _ 1 = wFill from rfl), em 1 rfl]; exact ⟨ok, rfl⟩
    · rw [if_neg (show ¬ gw _ 1 = wFill from fun q => by have : (wMove : ByteArray) = wFill := q; revert this; decide), if_pos (show gw _ 1 = wMove from rfl), em 2 rfl]; exact ⟨ok, rfl⟩
  · have n4 := (num_dec (n := a4) (by omega) (by omega)).1
    subst hk
    have e : wordsP ⟨a0, 3, a2, a3, a4, a5, a6, a7⟩ = [a0, wHold, a2, decB a4, wWithin, decB a5, wThen, a6, wElse, a7] := by
      unfold wordsP; rw [if_pos q3, if_pos (by dsimp only; omega)]; rfl
    rw [e]
    have em : mFT [a0, wHold, a2, decB a4, wWithin, decB a5, wThen, a6, wElse, a7] 3 = ⟨a0, 3, a2, a3, a4, a5, a6, a7⟩ := by
      show (⟨a0, 3, a2, _, numO (decB a4), numO (decB a5), a6, a7⟩ : S_impl_RecPhase) = _
      rw [n4, n5, q3]
    have ok : OkX [a0, wHold, a2, decB a4, wWithin, decB a5, wThen, a6, wElse, a7] 4 ⟨a0, 3, a2, a3, a4, a5, a6, a7⟩ := ⟨rfl, rfl, rfl, rfl, h⟩
    unfold kO
    rw [if_neg (show ¬ gw _ 1 = wFill from fun q => by have : (wHold : ByteArray) = wFill := q; revert this; decide), if_neg (show ¬ gw _ 1 = wMove from fun q => by have : (wHold : ByteArray) = wMove := q; revert this; decide), if_pos (show gw _ 1 = wHold from rfl), em]
    exact ⟨ok, rfl⟩
  · subst q4
    have e : wordsP ⟨a0, a1, a2, a3, 0, a5, a6, a7⟩ = [a0, kindW a1, a2, wWithin, decB a5, wThen, a6, wElse, a7] := by
      unfold wordsP; rw [if_pos q3, if_neg (by dsimp only; omega)]; rfl
    rw [e]
    have em : ∀ q : Int, q = a1 → mFF [a0, kindW a1, a2, wWithin, decB a5, wThen, a6, wElse, a7] q = ⟨a0, a1, a2, a3, 0, a5, a6, a7⟩ := fun q hq => by
      subst hq
      show (⟨a0, _, a2, _, 0, numO (decB a5), a6, a7⟩ : S_impl_RecPhase) = _
      rw [n5, q3]
    have ok : OkX [a0, kindW a1, a2, wWithin, decB a5, wThen, a6, wElse, a7] 3 ⟨a0, a1, a2, a3, 0, a5, a6, a7⟩ := ⟨rfl, rfl, rfl, rfl, h⟩
    unfold kO
    rcases hk with rfl | rfl
    · rw [if_neg (show ¬ gw _ 1 = wFill from fun q => by have : (wClean : ByteArray) = wFill := q; revert this; decide), if_neg (show ¬ gw _ 1 = wMove from fun q => by have : (wClean : ByteArray) = wMove := q; revert this; decide), if_neg (show ¬ gw _ 1 = wHold from fun q => by have : (wClean : ByteArray) = wHold := q; revert this; decide), if_pos (show gw _ 1 = wClean from rfl), em 4 rfl]
      exact ⟨ok, rfl⟩
    · rw [if_neg (show ¬ gw _ 1 = wFill from fun q => by have : (wTest : ByteArray) = wFill := q; revert this; decide), if_neg (show ¬ gw _ 1 = wMove from fun q => by have : (wTest : ByteArray) = wMove := q; revert this; decide), if_neg (show ¬ gw _ 1 = wHold from fun q => by have : (wTest : ByteArray) = wHold := q; revert this; decide), if_neg (show ¬ gw _ 1 = wClean from fun q => by have : (wTest : ByteArray) = wClean := q; revert this; decide), if_pos (show gw _ 1 = wTest from rfl), em 5 rfl]
      exact ⟨ok, rfl⟩
/-- the lines of what is written -/
theorem finL_line : ∀ (a cur r : List UInt8), (∀ x ∈ a, x ≠ 10) → finL cur (a ++ 10 :: r) = mkB (cur ++ a) :: finL [] r
  | [], cur, r, _ => by simp [finL]
  | x :: a, cur, r, h => by
    rw [List.cons_append, finL, if_neg (h x (List.mem_cons_self ..)), finL_line a (cur ++ [x]) r (fun y hy => h y (List.mem_cons_of_mem _ hy))]
    simp
theorem linesB_app : ∀ (l : List S_impl_RecPhase) (acc : ByteArray), (linesB l acc).data.toList = acc.data.toList ++ (l.map fun x => jn (wordsP x) ++ [10]).flatten
  | [], acc => by simp [linesB]
  | x :: l, acc => by rw [linesB, linesB_app l, data_app, tl3_jn]; simp
theorem finL_lines : ∀ (l : List S_impl_RecPhase), (∀ x ∈ l, phaseB x = true) → finL [] ((l.map fun x => jn (wordsP x) ++ [10]).flatten) = l.map fun x => mkB (jn (wordsP x))
  | [], _ => by simp [finL]
  | x :: l, h => by
    have ih := finL_lines l (fun y hy => h y (List.mem_cons_of_mem _ hy))
    have hg := jn_in (wordsP x) (words_good (h x (List.mem_cons_self ..)))
    rw [List.map_cons, List.flatten_cons, List.append_assoc, List.singleton_append, finL_line _ [] _ (fun y hy => (hg y hy).2), ih]
    rfl
theorem wordsP_len (x : S_impl_RecPhase) : 9 ≤ (wordsP x).length ∧ (wordsP x).length ≤ 11 := by
  unfold wordsP
  simp only [List.length_append, List.length_cons, List.length_nil]
  split <;> split <;> simp
theorem linesB_size : ∀ (l : List S_impl_RecPhase), (∀ x ∈ l, phaseB x = true) → ((l.map fun x => jn (wordsP x) ++ [10]).flatten).length ≤ 276 * l.length
  | [], _ => by simp
  | x :: l, h => by
    have ih := linesB_size l (fun y hy => h y (List.mem_cons_of_mem _ hy))
    have h1 := jn_len (wordsP x) (words_good (h x (List.mem_cons_self ..)))
    have h2 := wordsP_len x
    rw [List.map_cons, List.flatten_cons, List.length_append, List.length_append, List.length_cons]
    simp only [List.length_cons, List.length_nil]; omega
theorem refersP {l : List S_impl_RecPhase} (hl : l.length ≤ 12) (h0 : ¬ l.length = 0) (hN : recN l 0 l = true) (at_ : List Int) (ha : at_.length = l.length) (hv : ∀ v ∈ at_, 0 ≤ v ∧ v ≤ 1000000000000) : Ev (fun k => impl_RecParse.l1 k l at_ 0) ((l, 0, 0) : RR) := by
  obtain ⟨f, _, g⟩ := refersT l at_ hl ha hv (fun _ _ => trivial)
  rcases g with ⟨_, _, g⟩ | ⟨_, e, _⟩
  · rw [if_neg h0] at g; exact g
  · rw [hN] at e; cases e
theorem linesP {l : List S_impl_RecPhase} (h : recB l = true) : Ev (fun k => impl_RecParse.l0 k [] [] 0 (l.map fun x => mkB (jn (wordsP x)))) ((l, 0, 0) : RR) := by
  have hph := recB_all h
  have hN : recN l 0 l = true := by
    unfold recB at h; simp only [Bool.and_eq_true] at h; exact h.2.2
  have hin : 1 ≤ l.length ∧ l.length ≤ 12 := by
    unfold recB at h; simp only [Bool.and_eq_true] at h
    have := inB_spec h.1; omega
  have hll : (l.map fun x => mkB (jn (wordsP x))).length = l.length := List.length_map ..
  have key := loopL z_impl_RecPhase l (P := fun i _ => ∀ at_ : List Int, at_.length = i → (∀ v ∈ at_, 0 ≤ v ∧ v ≤ 1000000000000) → Ev (fun k => impl_RecParse.l0 k (l.take i) at_ (i : Int) (l.map fun x => mkB (jn (wordsP x)))) ((l, 0, 0) : RR))
    (fun at_ ha hv => by
      refine Ev.step (fun k => by rw [impl_RecParse.l0]) (ev_neg (by omega) ?_)
      rw [List.take_length]
      exact refersP hin.2 (by omega) hN at_ ha hv) (fun i x r hi hx hm _ ih at_ ha hv => ?_)
  · have := key [] rfl (fun v hv => by cases hv)
    rwa [List.take_zero] at this
  have hp := hph x hm
  have hg := words_good hp
  have hwl := wordsP_len x
  have hjl := jn_len _ hg
  have hline : (l.map fun x => mkB (jn (wordsP x))).getD i ByteArray.empty = mkB (jn (wordsP x)) := by rw [map_getD ByteArray.empty z_impl_RecPhase _ l i hi, hx]
  have hw := cutWords2_ev (mkB (jn (wordsP x))) (by rw [mkB_size]; omega)
  rw [data_mkB, bareL_all _ _ (fun y hy => (jn_in _ hg y hy).1), wsp_jn _ (fun e => by rw [e] at hwl; simp at hwl) hg] at hw
  obtain ⟨ti, i1, i2⟩ := phaseOf_ok (wordsP x) (by omega) (fun w hw => by have := (hg w hw).2.1; rw [ba_len] at this; omega)
  obtain ⟨K, Ke⟩ := kO_words hp
  have et := i2.1 K
  rw [Ke] at et; subst et
  have hown := own_at h hi
  rw [hx] at hown
  have hno : ¬ phIx x.f0 (l.take i) 0 ≥ 0 := fun q => by
    have e := phIx_app x.f0 (l.drop i) (l.take i) 0
    rw [List.take_append_drop, if_neg (by omega), hown] at e
    rcases phIx_at (l.take i) x.f0 (l.take i) 0 rfl with e2 | ⟨j, j1, _, j3, _⟩
    · omega
    · rw [List.length_take] at j1; omega
  have a2 := phase_ev (l.take i) x.f0 (by rw [List.length_take]; omega)
  refine Ev.step (fun k => by rw [impl_RecParse.l0]) (ev_pos (by omega) (ev_pos (by omega) ?_))
  rw [rdOf_nat, hline, wsucc hi (by omega)]
  have htl : (l.take i).length = i := by rw [List.length_take]; omega
  have ht : l.take (i + 1) = l.take i ++ [x] := by rw [List.take_succ_eq_append_getElem hi, ← getD_eq z_impl_RecPhase l i hi, hx]
  have ih' := ih (at_ ++ [((i + 1 : Nat) : Int)]) (by simp; omega) (fun v hv' => by
    rcases List.mem_append.1 hv' with hv' | hv'
    · exact hv v hv'
    · rw [List.mem_singleton] at hv'; subst hv'; omega)
  rw [ht] at ih'
  refine Ev.bind hw (ev_pos rfl (ev_neg (by show ¬ ((wordsP x).length : Int) = 0; omega) (Ev.bind i1 (ev_pos rfl (Ev.bind a2 (ev_neg hno (ev_neg (by rw [htl]; omega) (ev_pos (by rw [htl]; omega) (ev_pos (by omega) ?_)))))))))
  exact ih'
theorem print_parse {l : List S_impl_RecPhase} (h : recB l = true) : Ev (fun k => impl_RecParse.f k (printB l)) ((l, 0, 0) : RR) := by
  have hph := recB_all h
  have hin : 1 ≤ l.length ∧ l.length ≤ 12 := by
    unfold recB at h; simp only [Bool.and_eq_true] at h
    have := inB_spec h.1; omega
  have hd : (printB l).data.toList = (l.map fun x => jn (wordsP x) ++ [10]).flatten := by
    unfold printB; rw [if_pos h, linesB_app]; rfl
  have hsz : (printB l).size ≤ 4000 := by
    have := linesB_size l hph
    rw [← ba_len, hd]; omega
  have h2 := cutLines_ev (printB l) (by omega)
  rw [hd, finL_lines l hph] at h2
  unfold impl_RecParse.f
  exact Ev.bind h2 (ev_neg (by omega) (ev_neg (by rw [List.length_map]; omega) (linesP h)))
/-! ### texts, drawn -/
def tot : List ByteArray → Nat
  | [] => 0
  | x :: r => x.size + 1 + tot r
theorem tot_app : ∀ a b : List ByteArray, tot (a ++ b) = tot a + tot b
  | [], b => by simp [tot]
  | x :: a, b => by rw [List.cons_append, tot, tot_app a b, tot]; omega
theorem tot_cut (l : List ByteArray) (n : Nat) : tot (l.take n) + tot (l.drop n) = tot l := by rw [← tot_app, List.take_append_drop]
theorem tot_one (x : ByteArray) : tot [x] = x.size + 1 := rfl
theorem tot_len : ∀ l : List ByteArray, l.length ≤ tot l
  | [] => Nat.le_refl _
  | x :: r => by have := tot_len r; simp only [tot, List.length_cons]; omega
theorem tot_mem : ∀ (l : List ByteArray), ∀ x ∈ l, x.size + 1 ≤ tot l
  | y :: r, x, hx => by
    simp only [tot]
    rcases List.mem_cons.1 hx with rfl | hx
    · omega
    · have := tot_mem r x hx; omega
theorem tot_set : ∀ (l : List ByteArray) (i : Nat) (x : ByteArray), tot (l.set i x) ≤ tot l + x.size
  | [], i, x => by simp [tot]
  | y :: r, 0, x => by simp only [List.set_cons_zero, tot]; omega
  | y :: r, i + 1, x => by have := tot_set r i x; simp only [List.set_cons_succ, tot]; omega
theorem tot_finL : ∀ (l cur : List UInt8), tot (finL cur l) ≤ cur.length + l.length + 1
  | [], cur => by
    unfold finL
    split
    · simp [tot]
    · simp [tot, mkB_size]
  | b :: l, cur => by
    unfold finL
    split
    · have := tot_finL l []
      simp only [tot, mkB_size, List.length_cons, List.length_nil] at this ⊢; omega
    · have := tot_finL l (cur ++ [b])
      simp only [List.length_append, List.length_cons, List.length_nil] at this ⊢; omega
theorem specPrint_ev (l : List S_impl_RecPhase) (hl : l.length ≤ 140737488351232) : Ev (fun k => spec_RecPrint.f k l) (printB l) := by
  unfold spec_RecPrint.f printB
  refine Ev.bind (specRec_ev l hl) (ev_b (fun c => ?_) (fun c => ev_ret (by rw [c]; rfl)))
  rw [if_pos c]
  exact specLs l (recB_ok c).1 (recB_ok c).2
theorem implPrint_ev (l : List S_impl_RecPhase) (hl : l.length ≤ 140737488351232) (hz : ∀ x ∈ l, SzR x) : Ev (fun k => impl_RecPrint.f k l) (printB l) := by
  unfold impl_RecPrint.f printB
  refine Ev.bind (implRec_ev l hl hz) (ev_b (fun c => ?_) (fun c => ev_ret (by rw [c]; rfl)))
  rw [if_pos c]
  exact implLs l (recB_ok c).1 (recB_ok c).2
theorem printB_size (l : List S_impl_RecPhase) : (printB l).size ≤ 4000 := by
  unfold printB
  split
  · rename_i h
    have hph := recB_all h
    have hin : 1 ≤ l.length ∧ l.length ≤ 12 := by
      unfold recB at h; simp only [Bool.and_eq_true] at h
      have := inB_spec h.1; omega
    have := linesB_size l hph
    rw [← ba_len, linesB_app]
    have e : ((⟨#[]⟩ : ByteArray)).data.toList = [] := rfl
    rw [e, List.nil_append]; omega
  · show 0 ≤ 4000; omega
abbrev TT := List ByteArray × List Int × Int
def QT (b : List Int) (M : Nat) (lo hi : Int) (t : TT) : Prop := tot t.1 ≤ M ∧ t.2.1 = b ∧ lo ≤ t.2.2 ∧ t.2.2 ≤ hi
theorem qt_mono {b : List Int} {M M' : Nat} {lo lo' hi hi' : Int} {t : TT} (h : QT b M lo hi t) (hM : M ≤ M') (h1 : lo' ≤ lo) (h2 : hi ≤ hi') : QT b M' lo' hi' t := ⟨by have := h.1; omega, h.2.1, by have := h.2.2.1; omega, by have := h.2.2.2; omega⟩
theorem textLoop {b : List Int} (hb : Bytes b) : ∀ (m : Nat) (l : List ByteArray) (p : Int), m ≤ 10 → tot l + 20 * m ≤ 100000 → 0 ≤ p → p + 2 * m ≤ 1000000 → ExP (fun k => spec_l45Text.l0 k l (m : Int) b p) (QT b (tot l + 20 * m) p (p + 2 * m))
  | 0, l, p, hm, hl, h0, hp => by
    refine exp_step (fun k => by rw [spec_l45Text.l0]) (exp_neg (by omega) (exp_ret ⟨by dsimp only; omega, rfl, by dsimp only; omega, by dsimp only; omega⟩))
  | m + 1, l, p, hm, hl, h0, hp => by
    have hll := tot_len l
    refine exp_step (fun k => by rw [spec_l45Text.l0]) (exp_pos (by omega) ?_)
    rw [show wrap64 ((l.length : Int) + 1) = (l.length : Int) + 1 from w64 (by omega) (by omega)]
    obtain ⟨v, ⟨v0, v1, _⟩, e⟩ := pick_ok hb p ((l.length : Int) + 1) (by omega) (by omega) (by omega)
    have v1 := v1 (by omega)
    obtain ⟨n, rfl⟩ : ∃ n : Nat, v = (n : Int) := ⟨v.toNat, by omega⟩
    refine exp_let e ?_
    dsimp only
    rw [Int.toNat_natCast]
    refine exp_pos (by omega) (exp_pos (by omega) (exp_pos (by omega) ?_))
    obtain ⟨s, hs, e2⟩ := of_ok hb (p + 1) (by omega) (by omega) ([(⟨#[]⟩ : ByteArray), (⟨#[32, 32]⟩ : ByteArray), (⟨#[35, 32, 110, 111, 116, 104, 105, 110, 103]⟩ : ByteArray)] : List ByteArray) (by decide) (by decide)
    have hsz : s.size ≤ 9 := by
      simp only [List.mem_cons, List.mem_nil_iff, or_false] at hs
      rcases hs with rfl | rfl | rfl <;> decide
    refine exp_let e2 ?_
    dsimp only
    refine exp_pos (by omega) (exp_pos (by omega) ?_)
    rw [show wrap64 (((m + 1 : Nat) : Int) - 1) = (m : Int) by unfold wrap64; omega]
    have ht : tot ((([] ++ l.take n) ++ [s]) ++ l.drop n) ≤ tot l + 10 := by
      have := tot_cut l n
      rw [List.nil_append, tot_app, tot_app]; simp only [tot]; omega
    refine exp_mono (textLoop hb m _ (p + 1 + 1) (by omega) (by omega) (by omega) (by omega)) (fun q hq => qt_mono hq (by omega) (by omega) (by omega))
theorem text_ok {b : List Int} (hb : Bytes b) : ExP (fun k => spec_l45Text.f k b 0) (QT b 5000 0 3000) := by
  unfold spec_l45Text.f
  refine exp_bind (recipe_ok hb 0 (by omega) (by omega)) (fun t ht => ?_)
  obtain ⟨⟨a1, a2, a3⟩, a4, a5, a6⟩ := ht
  refine exp_ev (specPrint_ev t.1 (by omega)) ?_
  have hsz := printB_size t.1
  refine exp_ev (l43Lines_ev (printB t.1) (by omega)) ?_
  have htot := tot_finL (printB t.1).data.toList []
  rw [ba_len] at htot
  rw [a4]
  obtain ⟨v, ⟨v0, v1, _⟩, e⟩ := pick_ok hb t.2.2 3 (by omega) (by omega) (by omega)
  have v1 := v1 (by omega)
  obtain ⟨n, rfl⟩ : ∃ n : Nat, v = (n : Int) := ⟨v.toNat, by omega⟩
  refine exp_let e ?_
  dsimp only
  simp only [List.length_nil] at htot
  refine exp_mono (textLoop hb n _ (t.2.2 + 1) (by omega) (by omega) (by omega) (by omega)) (fun q hq => qt_mono hq (by omega) (by omega) (by omega))
theorem foreJ (b : List Int) (l : List ByteArray) (p : Int) (M : Nat) (lo hi : Int) (h : tot l ≤ M) (h1 : lo ≤ p) (h2 : p ≤ hi) : ExP (fun k => spec_l45Fore.j0 k l b p) (QT b M lo hi) :=
  exp_step (fun k => by rw [spec_l45Fore.j0]) (exp_ret ⟨h, rfl, h1, h2⟩)
theorem fore0 (t415 : Int × List Int × Int) (M : Nat) (lo hi : Int) (h1 : lo ≤ t415.2.2) (h2 : t415.2.2 ≤ hi) : ∀ (m : Nat) (l : List ByteArray) (i : Nat), i + m = 14 → tot l + 200 * m ≤ M → M ≤ 1000000 → ExP (fun k => spec_l45Fore.l0 k l (i : Int) t415) (QT t415.2.1 M lo hi)
  | 0, l, i, hi', hM, hM2 => by
    refine exp_step (fun k => by rw [spec_l45Fore.l0]) (exp_neg (by omega) (foreJ _ l _ M lo hi (by omega) h1 h2))
  | m + 1, l, i, hi', hM, hM2 => by
    have hll := tot_len l
    refine exp_step (fun k => by rw [spec_l45Fore.l0]) (exp_pos (by omega) ?_)
    refine exp_ev (l43Dec_ev i (i : Int) (by omega) (by omega) (by omega)) ?_
    have hds := dec_small_size (n := (i : Int)) (by omega) (by omega)
    have z1 : (⟨#[121]⟩ : ByteArray).size = 1 := rfl
    have z2 : (⟨#[32, 116, 101, 115, 116, 32, 115, 49, 32, 119, 105, 116, 104, 105, 110, 32, 50, 32, 116, 104, 101, 110, 32, 103, 111, 111, 100, 32, 101, 108, 115, 101, 32, 103, 111, 111, 100]⟩ : ByteArray).size = 37 := rfl
    refine exp_pos (by omega) (exp_pos (by rw [ByteArray.size_append]; omega) (exp_pos (by omega) ?_))
    rw [wsucc (n := 100) (by omega) (by omega)]
    refine fore0 t415 M lo hi h1 h2 m _ (i + 1) (by omega) ?_ hM2
    rw [tot_app, tot_one, ByteArray.size_append, ByteArray.size_append]; omega
theorem fore1 (l1 : List ByteArray) (t419 : Int × List Int × Int) (v : Int) (hv : t419.1 = v) (v0 : 0 ≤ v) (v1 : v < 2) (M : Nat) (lo hi : Int) (h1 : lo ≤ t419.2.2) (h2 : t419.2.2 ≤ hi) : ∀ (m : Nat) (l : List ByteArray), (60 + v).toNat - l.length ≤ m → tot l + 2 * m ≤ M → M ≤ 1000000 → ExP (fun k => spec_l45Fore.l1 k l1 l t419) (QT t419.2.1 M lo hi)
  | 0, l, hm, hM, hM2 => by
    have hw : wrap64 (60 + t419.1) = 60 + v := by rw [hv]; exact w64 (by omega) (by omega)
    refine exp_step (fun k => by rw [spec_l45Fore.l1]) ?_
    rw [hw]
    exact exp_neg (by omega) (foreJ _ l _ M lo hi (by omega) h1 h2)
  | m + 1, l, hm, hM, hM2 => by
    have hll := tot_len l
    have hw : wrap64 (60 + t419.1) = 60 + v := by rw [hv]; exact w64 (by omega) (by omega)
    refine exp_step (fun k => by rw [spec_l45Fore.l1]) ?_
    rw [hw]
    refine exp_ite (fun c => exp_pos (by omega) ?_) (fun c => foreJ _ l _ M lo hi (by omega) h1 h2)
    refine fore1 l1 t419 v hv v0 v1 M lo hi h1 h2 m _ (by simp; omega) ?_ hM2
    have z1 : (⟨#[35]⟩ : ByteArray).size = 1 := rfl
    rw [tot_app]; simp only [tot]; omega
theorem fore_ok {b : List Int} (hb : Bytes b) (p : Int) (h0 : 0 ≤ p) (hp : p ≤ 10000) (l : List ByteArray) (hl : tot l ≤ 5000) : ExP (fun k => spec_l45Fore.f k b p l) (QT b 20000 p (p + 10)) := by
  unfold spec_l45Fore.f
  have hll := tot_len l
  have hnil : ([] : List ByteArray) ++ l = l := rfl
  rw [hnil]
  refine exp_pos (by omega) (exp_ite (fun c => exp_ret ⟨by dsimp only; decide, rfl, by dsimp only; omega, by dsimp only; omega⟩) (fun c => ?_))
  obtain ⟨v, ⟨v0, v1, _⟩, e1⟩ := pick_ok hb p (0 + l.length : Int) (by omega) (by omega) (by omega)
  have v1 := v1 (by omega)
  obtain ⟨n, rfl⟩ : ∃ n : Nat, v = (n : Int) := ⟨v.toNat, by omega⟩
  refine exp_let e1 ?_
  dsimp only
  obtain ⟨u, _, e2⟩ := pick_ok hb (p + 1) 8 (by omega) (by omega) (by omega)
  refine exp_let e2 ?_
  dsimp only
  rw [Int.toNat_natCast, rdOf_nat]
  have hx := tot_mem l _ (mem_getD ByteArray.empty l n (by omega))
  have hset := tot_set l n
  generalize l.getD n ByteArray.empty = x at *
  refine exp_ite (fun _ => ?_) (fun _ => exp_ite (fun _ => ?_) (fun _ => exp_ite (fun _ => ?_) (fun _ => exp_ite (fun _ => ?_) (fun _ => exp_ite (fun _ => ?_) (fun _ => exp_ite (fun _ => ?_) (fun _ => ?_))))))
  · refine exp_pos v0 (exp_pos v1 ?_)
    obtain ⟨s, hs, e3⟩ := of_ok hb (p + 1 + 1) (by omega) (by omega) ([(⟨#[32, 120]⟩ : ByteArray), (⟨#[32, 35, 32, 121]⟩ : ByteArray), (⟨#[127]⟩ : ByteArray), (⟨#[48]⟩ : ByteArray)] : List ByteArray) (by decide) (by decide)
    have hsz : s.size ≤ 9 := by
      simp only [List.mem_cons, List.mem_nil_iff, or_false] at hs
      rcases hs with rfl | rfl | rfl | rfl <;> decide
    refine exp_let e3 ?_
    dsimp only
    have := hset (x ++ s)
    rw [ByteArray.size_append] at this
    exact exp_pos (by omega) (foreJ b _ _ _ _ _ (by omega) (by omega) (by omega))
  · have hw : wrap64 ((n : Int) + 1) = ((n + 1 : Nat) : Int) := by unfold wrap64; omega
    rw [hw, Int.toNat_natCast]
    refine exp_pos v0 (exp_pos (by omega) (exp_pos (by omega) (exp_pos (by omega) (exp_pos (by omega) (exp_pos (by omega) (foreJ b _ _ _ _ _ ?_ (by omega) (by omega)))))))
    have q1 := tot_cut l n
    have q2 := tot_cut l (n + 1)
    rw [List.nil_append, tot_app]; omega
  · refine exp_pos v0 (exp_pos v1 (exp_pos (by omega) (foreJ b _ _ _ _ _ ?_ (by omega) (by omega))))
    rw [tot_app]; simp only [tot]; omega
  · obtain ⟨s, hs, e3⟩ := of_ok hb (p + 1 + 1) (by omega) (by omega) ([(⟨#[103, 111, 111, 100, 32, 99, 108, 101, 97, 110, 32, 115, 49, 32, 119, 105, 116, 104, 105, 110, 32, 49, 32, 116, 104, 101, 110, 32, 103, 111, 111, 100, 32, 101, 108, 115, 101, 32, 103, 111, 111, 100]⟩ : ByteArray), (⟨#[97, 32, 99, 108, 101, 97, 110, 32, 115, 49, 32, 119, 105, 116, 104, 105, 110, 32, 48, 32, 116, 104, 101, 110, 32, 103, 111, 111, 100, 32, 101, 108, 115, 101, 32, 103, 111, 111, 100]⟩ : ByteArray), (⟨#[97, 32, 104, 111, 108, 100, 32, 115, 49, 32, 51, 32, 119, 105, 116, 104, 105, 110, 32, 50, 32, 116, 104, 101, 110, 32, 103, 111, 111, 100, 32, 101, 108, 115, 101, 32, 103, 111, 111, 100]⟩ : ByteArray), (⟨#[97, 32, 109, 111, 118, 101, 32, 115, 49, 32, 115, 49, 32, 51, 32, 119, 105, 116, 104, 105, 110, 32, 50, 32, 116, 104, 101, 110, 32, 103, 111, 111, 100, 32, 101, 108, 115, 101, 32, 103, 111, 111, 100]⟩ : ByteArray), (⟨#[97, 32, 102, 105, 108, 108, 32, 115, 49, 32, 97, 108, 101, 32, 48, 32, 119, 105, 116, 104, 105, 110, 32, 50, 32, 116, 104, 101, 110, 32, 103, 111, 111, 100, 32, 101, 108, 115, 101, 32, 103, 111, 111, 100]⟩ : ByteArray), (⟨#[97, 32, 116, 101, 115, 116, 32, 115, 49, 32, 119, 105, 116, 104, 105, 110, 32, 50, 32, 116, 104, 101, 110, 32, 97, 32, 101, 108, 115, 101, 32, 103, 111, 111, 100]⟩ : ByteArray), (⟨#[97, 32, 116, 101, 115, 116, 32, 115, 49, 32, 119, 105, 116, 104, 105, 110, 32, 50, 32, 116, 104, 101, 110, 32, 103, 111, 111, 100]⟩ : ByteArray), (⟨#[97, 32, 119, 104, 97, 116, 32, 115, 49, 32, 119, 105, 116, 104, 105, 110, 32, 50, 32, 116, 104, 101, 110, 32, 103, 111, 111, 100, 32, 101, 108, 115, 101, 32, 103, 111, 111, 100]⟩ : ByteArray), (⟨#[97, 32, 116, 101, 115, 116, 32, 115, 49, 32, 119, 105, 116, 104, 105, 110, 32, 48, 50, 32, 116, 104, 101, 110, 32, 103, 111, 111, 100, 32, 101, 108, 115, 101, 32, 103, 111, 111, 100]⟩ : ByteArray), (⟨#[97, 32, 116, 101, 115, 116, 32, 115, 49, 32, 119, 105, 116, 104, 105, 110, 32, 50, 32, 101, 108, 115, 101, 32, 103, 111, 111, 100, 32, 116, 104, 101, 110, 32, 103, 111, 111, 100]⟩ : ByteArray)] : List ByteArray) (by decide) (by decide)
    refine exp_let e3 ?_
    have hsz : s.size ≤ 100 := by
      simp only [List.mem_cons, List.mem_nil_iff, or_false] at hs
      rcases hs with rfl | rfl | rfl | rfl | rfl | rfl | rfl | rfl | rfl | rfl <;> decide
    dsimp only
    have := hset s
    exact exp_pos v0 (exp_pos v1 (foreJ b _ _ _ _ _ (by omega) (by omega) (by omega)))
  · exact fore0 (u, b, p + 1 + 1) 20000 p (p + 10) (by dsimp only; omega) (by dsimp only; omega) 14 l 0 (by omega) (by omega) (by omega)
  · obtain ⟨w, ⟨w0, w1, _⟩, e3⟩ := pick_ok hb (p + 1 + 1) 2 (by omega) (by omega) (by omega)
    have w1 := w1 (by omega)
    refine exp_let e3 ?_
    exact fore1 l (w, b, p + 1 + 1 + 1) w rfl w0 w1 20000 p (p + 10) (by dsimp only; omega) (by dsimp only; omega) 62 l (by omega) (by omega) (by omega)
  · refine exp_pos v0 (exp_pos v1 ?_)
    rw [show wrap64 ((x.size : Int) + 1) = (x.size : Int) + 1 from w64 (by omega) (by omega)]
    obtain ⟨w, ⟨w0, w1, _⟩, e3⟩ := pick_ok hb (p + 1 + 1) ((x.size : Int) + 1) (by omega) (by omega) (by omega)
    have w1 := w1 (by omega)
    refine exp_let e3 ?_
    dsimp only
    refine exp_pos w0 (exp_pos (by omega) ?_)
    obtain ⟨s, hs, e4⟩ := of_ok hb (p + 1 + 1 + 1) (by omega) (by omega) ([(⟨#[32]⟩ : ByteArray), (⟨#[57]⟩ : ByteArray), (⟨#[45]⟩ : ByteArray), (⟨#[35]⟩ : ByteArray), (⟨#[97]⟩ : ByteArray)] : List ByteArray) (by decide) (by decide)
    have hsz : s.size ≤ 9 := by
      simp only [List.mem_cons, List.mem_nil_iff, or_false] at hs
      rcases hs with rfl | rfl | rfl | rfl | rfl <;> decide
    refine exp_let e4 ?_
    dsimp only
    have z1 : (x.extract 0 w.toNat).size ≤ x.size := by rw [ByteArray.size_extract]; omega
    have z2 : (x.extract w.toNat x.size).size ≤ x.size := by rw [ByteArray.size_extract]; omega
    have := hset ((x.extract 0 w.toNat ++ s) ++ x.extract w.toNat x.size)
    simp only [ByteArray.size_append] at this
    exact exp_pos (by omega) (exp_pos (by rw [ByteArray.size_append]; omega) (foreJ b _ _ _ _ _ (by omega) (by omega) (by omega)))
theorem linesJ (l : List ByteArray) (hl : tot l ≤ 1000000) : ExP (fun k => spec_l45Lines.f k l) (fun s => s.size ≤ tot l) := by
  unfold spec_l45Lines.f
  have hll := tot_len l
  have key := loopL ByteArray.empty l (P := fun i r => ∀ acc : ByteArray, acc.size + tot r ≤ tot l → ExP (fun k => spec_l45Lines.l0 k l acc (i : Int)) (fun s => s.size ≤ tot l))
    (fun acc ha => by refine exp_step (fun k => by rw [spec_l45Lines.l0]) ?_; exact exp_neg (by omega) (exp_ret (by simp only [tot] at ha; omega))) (fun i x r hi hx hm _ ih acc ha => ?_)
  · exact key _ (by show 0 + tot l ≤ tot l; omega)
  simp only [tot] at ha
  have zn : (⟨#[10]⟩ : ByteArray).size = 1 := rfl
  refine exp_step (fun k => by rw [spec_l45Lines.l0]) (exp_pos (by omega) (exp_pos (by omega) ?_))
  rw [rdOf_nat, hx, wsucc hi (by omega)]
  refine exp_pos (by omega) (exp_pos (by rw [ByteArray.size_append]; omega) (ih _ ?_))
  rw [ByteArray.size_append, ByteArray.size_append]; omega
theorem many0 : ∀ (n : Nat) (s acc : ByteArray), n ≤ 10000 → s.size * n ≤ 5000 → s.size ≤ 5000 → acc.size + s.size * n ≤ 100000 → ExP (fun k => spec_l41Many.l0 k s (n : Int) acc) (fun r => r.size ≤ acc.size + s.size * n)
  | n, s, acc, hn, h1, h2, h3 => by
    refine exp_step (fun k => by rw [spec_l41Many.l0]) ?_
    by_cases c : n = 0
    · subst c
      exact exp_neg (by omega) (exp_ret (by omega))
    · have e1 : Int.tmod (n : Int) 2 = ((n % 2 : Nat) : Int) := by rw [Int.tmod_eq_emod_of_nonneg (by omega)]; omega
      have e2 : wrap64 (Int.tdiv (n : Int) 2) = ((n / 2 : Nat) : Int) := by rw [Int.tdiv_eq_ediv_of_nonneg (by omega)]; unfold wrap64; omega
      have e3 : (s ++ s).size * (n / 2) + s.size * (n % 2) = s.size * n := by
        rw [ByteArray.size_append]
        conv => rhs; rw [← Nat.div_add_mod n 2]
        rw [Nat.mul_add, Nat.add_mul, ← Nat.mul_assoc, Nat.mul_comm s.size 2, Nat.two_mul, Nat.add_mul]
      have hs : s.size ≤ s.size * n := Nat.le_mul_of_pos_right _ (by omega)
      rw [e1, e2]
      refine exp_pos (by omega) (exp_ite (fun d => ?_) (fun d => ?_))
      · have d' : n % 2 = 1 := by omega
        rw [d', Nat.mul_one] at e3
        refine exp_pos (by omega) (exp_pos (by omega) ?_)
        by_cases c0 : n / 2 = 0
        · rw [c0]
          refine exp_step (fun k => by rw [spec_l41Many.l0]) (exp_neg (by omega) (exp_ret (by rw [ByteArray.size_append]; omega)))
        · have hs2 : (s ++ s).size ≤ (s ++ s).size * (n / 2) := Nat.le_mul_of_pos_right _ (by omega)
          refine exp_mono (many0 (n / 2) (s ++ s) (acc ++ s) (by omega) (by omega) (by omega) (by rw [ByteArray.size_append]; omega)) (fun r hr => ?_)
          have z := (ByteArray.size_append : (acc ++ s).size = acc.size + s.size)
          rw [z] at hr; omega
      · have d' : n % 2 = 0 := by omega
        rw [d', Nat.mul_zero] at e3
        refine exp_pos (by omega) ?_
        have hs2 : (s ++ s).size ≤ (s ++ s).size * (n / 2) := Nat.le_mul_of_pos_right _ (by omega)
        exact exp_mono (many0 (n / 2) (s ++ s) acc (by omega) (by omega) (by omega) (by omega)) (fun r hr => by omega)
termination_by n => n
decreasing_by all_goals omega
theorem parseJ {b : List Int} (hb : Bytes b) (l : List ByteArray) (p : Int) (h0 : 0 ≤ p) (hp : p ≤ 100000) (hl : tot l ≤ 50000) : ExP (fun k => spec_DrawRecParse.j0 k l b p) (fun s => s.size ≤ 1048576) := by
  refine exp_step (fun k => by rw [spec_DrawRecParse.j0]) (exp_bind (linesJ l (by omega)) (fun s hs => ?_))
  obtain ⟨v, _, e1⟩ := pick_ok hb p 30 (by omega) (by omega) (by omega)
  refine exp_let e1 ?_
  dsimp only
  have tl : ExP (fun k => (spec_l41Rd_pick.f b (p + 1) 12).bind fun t => if t.1 = 0 then (if (s.size : Int) > 0 then (if 0 ≤ wrap64 ((s.size : Int) - 1) then (if wrap64 ((s.size : Int) - 1) ≤ (s.size : Int) then some (s.extract 0 (wrap64 ((s.size : Int) - 1)).toNat) else none) else none) else some s) else some s) (fun s => s.size ≤ 1048576) := by
    obtain ⟨u, _, e2⟩ := pick_ok hb (p + 1) 12 (by omega) (by omega) (by omega)
    refine exp_let e2 ?_
    dsimp only
    refine exp_ite (fun _ => exp_ite (fun c => ?_) (fun _ => exp_ret (by omega))) (fun _ => exp_ret (by omega))
    rw [show wrap64 ((s.size : Int) - 1) = (s.size : Int) - 1 from w64 (by omega) (by omega)]
    exact exp_pos (by omega) (exp_pos (by omega) (exp_ret (by rw [ByteArray.size_extract]; omega)))
  refine exp_ite (fun _ => exp_ite (fun c => ?_) (fun _ => tl)) (fun _ => tl)
  have z35 : (⟨#[35]⟩ : ByteArray).size = 1 := rfl
  have zx : (⟨#[120]⟩ : ByteArray).size = 1 := rfl
  refine exp_pos (by omega) ?_
  obtain ⟨u, ⟨u0, u1, _⟩, e2⟩ := pick_ok hb (p + 1) 2 (by omega) (by omega) (by omega)
  have u1 := u1 (by omega)
  refine exp_let e2 ?_
  dsimp only
  have hw : wrap64 (wrap64 (wrap64 (4000 - (s.size : Int)) - 1) + u) = ((4000 - s.size - 1 + u.toNat : Nat) : Int) := by unfold wrap64; omega
  rw [hw]
  unfold spec_l41Many.f
  refine exp_bind (many0 (4000 - s.size - 1 + u.toNat) (⟨#[120]⟩ : ByteArray) (⟨#[]⟩ : ByteArray) (by omega) (by rw [zx]; omega) (by rw [zx]; omega) (by rw [zx]; show 0 + _ ≤ _; omega)) (fun r hr => ?_)
  rw [zx] at hr
  have ze : (⟨#[]⟩ : ByteArray).size = 0 := rfl
  refine exp_pos (by rw [ByteArray.size_append]; omega) (exp_ret ?_)
  rw [ByteArray.size_append, ByteArray.size_append]; omega
theorem drawParse_ok (x : List Int) (h : ∀ z ∈ x, (Lit.int .u8 z).wf = true) : ExP (fun k => spec_DrawRecParse.f k x) (fun s => s.size ≤ 1048576) := by
  unfold spec_DrawRecParse.f
  obtain ⟨b, hb, e⟩ := open_ok x (bytes_of h)
  refine exp_let e ?_
  dsimp only
  refine exp_bind (text_ok hb) (fun t ht => ?_)
  obtain ⟨t1, t2, t3, t4⟩ := ht
  rw [t2]
  obtain ⟨v, _, e2⟩ := pick_ok hb t.2.2 2 (by omega) (by omega) (by omega)
  refine exp_let e2 ?_
  dsimp only
  refine exp_ite (fun _ => ?_) (fun _ => parseJ hb _ _ (by omega) (by omega) (by omega))
  refine exp_bind (fore_ok hb (t.2.2 + 1) (by omega) (by omega) t.1 (by omega)) (fun q hq => ?_)
  obtain ⟨q1, q2, q3, q4⟩ := hq
  rw [q2]
  exact parseJ hb _ _ (by omega) (by omega) (by omega)
theorem drawPrint_ok (x : List Int) (h : ∀ z ∈ x, (Lit.int .u8 z).wf = true) : ExP (fun k => spec_DrawRecPrint.f k x) (fun t => t.length ≤ 14 ∧ ∀ z ∈ t, Dp z) := by
  unfold spec_DrawRecPrint.f
  obtain ⟨b, hb, e⟩ := open_ok x (bytes_of h)
  refine exp_let e ?_
  dsimp only
  refine exp_bind (any_ok hb 0 (by omega) (by omega)) (fun t ht => ?_)
  exact exp_ret ⟨ht.1.2.1, ht.1.2.2⟩
/-! ### the law -/
theorem phases_ev (l : List S_impl_RecPhase) (hl : l.length ≤ 140737488351232) : Ev (fun k => laws_wrPhases.f k l l) true := by
  unfold laws_wrPhases.f
  refine ev_pos rfl (loopL z_impl_RecPhase l (P := fun i r => Ev (fun k => laws_wrPhases.l0 k l l (i : Int)) true)
    (by refine Ev.step (fun k => by rw [laws_wrPhases.l0]) ?_; exact ev_neg (by omega) (ev_ret rfl)) (fun i y r hi hx hm _ ih => ?_))
  refine Ev.step (fun k => by rw [laws_wrPhases.l0]) (ev_pos (by omega) (ev_pos (by omega) (ev_pos (by omega) (ev_pos (by simp) ?_))))
  rw [wsucc hi (by omega)]; exact ih
theorem szP {l : List S_impl_RecPhase} (h : recB l = true) : ∀ x ∈ l, SzR x := fun x hx => by
  obtain ⟨a0, a2, a3, a6, a7, _⟩ := prOk (recB_all h x hx)
  exact ⟨by omega, by omega, by omega, by omega, by omega⟩
theorem back_ev {l : List S_impl_RecPhase} (hl : l.length ≤ 14) (hz : ∀ x ∈ l, SzR x) : Ev (fun k => (impl_RecParse.f k (printB l)).bind fun t => if recB l = true then (if t.2.2 = 0 then (laws_wrPhases.f k t.1 l).bind fun t2 => some t2 else some false) else some true) true := by
  have hp := printB_size l
  obtain ⟨R, _, _, eI⟩ := parseT (printB l) (by omega)
  by_cases c : recB l = true
  · exact Ev.bind (print_parse c) (ev_pos c (ev_pos rfl (Ev.bind (phases_ev l (by omega)) (ev_ret rfl))))
  · exact Ev.bind eI (ev_neg c (ev_ret rfl))
theorem lawJ (y : List Int) (h : ∀ z ∈ y, (Lit.int .u8 z).wf = true) : Ev (fun k => laws_FnRecText.j0 k y) true := by
  obtain ⟨l, hd, ⟨q1, q2⟩⟩ := drawPrint_ok y h
  have hz : ∀ z ∈ l, SzR z := fun z hz => (q2 z hz).sz
  have eI := implPrint_ev l (by omega) hz
  have eS := specPrint_ev l (by omega)
  have rI := implRec_ev l (by omega) hz
  have rS := specRec_ev l (by omega)
  have hp := printB_size l
  obtain ⟨R, _, _, eP⟩ := parseT (printB l) (by omega)
  refine Ev.step (fun k => by rw [laws_FnRecText.j0]) (Ev.bind hd (Ev.bind eI ?_))
  by_cases c : recB l = true
  · rw [c] at rI rS
    exact Ev.bind (print_parse c) (Ev.bind eS (ev_pos rfl (Ev.bind rI (Ev.bind rS (ev_neg (by simp) (Ev.bind rS (ev_pos rfl (ev_pos rfl (Ev.bind (phases_ev l (by omega)) (ev_ret rfl))))))))))
  · have c' : recB l = false := by simpa using c
    rw [c'] at rI rS
    exact Ev.bind eP (Ev.bind eS (ev_pos rfl (Ev.bind rI (Ev.bind rS (ev_neg (by simp) (Ev.bind rS (ev_neg (by simp) (ev_ret rfl))))))))
theorem FnRecText : ∀ (x0 : List Int) (x1 : List Int), ((x0.length ≤ 9223372036854775807 ∧ x0.length * 1 ≤ 140737488351232) ∧ ∀ z ∈ x0, (Lit.int .u8 z).wf = true) → ((x1.length ≤ 9223372036854775807 ∧ x1.length * 1 ≤ 140737488351232) ∧ ∀ z ∈ x1, (Lit.int .u8 z).wf = true) → ∃ k, laws_FnRecText.f k x0 x1 = some true := by
  intro x y hx hy
  obtain ⟨⟨_, _⟩, xk⟩ := hx
  obtain ⟨⟨_, _⟩, yk⟩ := hy
  obtain ⟨s, hd, hs⟩ := drawParse_ok x xk
  obtain ⟨R, ⟨⟨⟨g1, _⟩, _, _⟩, g2, g3⟩, eS, eI⟩ := parseT s hs
  have J := lawJ y yk
  refine Ev.rounds ?_
  unfold laws_FnRecText.f
  refine ev_split (fun _ => ev_ret rfl) (fun _ => ev_split (fun _ => ev_ret rfl) (fun _ => Ev.bind hd (Ev.bind eI (Ev.bind eS (ev_pos (by simp) (Ev.bind (phases_ev R.1 (by omega)) (ev_pos rfl ?_)))))))
  by_cases c : R.2.2 = 0
  · have hB := g2 c
    have rI := implRec_ev R.1 (by omega) (szP hB)
    rw [hB] at rI
    exact Ev.bind rI (ev_neg (by rw [decide_eq_true c]; simp) (ev_pos c (Ev.bind (implPrint_ev R.1 (by omega) (szP hB)) (Ev.bind (print_parse hB) (ev_pos rfl (Ev.bind (phases_ev R.1 (by omega)) (ev_pos rfl J)))))))
  · have e := g3 c
    have rI := implRec_ev R.1 (by omega) (fun x hx => by rw [e] at hx; cases hx)
    have hB : recB R.1 = false := by rw [e]; rfl
    rw [hB] at rI
    exact Ev.bind rI (ev_neg (by rw [decide_eq_false c]; simp) (ev_neg c J))
end Go.Proofs.YteflhnpcgoijfaaDoor.Pure
