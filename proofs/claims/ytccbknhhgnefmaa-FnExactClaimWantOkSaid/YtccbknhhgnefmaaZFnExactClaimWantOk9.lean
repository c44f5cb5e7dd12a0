/- The program's ClaimWantOk answers what the reference's ClaimWantOk answers, for every want, and writes into no argument. No condition beyond the row's own. -/
import Derived.Test.YtccbknhhgnefmaaZFnExactClaimWantOk8
namespace Go.Proofs.Ytccbknhhgnefmaa.Pure
open Go.RowKit Go.Proofs.Ytccbknhhgnefmaa.QFnExactClaimWantOk Go.Proofs.YtccbknhhgnefmaaW.PrintWords Go.Proofs.YtccbknhhgnefmaaW.PrintLast Go.Proofs.YtccbknhhgnefmaaW.PrintMore
set_option linter.unusedVariables false
set_option linter.unusedSimpArgs false
/-! ### general words -/
theorem ev_pos {α : Type} {c : Prop} {d : Decidable c} {g f : Nat → Option α} {r : α} (h : c) (k : Ev g r) : Ev (fun n => @ite _ c d (g n) (f n)) r := Ev.congr (fun _ => if_pos h) k
theorem ev_neg {α : Type} {c : Prop} {d : Decidable c} {g f : Nat → Option α} {r : α} (h : ¬ c) (k : Ev f r) : Ev (fun n => @ite _ c d (g n) (f n)) r := Ev.congr (fun _ => if_neg h) k
theorem ev_ret {α : Type} {a r : α} (h : a = r) : Ev (fun _ => some a) r := h ▸ Ev.now a
theorem ev_let {α β : Type} {g : Option α} {a : α} {r : β} {f : Nat → α → Option β} (h : g = some a) (k : Ev (fun n => f n a) r) : Ev (fun n => g.bind (f n)) r := by
  subst h; exact k
theorem ev_eq {α : Type} {g : Nat → Option α} {a r : α} (k : Ev g a) (h : a = r) : Ev g r := h ▸ k
theorem down {P : Nat → Prop} (n : Nat) (h0 : P n) (hs : ∀ i, i < n → P (i + 1) → P i) (i : Nat) (h : i ≤ n) : P i := by
  obtain ⟨d, rfl⟩ : ∃ d, n = i + d := ⟨n - i, by omega⟩
  clear h
  induction d generalizing i with
  | zero => exact h0
  | succ d ih =>
    refine hs i (by omega) ?_
    have e : i + (d + 1) = (i + 1) + d := by omega
    rw [e] at h0 hs
    exact ih (i + 1) h0 hs
theorem w64 {x : Int} (h0 : -9223372036854775808 ≤ x) (h1 : x ≤ 9223372036854775807) : wrap64 x = x := by unfold wrap64; omega
theorem wsucc {i n : Nat} (h : i < n) (hn : n ≤ 9223372036854775807) : wrap64 ((i : Int) + 1) = ((i + 1 : Nat) : Int) := by unfold wrap64; omega
theorem getD_eq {α : Type} (d : α) (xs : List α) (i : Nat) (h : i < xs.length) : xs.getD i d = xs[i] := by
  rw [List.getD_eq_getElem?_getD, List.getElem?_eq_getElem h]; rfl
theorem getD_set {α : Type} (d : α) (xs : List α) (i j : Nat) (v : α) (h : i < xs.length) : (xs.set i v).getD j d = if j = i then v else xs.getD j d := by
  rw [List.getD_eq_getElem?_getD, List.getD_eq_getElem?_getD, List.getElem?_set]
  by_cases e : i = j
  · subst e; simp [h]
  · rw [if_neg e, if_neg (fun q => e q.symm)]
theorem fill_end {α : Type} (d : α) (z y : List α) (hl : y.length = z.length) (h : ∀ j, j < z.length → y.getD j d = z.getD j d) : y = z := by
  apply List.ext_getElem hl
  intro j h1 h2
  have e := h j h2
  rwa [getD_eq d y j h1, getD_eq d z j h2] at e
theorem fill_step {α : Type} (d : α) (z y : List α) (i : Nat) (hl : y.length = z.length) (hi : i < z.length) (h : ∀ j, j < i → y.getD j d = z.getD j d) (v : α) (hv : v = z.getD i d) :
    (y.set i v).length = z.length ∧ ∀ j, j < i + 1 → (y.set i v).getD j d = z.getD j d := by
  refine ⟨by simpa using hl, fun j hj => ?_⟩
  rw [getD_set d y i j v (by omega)]
  by_cases e : j = i
  · rw [if_pos e, e, hv]
  · rw [if_neg e]; exact h j (by omega)
theorem mem_getD {α : Type} (d : α) (xs : List α) (i : Nat) (h : i < xs.length) : xs.getD i d ∈ xs := by
  rw [getD_eq d xs i h]; exact List.getElem_mem h
/-! ### names -/
theorem ev_split {α : Type} {c : Prop} {d : Decidable c} {g f : Nat → Option α} {r : α} (h : c → Ev g r) (k : ¬ c → Ev f r) : Ev (fun n => @ite _ c d (g n) (f n)) r := by
  by_cases q : c
  · exact ev_pos q (h q)
  · exact ev_neg q (k q)
theorem ev_bool {a r : Bool} (h : a = true ↔ r = true) : Ev (fun _ => some a) r := ev_ret (Bool.eq_iff_iff.2 h)
def okc (c : Int) : Bool := (decide (97 ≤ c) && decide (c ≤ 122)) || ((decide (48 ≤ c) && decide (c ≤ 57)) || decide (c = 45))
def allFrom (s : ByteArray) (i : Nat) : Bool := decide (∀ j, j < s.size → i ≤ j → okc (bt s (j : Int)) = true)
theorem allFrom_step (s : ByteArray) (i : Nat) (h : i < s.size) : allFrom s i = (okc (bt s (i : Int)) && allFrom s (i + 1)) := by
  unfold allFrom
  rw [Bool.eq_iff_iff, Bool.and_eq_true, decide_eq_true_iff, decide_eq_true_iff]
  refine ⟨fun q => ⟨q i h (Nat.le_refl _), fun j hj hi => q j hj (by omega)⟩, fun q j hj hi => ?_⟩
  by_cases e : j = i
  · rw [e]; exact q.1
  · exact q.2 j hj (by omega)
theorem allFrom_end (s : ByteArray) : allFrom s s.size = true := by
  unfold allFrom
  rw [decide_eq_true_iff]
  intro j hj hi; omega
def nameB (s : ByteArray) : Bool := decide (1 ≤ s.size ∧ s.size ≤ 8) && allFrom s 0
theorem okc_of {c : Int} {b : Bool} (h : (97 ≤ c ∧ c ≤ 122 ∨ 48 ≤ c ∧ c ≤ 57 ∨ c = 45) ↔ b = true) : okc c = b := by
  rw [Bool.eq_iff_iff, ← h]; simp [okc]
theorem some_of_ite {α : Type} {c : Prop} [Decidable c] {a b : Option α} (ha : ∃ x, a = some x) (hb : ∃ x, b = some x) : ∃ x, (if c then a else b) = some x := by
  split
  · exact ha
  · exact hb
theorem rdOf_nat {α : Type} (d : α) (xs : List α) (i : Nat) : rdOf d xs (i : Int) = xs.getD i d := by simp [rdOf]
theorem map_getD {α β : Type} (e : β) (d : α) (f : α → β) (l : List α) (i : Nat) (h : i < l.length) : (l.map f).getD i e = f (l.getD i d) := by
  rw [getD_eq e _ i (by simpa using h), getD_eq d l i h, List.getElem_map]
/-! ### all from a place on -/
def fromB (p : Nat → Bool) (n i : Nat) : Bool := decide (∀ j, j < n → i ≤ j → p j = true)
theorem fromB_end (p : Nat → Bool) (n : Nat) : fromB p n n = true := by
  unfold fromB; rw [decide_eq_true_iff]; intro j h1 h2; omega
theorem fromB_step (p : Nat → Bool) (n i : Nat) (h : i < n) : fromB p n i = (p i && fromB p n (i + 1)) := by
  unfold fromB
  rw [Bool.eq_iff_iff, Bool.and_eq_true, decide_eq_true_iff, decide_eq_true_iff]
  refine ⟨fun q => ⟨q i h (Nat.le_refl _), fun j hj hi => q j hj (by omega)⟩, fun q j hj hi => ?_⟩
  by_cases e : j = i
  · rw [e]; exact q.1
  · exact q.2 j hj (by omega)
theorem fromB_true {p : Nat → Bool} {n : Nat} : fromB p n 0 = true ↔ ∀ j, j < n → p j = true := by
  unfold fromB
  rw [decide_eq_true_iff]
  exact ⟨fun h j hj => h j hj (Nat.zero_le _), fun h j hj _ => h j hj⟩
theorem fromB_and (p q : Nat → Bool) (n : Nat) : fromB (fun i => p i && q i) n 0 = (fromB p n 0 && fromB q n 0) := by
  rw [Bool.eq_iff_iff, Bool.and_eq_true, fromB_true, fromB_true, fromB_true]
  exact ⟨fun h => ⟨fun j hj => (Bool.and_eq_true _ _ ▸ h j hj).1, fun j hj => (Bool.and_eq_true _ _ ▸ h j hj).2⟩, fun h j hj => by rw [h.1 j hj, h.2 j hj]; rfl⟩
theorem l21In_is (a b c : Int) : spec_l21In.f a b c = some (decide (b ≤ a ∧ a ≤ c)) := by
  unfold spec_l21In.f
  by_cases h : a ≥ b
  · rw [if_pos h]; congr 1; apply decide_eq_decide.2; omega
  · rw [if_neg h]; congr 1; symm; apply decide_eq_false; omega
theorem l21NameOk_ev (s : ByteArray) : Ev (fun k => spec_l21NameOk.f k s) (nameB s) := by
  unfold spec_l21NameOk.f
  refine ev_let (l21In_is _ _ _) (ev_split (fun h => ?_) (fun h => ev_ret ?_))
  · have hs : 1 ≤ s.size ∧ s.size ≤ 8 := by have := of_decide_eq_true h; omega
    have key := down (P := fun i => Ev (fun k => spec_l21NameOk.l0 k s (i : Int)) (allFrom s i)) s.size
      (by
        refine Ev.step (fun k => by rw [spec_l21NameOk.l0]) ?_
        exact ev_neg (by omega) (ev_ret (allFrom_end s).symm))
      (fun i hi ih => by
        refine Ev.step (fun k => by rw [spec_l21NameOk.l0]) ?_
        refine ev_pos (by omega) (ev_pos (by omega) ?_)
        rw [wsucc hi (by omega), allFrom_step s i hi]
        have yes : okc (bt s (i : Int)) = true → Ev (fun k => spec_l21NameOk.l0 k s ((i + 1 : Nat) : Int)) (okc (bt s (i : Int)) && allFrom s (i + 1)) := fun q => by rw [q]; exact ih
        have no : okc (bt s (i : Int)) = false → Ev (fun _ => some false) (okc (bt s (i : Int)) && allFrom s (i + 1)) := fun q => by rw [q]; exact ev_ret rfl
        repeat' (first | exact yes (okc_of (by simp; omega)) | exact no (okc_of (by simp; omega)) | (refine ev_split (fun _ => ?_) (fun _ => ?_)))) 0 (Nat.zero_le _)
    refine ev_eq key ?_
    unfold nameB; rw [decide_eq_true hs]; rfl
  · have hs : ¬ (1 ≤ s.size ∧ s.size ≤ 8) := fun q => h (decide_eq_true (by omega))
    unfold nameB; rw [decide_eq_false hs]; rfl
theorem isName_ev (s : ByteArray) (hn : s.size ≤ 140737488351232) : Ev (fun k => impl_isName.f k s) (nameB s) := by
  unfold impl_isName.f
  have key := down (P := fun i => Ev (fun k => impl_isName.l0 k s (s.size : Int) (i : Int)) (decide (1 ≤ s.size ∧ s.size ≤ 8) && allFrom s i)) s.size
    (by
      refine Ev.step (fun k => by rw [impl_isName.l0]) ?_
      refine ev_neg (by omega) ?_
      rw [allFrom_end, Bool.and_true]
      refine ev_split (fun h => ev_ret (decide_eq_decide.2 (by omega))) (fun h => ev_ret ?_)
      symm; apply decide_eq_false; omega)
    (fun i hi ih => by
      refine Ev.step (fun k => by rw [impl_isName.l0]) ?_
      refine ev_pos (by omega) (ev_pos (by omega) (ev_pos (by omega) ?_))
      rw [wsucc hi (by omega), allFrom_step s i hi]
      have yes : okc (bt s (i : Int)) = true → Ev (fun k => impl_isName.l0 k s (s.size : Int) ((i + 1 : Nat) : Int)) (decide (1 ≤ s.size ∧ s.size ≤ 8) && (okc (bt s (i : Int)) && allFrom s (i + 1))) := fun q => by rw [q]; exact ih
      have no : okc (bt s (i : Int)) = false → Ev (fun _ => some false) (decide (1 ≤ s.size ∧ s.size ≤ 8) && (okc (bt s (i : Int)) && allFrom s (i + 1))) := fun q => by rw [q]; exact ev_ret (by simp)
      repeat' (first | exact yes (okc_of (by simp; omega)) | exact no (okc_of (by simp; omega)) | (refine ev_split (fun _ => ?_) (fun _ => ?_)))) 0 (Nat.zero_le _)
  exact key
def riseAt (l : List ByteArray) (i : Nat) : Bool := decide (i = 0) || Op.bytesLess (l.getD (i - 1) ByteArray.empty).toList (l.getD i ByteArray.empty).toList
def nameAt (l : List ByteArray) (i : Nat) : Bool := nameB (l.getD i ByteArray.empty)
def namesB (l : List ByteArray) : Bool := fromB (nameAt l) l.length 0 && fromB (riseAt l) l.length 0
def hasB (l : List ByteArray) (s : ByteArray) : Bool := !fromB (fun i => !decide ((l.getD i ByteArray.empty).toList = s.toList)) l.length 0
def szS (l : List ByteArray) : Prop := l.length ≤ 140737488351232 ∧ ∀ x ∈ l, x.size ≤ 140737488351232
theorem szS_at {l : List ByteArray} (h : szS l) (i : Nat) (hi : i < l.length) : (l.getD i ByteArray.empty).size ≤ 140737488351232 := h.2 _ (mem_getD _ l i hi)
theorem l21NamesOk_ev (l : List ByteArray) (most : Int) (hn : l.length ≤ 140737488351232) : Ev (fun k => spec_l21NamesOk.f k l most) (decide ((l.length : Int) ≤ most) && namesB l) := by
  unfold spec_l21NamesOk.f
  refine ev_split (fun h => ev_ret ?_) (fun h => ?_)
  · rw [decide_eq_false (by omega)]; rfl
  · rw [decide_eq_true (by omega), Bool.true_and]
    unfold namesB
    rw [← fromB_and]
    refine down (P := fun i => Ev (fun k => spec_l21NamesOk.l0 k l (i : Int)) (fromB (fun i => nameAt l i && riseAt l i) l.length i)) l.length
      (by
        refine Ev.step (fun k => by rw [spec_l21NamesOk.l0]) ?_
        exact ev_neg (by omega) (ev_ret (fromB_end _ _).symm))
      (fun i hi ih => ?_) 0 (Nat.zero_le _)
    refine Ev.step (fun k => by rw [spec_l21NamesOk.l0]) ?_
    refine ev_pos (by omega) (ev_pos (by omega) ?_)
    rw [fromB_step _ _ _ hi, rdOf_nat, wsucc hi (by omega)]
    refine Ev.bind (l21NameOk_ev _) (ev_split (fun c => ?_) (fun c => ev_ret ?_))
    · have hname : nameAt l i = true := c
      rw [hname, Bool.true_and]
      by_cases z : i = 0
      · subst z
        refine ev_neg (by omega) ?_
        rw [show riseAt l 0 = true from rfl, Bool.true_and]; exact ih
      · refine ev_pos (by omega) ?_
        have hw : wrap64 ((i : Int) - 1) = ((i - 1 : Nat) : Int) := by unfold wrap64; omega
        rw [hw, rdOf_nat]
        refine ev_pos (by omega) (ev_pos (by omega) ?_)
        have hr : riseAt l i = Op.bytesLess (l.getD (i - 1) ByteArray.empty).toList (l.getD i ByteArray.empty).toList := by unfold riseAt; rw [decide_eq_false z]; rfl
        rw [hr]
        refine ev_split (fun c => ?_) (fun c => ev_ret ?_)
        · rw [c, Bool.true_and]; exact ih
        · rw [Bool.eq_false_iff.2 c]; rfl
    · have hname : nameAt l i = false := Bool.eq_false_iff.2 c
      rw [hname]; rfl
theorem l21Has_ev (l : List ByteArray) (s : ByteArray) (hn : l.length ≤ 140737488351232) : Ev (fun k => spec_l21Has.f k l s) (hasB l s) := by
  unfold spec_l21Has.f hasB
  refine down (P := fun i => Ev (fun k => spec_l21Has.l0 k l s (i : Int)) (!fromB (fun i => !decide ((l.getD i ByteArray.empty).toList = s.toList)) l.length i)) l.length
    (by
      refine Ev.step (fun k => by rw [spec_l21Has.l0]) ?_
      refine ev_neg (by omega) (ev_ret ?_)
      rw [fromB_end]; rfl)
    (fun i hi ih => ?_) 0 (Nat.zero_le _)
  refine Ev.step (fun k => by rw [spec_l21Has.l0]) ?_
  refine ev_pos (by omega) (ev_pos (by omega) ?_)
  rw [fromB_step _ _ _ hi, rdOf_nat, wsucc hi (by omega)]
  refine ev_split (fun c => ev_ret ?_) (fun c => ?_)
  · rw [decide_eq_true c]; rfl
  · rw [decide_eq_false c]; exact ih
theorem rising_ev (l : List ByteArray) (hn : l.length ≤ 140737488351232) : Ev (fun k => impl_rising.f k l) (fromB (riseAt l) l.length 0) := by
  unfold impl_rising.f
  have key : ∀ i, 1 ≤ i → i ≤ l.length → Ev (fun k => impl_rising.l0 k l (i : Int)) (fromB (riseAt l) l.length i) := fun i h1 h2 =>
    down (P := fun i => 1 ≤ i → Ev (fun k => impl_rising.l0 k l (i : Int)) (fromB (riseAt l) l.length i)) l.length
      (fun _ => by
        refine Ev.step (fun k => by rw [impl_rising.l0]) ?_
        exact ev_neg (by omega) (ev_ret (fromB_end _ _).symm))
      (fun i hi ih h1 => by
        refine Ev.step (fun k => by rw [impl_rising.l0]) ?_
        have hw : wrap64 ((i : Int) - 1) = ((i - 1 : Nat) : Int) := by unfold wrap64; omega
        rw [hw, fromB_step _ _ _ hi, rdOf_nat, rdOf_nat, wsucc hi (by omega)]
        refine ev_pos (by omega) (ev_pos (by omega) (ev_pos (by omega) (ev_pos (by omega) ?_)))
        have hr : riseAt l i = Op.bytesLess (l.getD (i - 1) ByteArray.empty).toList (l.getD i ByteArray.empty).toList := by unfold riseAt; rw [decide_eq_false (by omega : ¬ i = 0)]; rfl
        rw [hr]
        refine ev_split (fun c => ?_) (fun c => ev_ret ?_)
        · rw [c, Bool.true_and]; exact ih (by omega)
        · rw [Bool.eq_false_iff.2 c]; rfl) i h2 h1
  by_cases z : l.length = 0
  · refine Ev.step (fun k => by rw [impl_rising.l0]) (ev_neg (by omega) (ev_ret ?_))
    rw [z]; exact (fromB_end _ 0).symm
  · rw [fromB_step _ _ _ (by omega : 0 < l.length), show riseAt l 0 = true from rfl, Bool.true_and]
    exact key 1 (Nat.le_refl _) (by omega)
theorem names_ev (l : List ByteArray) (h : szS l) : Ev (fun k => impl_names.f k l) (namesB l) := by
  have hn := h.1
  unfold impl_names.f namesB
  refine down (P := fun i => Ev (fun k => impl_names.l0 k l l (l.length : Int) (i : Int)) (fromB (nameAt l) l.length i && fromB (riseAt l) l.length 0)) l.length
    (by
      refine Ev.step (fun k => by rw [impl_names.l0]) ?_
      rw [fromB_end, Bool.true_and]
      exact ev_neg (by omega) (Ev.bind (rising_ev l hn) (ev_ret rfl)))
    (fun i hi ih => ?_) 0 (Nat.zero_le _)
  refine Ev.step (fun k => by rw [impl_names.l0]) ?_
  refine ev_pos (by omega) (ev_pos (by omega) (ev_pos (by omega) ?_))
  rw [fromB_step _ _ _ hi, rdOf_nat, wsucc hi (by omega)]
  refine Ev.bind (isName_ev _ (szS_at h i hi)) (ev_split (fun c => ?_) (fun c => ev_ret ?_))
  · have hname : nameAt l i = true := c
    rw [hname, Bool.true_and]; exact ih
  · have hname : nameAt l i = false := Bool.eq_false_iff.2 c
    rw [hname]; rfl
theorem has_ev (l : List ByteArray) (s : ByteArray) (hn : l.length ≤ 140737488351232) : Ev (fun k => impl_has.f k l s) (hasB l s) := by
  have key : ∃ v : Int, (decide (v ≥ 0) = hasB l s) ∧ Ev (fun k => slices_Index_string_string.f k l s) v := by
    unfold slices_Index_string_string.f hasB
    refine down (P := fun i => ∃ v : Int, (decide (v ≥ 0) = !fromB (fun i => !decide ((l.getD i ByteArray.empty).toList = s.toList)) l.length i) ∧ Ev (fun k => slices_Index_string_string.l0 k l s (l.length : Int) (i : Int)) v) l.length
      ⟨-1, by rw [fromB_end]; rfl, by
        refine Ev.step (fun k => by rw [slices_Index_string_string.l0]) ?_
        exact ev_neg (by omega) (ev_ret rfl)⟩
      (fun i hi ih => ?_) 0 (Nat.zero_le _)
    obtain ⟨v, hv, he⟩ := ih
    rw [fromB_step _ _ _ hi]
    by_cases c : (l.getD i ByteArray.empty).toList = s.toList
    · refine ⟨(i : Int), by rw [decide_eq_true c, decide_eq_true (by omega)]; rfl, Ev.step (fun k => by rw [slices_Index_string_string.l0]) ?_⟩
      rw [rdOf_nat]
      exact ev_pos (by omega) (ev_pos (by omega) (ev_pos (by omega) (ev_pos c.symm (ev_ret rfl))))
    · refine ⟨v, by rw [decide_eq_false c, hv]; rfl, Ev.step (fun k => by rw [slices_Index_string_string.l0]) ?_⟩
      rw [rdOf_nat, wsucc hi (by omega)]
      exact ev_pos (by omega) (ev_pos (by omega) (ev_pos (by omega) (ev_neg (fun q => c q.symm) he)))
  obtain ⟨v, hv, he⟩ := key
  unfold impl_has.f slices_Contains_string_string.f
  exact Ev.bind (Ev.bind he (ev_ret hv)) (ev_ret rfl)
theorem szStringS_ev (l : List ByteArray) (hn : l.length ≤ 140737488351232) (a : Int) : ∃ q, Ev (fun k => laws_szStringS.f k l a) q := by
  have key := down (P := fun i => ∀ a : Int, ∃ q, Ev (fun k => laws_szStringS.l0 k l a (i : Int)) q) l.length
    (fun a => ⟨a, by
      refine Ev.step (fun k => by rw [laws_szStringS.l0]) ?_
      exact ev_neg (by omega) (ev_ret rfl)⟩)
    (fun i hi ih a => by
      by_cases c : wrap64 (a - ((rdOf ByteArray.empty l (i : Int)).size : Int)) < 0
      · exact ⟨-1, by
          refine Ev.step (fun k => by rw [laws_szStringS.l0]) ?_
          exact ev_pos (by omega) (ev_pos (by omega) (ev_pos c (ev_ret rfl)))⟩
      · obtain ⟨q, hq⟩ := ih (wrap64 (a - ((rdOf ByteArray.empty l (i : Int)).size : Int)))
        exact ⟨q, by
          refine Ev.step (fun k => by rw [laws_szStringS.l0]) ?_
          refine ev_pos (by omega) (ev_pos (by omega) (ev_neg c ?_))
          rw [wsucc hi (by omega)]
          exact hq⟩) 0 (Nat.zero_le _)
  unfold laws_szStringS.f
  by_cases c : wrap64 (a - (l.length : Int)) < 0
  · exact ⟨-1, ev_pos c (ev_ret rfl)⟩
  · obtain ⟨q, hq⟩ := key (wrap64 (a - (l.length : Int)))
    exact ⟨q, ev_neg c hq⟩
theorem toStringS_ev (l : List ByteArray) (hn : l.length ≤ 17592186044416) : Ev (fun k => laws_toStringS.f k l) l := by
  unfold laws_toStringS.f
  refine ev_pos (by omega) (ev_pos (by omega) ?_)
  have hm : (l).length = l.length := by simp
  have key := down (P := fun i => ∀ y : List ByteArray, y.length = (l).length → (∀ j, j < i → y.getD j ByteArray.empty = (l).getD j ByteArray.empty) → Ev (fun k => laws_toStringS.l0 k l y (i : Int)) l) l.length
    (fun y hl hy => by
      obtain rfl := fill_end ByteArray.empty _ y hl (fun j hj => hy j (by omega))
      refine Ev.step (fun k => by rw [laws_toStringS.l0]) ?_
      exact ev_neg (by omega) (ev_ret rfl))
    (fun i hi ih y hl hy => by
      refine Ev.step (fun k => by rw [laws_toStringS.l0]) ?_
      refine ev_pos (by omega) (ev_pos (by omega) ?_)
      refine ev_pos (by omega) ?_
      rw [wsucc hi (by omega), rdOf_nat, Int.toNat_natCast]
      obtain ⟨h1, h2⟩ := fill_step ByteArray.empty l y i hl (by omega) hy _ rfl
      exact ih _ h1 h2) 0 (Nat.zero_le _)
  exact key _ (by simp) (fun j hj => by omega)
theorem eqStringS_ev (l : List ByteArray) (hn : l.length ≤ 140737488351232) : Ev (fun k => laws_eqStringS.f k l l) true := by
  unfold laws_eqStringS.f
  refine ev_pos rfl ?_
  have key := down (P := fun i => Ev (fun k => laws_eqStringS.l0 k l l (i : Int)) true) l.length
    (by
      refine Ev.step (fun k => by rw [laws_eqStringS.l0]) ?_
      exact ev_neg (by omega) (ev_ret rfl))
    (fun i hi ih => by
      refine Ev.step (fun k => by rw [laws_eqStringS.l0]) ?_
      refine ev_pos (by omega) (ev_pos (by omega) (ev_pos (by omega) ?_))
      rw [wsucc hi (by omega)]
      exact ev_pos rfl ih) 0 (Nat.zero_le _)
  exact key
def cvClaimUse (x : S120) : S107 := ⟨x.f0, x.f1, x.f2⟩
theorem szClaimUse_some (a0 : ByteArray) (a1 : Int) (a2 : Int) (l : Int) : ∃ q, laws_szClaimUse.f a0 a1 a2 l = some q := by
  unfold laws_szClaimUse.f
  repeat' (first | exact ⟨_, rfl⟩ | refine some_of_ite ?_ ?_)
theorem eqClaimUse_is (a0 : ByteArray) (a1 : Int) (a2 : Int) : laws_eqClaimUse.f a0 a1 a2 a0 a1 a2 = some true := by
  unfold laws_eqClaimUse.f
  repeat (first | rfl | rw [if_pos rfl])
theorem rd_laws_ClaimUse (xs : List S120) (i : Nat) : rd_T120 xs (i : Int) = xs.getD i z120 := by simp [rd_T120]
theorem rd_impl_ClaimUse (xs : List S107) (i : Nat) : rd_T107 xs (i : Int) = xs.getD i z107 := by simp [rd_T107]
theorem szClaimUseS_ev (l : List S120) (hn : l.length ≤ 140737488351232) (a : Int) : ∃ q, Ev (fun k => laws_szClaimUseS.f k l a) q := by
  have key := down (P := fun i => ∀ a : Int, ∃ q, Ev (fun k => laws_szClaimUseS.l0 k l a (i : Int)) q) l.length
    (fun a => ⟨a, by
      refine Ev.step (fun k => by rw [laws_szClaimUseS.l0]) ?_
      exact ev_neg (by omega) (ev_ret rfl)⟩)
    (fun i hi ih a => by
      obtain ⟨e, he⟩ := szClaimUse_some (rd_T120 l (i : Int)).f0 (rd_T120 l (i : Int)).f1 (rd_T120 l (i : Int)).f2 a
      by_cases c : e < 0
      · exact ⟨-1, by
          refine Ev.step (fun k => by rw [laws_szClaimUseS.l0]) ?_
          exact ev_pos (by omega) (ev_pos (by omega) (ev_let he (ev_pos c (ev_ret rfl))))⟩
      · obtain ⟨q, hq⟩ := ih e
        exact ⟨q, by
          refine Ev.step (fun k => by rw [laws_szClaimUseS.l0]) ?_
          refine ev_pos (by omega) (ev_pos (by omega) (ev_let he (ev_neg c ?_)))
          rw [wsucc hi (by omega)]
          exact hq⟩) 0 (Nat.zero_le _)
  unfold laws_szClaimUseS.f
  by_cases c : wrap64 (a - (l.length : Int)) < 0
  · exact ⟨-1, ev_pos c (ev_ret rfl)⟩
  · obtain ⟨q, hq⟩ := key (wrap64 (a - (l.length : Int)))
    exact ⟨q, ev_neg c hq⟩
theorem toClaimUseS_ev (l : List S120) (hn : l.length ≤ 8796093022208) : Ev (fun k => laws_toClaimUseS.f k l) (l.map cvClaimUse) := by
  unfold laws_toClaimUseS.f
  refine ev_pos (by omega) (ev_pos (by omega) ?_)
  have hm : ((l.map cvClaimUse)).length = l.length := by simp
  have key := down (P := fun i => ∀ y : List S107, y.length = ((l.map cvClaimUse)).length → (∀ j, j < i → y.getD j z107 = ((l.map cvClaimUse)).getD j z107) → Ev (fun k => laws_toClaimUseS.l0 k l y (i : Int)) (l.map cvClaimUse)) l.length
    (fun y hl hy => by
      obtain rfl := fill_end z107 _ y hl (fun j hj => hy j (by omega))
      refine Ev.step (fun k => by rw [laws_toClaimUseS.l0]) ?_
      exact ev_neg (by omega) (ev_ret rfl))
    (fun i hi ih y hl hy => by
      refine Ev.step (fun k => by rw [laws_toClaimUseS.l0]) ?_
      refine ev_pos (by omega) (ev_pos (by omega) ?_)
      refine ev_let rfl ?_
      refine ev_pos (by omega) ?_
      rw [wsucc hi (by omega), rd_laws_ClaimUse, Int.toNat_natCast]
      obtain ⟨h1, h2⟩ := fill_step z107 (l.map cvClaimUse) y i hl (by omega) hy (cvClaimUse (l.getD i z120)) (map_getD z107 z120 cvClaimUse l i hi).symm
      exact ih _ h1 h2) 0 (Nat.zero_le _)
  exact key _ (by simp) (fun j hj => by omega)
theorem eqClaimUseS_ev (l : List S107) (hn : l.length ≤ 140737488351232) : Ev (fun k => laws_eqClaimUseS.f k l l) true := by
  unfold laws_eqClaimUseS.f
  refine ev_pos rfl ?_
  have key := down (P := fun i => Ev (fun k => laws_eqClaimUseS.l0 k l l (i : Int)) true) l.length
    (by
      refine Ev.step (fun k => by rw [laws_eqClaimUseS.l0]) ?_
      exact ev_neg (by omega) (ev_ret rfl))
    (fun i hi ih => by
      refine Ev.step (fun k => by rw [laws_eqClaimUseS.l0]) ?_
      refine ev_pos (by omega) (ev_pos (by omega) (ev_pos (by omega) ?_))
      rw [wsucc hi (by omega)]
      exact ev_let (eqClaimUse_is _ _ _) (ev_pos rfl ih)) 0 (Nat.zero_le _)
  exact key
/-! ### wants -/
def useRise (u : List S107) (i : Nat) : Bool := decide (i = 0) || Op.bytesLess (u.getD (i - 1) z107).f0.toList (u.getD i z107).f0.toList
def useB (kind : Int) (u : List S107) (i : Nat) : Bool :=
  (nameB (u.getD i z107).f0 && (useRise u i && decide (1 ≤ (u.getD i z107).f1 ∧ (u.getD i z107).f1 ≤ 3))) &&
    (if (u.getD i z107).f1 = 3 then decide ((u.getD i z107).f2 = 0) else (decide (kind = 1) && decide (1 ≤ (u.getD i z107).f2 ∧ (u.getD i z107).f2 ≤ 1000)))
def usesB (kind : Int) (u : List S107) : Bool := decide (u.length ≤ 8) && fromB (useB kind u) u.length 0
def shareB (a b : List ByteArray) : Bool := !fromB (fun i => !hasB b (a.getD i ByteArray.empty)) a.length 0
def upB (most : Nat) (l : List ByteArray) : Bool := decide (l.length ≤ most) && namesB l
def wantB (number kind : Int) (st : List ByteArray) (u : List S107) (op sh : List ByteArray) : Bool :=
  (decide (1 ≤ number ∧ number ≤ 1000000) && (decide (1 ≤ kind ∧ kind ≤ 3) && (usesB kind u && (upB 12 op && (upB 12 sh && !shareB op sh))))) &&
    (!decide (u.length + op.length + sh.length = 0) && ((decide (kind = 1) || decide (op.length = 0)) && (upB 8 st && (decide (kind = 1) == decide (0 < st.length)))))
theorem useRise_pos {u : List S107} {i : Nat} (h : ¬ i = 0) : useRise u i = Op.bytesLess (u.getD (i - 1) z107).f0.toList (u.getD i z107).f0.toList := by unfold useRise; rw [decide_eq_false h]; rfl
theorem l21UsesOk_ev (number kind : Int) (st : List ByteArray) (u : List S107) (op sh : List ByteArray) : Ev (fun k => spec_l21UsesOk.f k number kind st u op sh) (usesB kind u) := by
  unfold spec_l21UsesOk.f usesB
  refine ev_split (fun h => ev_ret ?_) (fun h => ?_)
  · rw [decide_eq_false (by omega)]; rfl
  rw [decide_eq_true (by omega), Bool.true_and]
  refine down (P := fun i => Ev (fun k => spec_l21UsesOk.l0 k (i : Int) number kind st u op sh) (fromB (useB kind u) u.length i)) u.length
    (by
      refine Ev.step (fun k => by rw [spec_l21UsesOk.l0]) ?_
      exact ev_neg (by omega) (ev_ret (fromB_end _ _).symm))
    (fun i hi ih => ?_) 0 (Nat.zero_le _)
  refine Ev.step (fun k => by rw [spec_l21UsesOk.l0]) ?_
  refine ev_pos (by omega) (ev_pos (by omega) ?_)
  rw [fromB_step _ _ _ hi, rd_impl_ClaimUse]
  generalize fromB (useB kind u) u.length (i + 1) = R at ih ⊢
  have yes : (nameB (u.getD i z107).f0 && (useRise u i && decide (1 ≤ (u.getD i z107).f1 ∧ (u.getD i z107).f1 ≤ 3))) = true → ∀ b : Bool, b = false →
      Ev (fun k => spec_l21UsesOk.j1 k (i : Int) b number kind st u op sh (u.getD i z107).f0 (u.getD i z107).f1 (u.getD i z107).f2) (useB kind u i && R) := fun q b hb => by
    refine Ev.step (fun k => by rw [spec_l21UsesOk.j1]) (ev_neg (by simp [hb]) ?_)
    rw [wsucc hi (by omega)]
    unfold useB
    rw [q, Bool.true_and]
    clear q
    repeat' (first | (refine ev_eq ih ?_; simp_all; done) | (refine ev_bool ?_; clear ih; simp_all; done) | (refine ev_bool ?_; clear ih; simp_all; intros; omega) | refine ev_let (l21In_is _ _ _) ?_ | (refine ev_split (fun _ => ?_) (fun _ => ?_)))
  have no : (nameB (u.getD i z107).f0 && (useRise u i && decide (1 ≤ (u.getD i z107).f1 ∧ (u.getD i z107).f1 ≤ 3))) = false → ∀ b : Bool, b = true →
      Ev (fun k => spec_l21UsesOk.j1 k (i : Int) b number kind st u op sh (u.getD i z107).f0 (u.getD i z107).f1 (u.getD i z107).f2) (useB kind u i && R) := fun q b hb => by
    refine Ev.step (fun k => by rw [spec_l21UsesOk.j1]) (ev_pos hb (ev_ret ?_))
    unfold useB; rw [q]; rfl
  have both : ∀ b : Bool, b = !(nameB (u.getD i z107).f0 && (useRise u i && decide (1 ≤ (u.getD i z107).f1 ∧ (u.getD i z107).f1 ≤ 3))) →
      Ev (fun k => spec_l21UsesOk.j1 k (i : Int) b number kind st u op sh (u.getD i z107).f0 (u.getD i z107).f1 (u.getD i z107).f2) (useB kind u i && R) := fun b hb => by
    cases q : (nameB (u.getD i z107).f0 && (useRise u i && decide (1 ≤ (u.getD i z107).f1 ∧ (u.getD i z107).f1 ≤ 3)))
    · exact no q b (by rw [hb, q]; rfl)
    · exact yes q b (by rw [hb, q]; rfl)
  refine Ev.bind (l21NameOk_ev _) (ev_split (fun c => ?_) (fun c => both _ (by rw [Bool.eq_false_iff.2 c]; rfl)))
  by_cases z : i = 0
  · subst z
    refine ev_neg (by omega) (ev_let (l21In_is _ _ _) (both _ ?_))
    rw [c, show useRise u 0 = true from rfl]; rfl
  · have hw : wrap64 ((i : Int) - 1) = ((i - 1 : Nat) : Int) := by unfold wrap64; omega
    refine ev_pos (by omega) ?_
    rw [hw, rd_impl_ClaimUse]
    refine ev_pos (by omega) (ev_pos (by omega) (ev_split (fun c2 => ev_let (l21In_is _ _ _) (both _ ?_)) (fun c2 => both _ ?_)))
    · rw [c, useRise_pos z, c2]; rfl
    · rw [c, useRise_pos z, Bool.eq_false_iff.2 c2]; rfl
theorem l21Share_ev (a b : List ByteArray) (ha : a.length ≤ 140737488351232) (hb : b.length ≤ 140737488351232) : Ev (fun k => spec_l21Share.f k a b) (shareB a b) := by
  unfold spec_l21Share.f shareB
  refine down (P := fun i => Ev (fun k => spec_l21Share.l0 k a b (i : Int)) (!fromB (fun i => !hasB b (a.getD i ByteArray.empty)) a.length i)) a.length
    (by
      refine Ev.step (fun k => by rw [spec_l21Share.l0]) ?_
      refine ev_neg (by omega) (ev_ret ?_)
      rw [fromB_end]; rfl)
    (fun i hi ih => ?_) 0 (Nat.zero_le _)
  refine Ev.step (fun k => by rw [spec_l21Share.l0]) ?_
  refine ev_pos (by omega) (ev_pos (by omega) ?_)
  rw [fromB_step _ _ _ hi, rdOf_nat, wsucc hi (by omega)]
  refine Ev.bind (l21Has_ev b _ hb) (ev_split (fun c => ev_ret ?_) (fun c => ?_))
  · rw [c]; rfl
  · rw [Bool.eq_false_iff.2 c]; exact ih
theorem upB_of (l : List ByteArray) (m : Nat) : (decide ((l.length : Int) ≤ (m : Int)) && namesB l) = upB m l := by
  unfold upB; congr 1; apply decide_eq_decide.2; omega
theorem specWant_ev (number kind : Int) (st : List ByteArray) (u : List S107) (op sh : List ByteArray) (h2 : st.length ≤ 140737488351232) (h3 : u.length ≤ 140737488351232) (h4 : op.length ≤ 140737488351232) (h5 : sh.length ≤ 140737488351232) :
    Ev (fun k => spec_ClaimWantOk.f k number kind st u op sh) (wantB number kind st u op sh) := by
  have e1 := l21UsesOk_ev number kind st u op sh
  have e2 := l21NamesOk_ev op 12 h4
  have e3 := l21NamesOk_ev sh 12 h5
  have e4 := l21NamesOk_ev st 8 h2
  have e5 := l21Share_ev op sh h4 h5
  rw [show (12 : Int) = ((12 : Nat) : Int) from rfl, upB_of] at e2 e3
  rw [show (8 : Int) = ((8 : Nat) : Int) from rfl, upB_of] at e4
  unfold spec_ClaimWantOk.f wantB
  generalize usesB kind u = b1 at e1 ⊢
  generalize upB 12 op = b2 at e2 ⊢
  generalize upB 12 sh = b3 at e3 ⊢
  generalize upB 8 st = b4 at e4 ⊢
  generalize shareB op sh = b5 at e5 ⊢
  have hsum : wrap64 (wrap64 ((u.length : Int) + (op.length : Int)) + (sh.length : Int)) = ((u.length + op.length + sh.length : Nat) : Int) := by unfold wrap64; omega
  have j0 : ∀ b : Bool, b = !(decide (1 ≤ number ∧ number ≤ 1000000) && (decide (1 ≤ kind ∧ kind ≤ 3) && (b1 && (b2 && (b3 && !b5))))) → Ev (fun k => spec_ClaimWantOk.j0 k b number kind st u op sh)
      ((decide (1 ≤ number ∧ number ≤ 1000000) && (decide (1 ≤ kind ∧ kind ≤ 3) && (b1 && (b2 && (b3 && !b5))))) && (!decide (u.length + op.length + sh.length = 0) && ((decide (kind = 1) || decide (op.length = 0)) && (b4 && (decide (kind = 1) == decide (0 < st.length)))))) := fun b hb => by
    generalize (decide (1 ≤ number ∧ number ≤ 1000000) && (decide (1 ≤ kind ∧ kind ≤ 3) && (b1 && (b2 && (b3 && !b5))))) = A at hb ⊢
    subst hb
    refine Ev.step (fun k => by rw [spec_ClaimWantOk.j0]) ?_
    rw [hsum]
    cases A
    · exact ev_pos rfl (ev_ret rfl)
    refine ev_neg (by simp) ?_
    rw [Bool.true_and]
    generalize u.length + op.length + sh.length = s
    clear e1 e2 e3 e5 h2 h3 h4 h5 hsum
    have es : decide ((st.length : Int) > 0) = decide (0 < st.length) := by apply decide_eq_decide.2; omega
    have ek : (kind == 1) = decide (kind = 1) := rfl
    rw [es, ek]
    refine ev_split (fun c => ev_ret ?_) (fun c => ?_)
    · rw [decide_eq_true (by omega : s = 0)]; rfl
    rw [decide_eq_false (by omega : ¬ s = 0), Bool.not_false, Bool.true_and]
    refine ev_split (fun c => ?_) (fun c => ?_)
    · rw [decide_eq_true c, Bool.true_or, Bool.true_and]
      refine Ev.bind e4 (ev_split (fun q => ?_) (fun q => ev_ret ?_))
      · rw [q, Bool.true_and]; exact ev_ret (by simp [c])
      · rw [Bool.eq_false_iff.2 q]; rfl
    · rw [decide_eq_false c, Bool.false_or]
      refine ev_split (fun q => ev_ret ?_) (fun q => ?_)
      · rw [decide_eq_false (by omega : ¬ op.length = 0)]; rfl
      · rw [decide_eq_true (by omega : op.length = 0), Bool.true_and]
        refine Ev.bind e4 (ev_split (fun q => ?_) (fun q => ev_ret ?_))
        · rw [q, Bool.true_and]; exact ev_ret (by simp [c])
        · rw [Bool.eq_false_iff.2 q]; rfl
  have i1 := l21In_is number 1 1000000
  have i2 := l21In_is kind 1 3
  generalize decide (1 ≤ number ∧ number ≤ 1000000) = a1 at i1 j0 ⊢
  generalize decide (1 ≤ kind ∧ kind ≤ 3) = a2 at i2 j0 ⊢
  repeat' (first | (refine j0 _ ?_; clear j0 e1 e2 e3 e4 e5 i1 i2 h2 h3 h4 h5 hsum; simp_all; done) | refine ev_let i1 ?_ | refine ev_let i2 ?_ | refine Ev.bind e1 ?_ | refine Ev.bind e2 ?_ | refine Ev.bind e3 ?_ | refine Ev.bind e5 ?_ | refine ev_let (l21In_is _ _ _) ?_ | (refine ev_split (fun _ => ?_) (fun _ => ?_)))
theorem implWant_ev (number kind : Int) (st : List ByteArray) (u : List S107) (op sh : List ByteArray) (h2 : szS st) (h3 : u.length ≤ 140737488351232) (h3' : ∀ x ∈ u, x.f0.size ≤ 140737488351232) (h4 : szS op) (h5 : szS sh) :
    Ev (fun k => impl_ClaimWantOk.f k number kind st u op sh) (wantB number kind st u op sh) := by
  have e2 := names_ev op h4
  have e3 := names_ev sh h5
  have e4 := names_ev st h2
  have l2 := h2.1
  have l4 := h4.1
  have l5 := h5.1
  have hsum : wrap64 (wrap64 ((u.length : Int) + (op.length : Int)) + (sh.length : Int)) = ((u.length + op.length + sh.length : Nat) : Int) := by unfold wrap64; omega
  -- behind the uses: nothing is opened and shut
  have tail : Ev (fun k => impl_ClaimWantOk.l1 k op (op.length : Int) 0 number kind st u op sh) (!shareB op sh && (!decide (u.length + op.length + sh.length = 0) && (decide (kind = 1) || decide (op.length = 0)))) := by
    unfold shareB
    rw [Bool.not_not]
    refine down (P := fun i => Ev (fun k => impl_ClaimWantOk.l1 k op (op.length : Int) (i : Int) number kind st u op sh) (fromB (fun i => !hasB sh (op.getD i ByteArray.empty)) op.length i && (!decide (u.length + op.length + sh.length = 0) && (decide (kind = 1) || decide (op.length = 0))))) op.length
      (by
        refine Ev.step (fun k => by rw [impl_ClaimWantOk.l1]) (ev_neg (by omega) ?_)
        rw [fromB_end, Bool.true_and, hsum]
        generalize hs : u.length + op.length + sh.length = s
        have ep : decide ((s : Int) > 0) = !decide (s = 0) := by
          by_cases z : s = 0
          · rw [decide_eq_true z, decide_eq_false (by omega)]; rfl
          · rw [decide_eq_false z, decide_eq_true (by omega)]; rfl
        rw [ep]
        refine ev_split (fun c => ev_ret ?_) (fun c => ev_split (fun q => ev_ret ?_) (fun q => ev_ret ?_))
        · rw [decide_eq_true (by omega : op.length = 0), Bool.or_true, Bool.and_true]
        · rw [decide_eq_true q, Bool.true_or, Bool.and_true]
        · rw [decide_eq_false q, decide_eq_false (by omega : ¬ op.length = 0)]; simp)
      (fun i hi ih => ?_) 0 (Nat.zero_le _)
    refine Ev.step (fun k => by rw [impl_ClaimWantOk.l1]) (ev_pos (by omega) (ev_pos (by omega) (ev_pos (by omega) ?_)))
    rw [fromB_step _ _ _ hi, rdOf_nat, wsucc hi (by omega)]
    refine Ev.bind (has_ev sh _ l5) (ev_split (fun c => ev_ret ?_) (fun c => ?_))
    · rw [c]; rfl
    · rw [Bool.eq_false_iff.2 c]; exact ih
  generalize hT : (!shareB op sh && (!decide (u.length + op.length + sh.length = 0) && (decide (kind = 1) || decide (op.length = 0)))) = T at tail
  -- the uses
  have uses : Ev (fun k => impl_ClaimWantOk.l0 k u (u.length : Int) 0 number kind st u op sh) (fromB (useB kind u) u.length 0 && T) := by
    refine down (P := fun i => Ev (fun k => impl_ClaimWantOk.l0 k u (u.length : Int) (i : Int) number kind st u op sh) (fromB (useB kind u) u.length i && T)) u.length
      (by
        refine Ev.step (fun k => by rw [impl_ClaimWantOk.l0]) (ev_neg (by omega) ?_)
        rw [fromB_end, Bool.true_and]; exact tail)
      (fun i hi ih => ?_) 0 (Nat.zero_le _)
    refine Ev.step (fun k => by rw [impl_ClaimWantOk.l0]) (ev_pos (by omega) (ev_pos (by omega) (ev_pos (by omega) ?_)))
    rw [fromB_step _ _ _ hi, rd_impl_ClaimUse, Bool.and_assoc]
    generalize (fromB (useB kind u) u.length (i + 1) && T) = R at ih ⊢
    clear tail hT e2 e3 e4
    have j3 : ∀ b : Bool, (nameB (u.getD i z107).f0 && useRise u i) = !b →
        Ev (fun k => impl_ClaimWantOk.j3 k u (u.length : Int) (i : Int) b number kind st u op sh (u.getD i z107).f0 (u.getD i z107).f1 (u.getD i z107).f2) (useB kind u i && R) := fun b hb => by
      refine Ev.step (fun k => by rw [impl_ClaimWantOk.j3]) ?_
      rw [wsucc hi (by omega)]
      unfold useB
      rw [← Bool.and_assoc (nameB _), hb]
      clear hb
      generalize (u.getD i z107).f0 = a0
      generalize (u.getD i z107).f1 = a1
      generalize (u.getD i z107).f2 = a2
      have j4 : ∀ c : Bool, c = decide (a1 = 1 ∨ a1 = 2) → ¬ a1 = 3 → b = false → Ev (fun k => impl_ClaimWantOk.j4 k u (u.length : Int) (i : Int) c number kind st u op sh a0 a1 a2) ((!b && decide (1 ≤ a1 ∧ a1 ≤ 3)) && (if a1 = 3 then decide (a2 = 0) else decide (kind = 1) && decide (1 ≤ a2 ∧ a2 ≤ 1000)) && R) := fun c hc h3 hb => by
        refine Ev.step (fun k => by rw [impl_ClaimWantOk.j4]) ?_
        rw [wsucc hi (by omega)]
        subst hc
        subst hb
        have e12 : decide (a1 = 1 ∨ a1 = 2) = decide (1 ≤ a1 ∧ a1 ≤ 3) := by apply decide_eq_decide.2; omega
        rw [if_neg h3, e12]
        repeat' (first | (refine ev_eq ih ?_; simp_all; done) | (refine ev_eq ih ?_; simp_all; omega) | (refine ev_bool ?_; clear ih; simp_all; done) | (refine ev_bool ?_; clear ih; simp_all; intros; omega) | (refine ev_split (fun _ => ?_) (fun _ => ?_)))
      cases b
      · refine ev_neg (by simp) (ev_split (fun c => ?_) (fun c => ev_split (fun q => j4 _ ?_ c rfl) (fun q => j4 _ ?_ c rfl)))
        · refine ev_split (fun q => ev_eq ih ?_) (fun q => ev_ret ?_)
          · simp [c, q]
          · simp [c, q]
        · simp [q]
        · simp [q]; rfl
      · exact ev_pos rfl (ev_ret (by simp))
    refine Ev.bind (isName_ev _ (h3' _ (mem_getD _ u i hi))) (ev_split (fun c => ?_) (fun c => j3 _ (by rw [Bool.eq_false_iff.2 c]; rfl)))
    by_cases z : i = 0
    · subst z
      exact ev_neg (by omega) (j3 _ (by rw [c, show useRise u 0 = true from rfl]; rfl))
    · have hw : wrap64 ((i : Int) - 1) = ((i - 1 : Nat) : Int) := by unfold wrap64; omega
      refine ev_pos (by omega) ?_
      rw [hw, rd_impl_ClaimUse]
      exact ev_pos (by omega) (ev_pos (by omega) (j3 _ (by rw [c, useRise_pos z, Bool.not_not]; rfl)))
  have all : wantB number kind st u op sh = ((decide (1 ≤ number ∧ number ≤ 1000000) && (decide (1 ≤ kind ∧ kind ≤ 3) && (upB 8 st && (decide (kind = 1) == decide (0 < st.length))))) && ((decide (u.length ≤ 8) && (upB 12 op && upB 12 sh)) && (fromB (useB kind u) u.length 0 && T))) := by
    rw [← hT]
    unfold wantB usesB
    generalize decide (1 ≤ number ∧ number ≤ 1000000) = b1
    generalize decide (1 ≤ kind ∧ kind ≤ 3) = b2
    generalize upB 8 st = b3
    generalize (decide (kind = 1) == decide (0 < st.length)) = b4
    generalize decide (u.length ≤ 8) = b5
    generalize upB 12 op = b6
    generalize upB 12 sh = b7
    generalize fromB (useB kind u) u.length 0 = b8
    generalize shareB op sh = b9
    generalize decide (u.length + op.length + sh.length = 0) = b10
    generalize (decide (kind = 1) || decide (op.length = 0)) = b11
    revert b1 b2 b3 b4 b5 b6 b7 b8 b9 b10 b11
    decide
  rw [all]
  generalize hU : (fromB (useB kind u) u.length 0 && T) = U at uses ⊢
  clear all hU hT tail
  have j1 : ∀ b : Bool, Ev (fun k => impl_ClaimWantOk.j1 k b number kind st u op sh) (!b && U) := fun b => by
    refine Ev.step (fun k => by rw [impl_ClaimWantOk.j1]) ?_
    cases b
    · exact ev_neg (by simp) uses
    · exact ev_pos rfl (ev_ret rfl)
  have j0 : ∀ b : Bool, Ev (fun k => impl_ClaimWantOk.j0 k b number kind st u op sh) (!b && ((decide (u.length ≤ 8) && (upB 12 op && upB 12 sh)) && U)) := fun b => by
    refine Ev.step (fun k => by rw [impl_ClaimWantOk.j0]) ?_
    cases b
    case true => exact ev_pos rfl (ev_ret rfl)
    refine ev_neg (by simp) ?_
    unfold upB
    refine ev_split (fun c => ev_eq (j1 true) ?_) (fun c1 => ev_split (fun c => ev_eq (j1 true) ?_) (fun c2 => ev_split (fun c => ev_eq (j1 true) ?_) (fun c3 => ?_)))
    · rw [decide_eq_false (by omega : ¬ u.length ≤ 8)]; simp
    · rw [decide_eq_false (by omega : ¬ op.length ≤ 12)]; simp
    · rw [decide_eq_false (by omega : ¬ sh.length ≤ 12)]; simp
    rw [decide_eq_true (by omega : u.length ≤ 8), decide_eq_true (by omega : op.length ≤ 12), decide_eq_true (by omega : sh.length ≤ 12)]
    refine Ev.bind e2 (ev_split (fun c => ?_) (fun c => ev_eq (j1 true) ?_))
    · refine Ev.bind e3 (ev_eq (j1 _) ?_)
      rw [c]; simp
    · rw [Bool.eq_false_iff.2 c]; simp
  unfold impl_ClaimWantOk.f
  refine ev_split (fun c => ev_eq (j0 true) ?_) (fun c1 => ev_split (fun c => ev_eq (j0 true) ?_) (fun c2 => ev_split (fun c => ev_eq (j0 true) ?_) (fun c3 => ev_split (fun c => ev_eq (j0 true) ?_) (fun c4 => ev_split (fun c => ev_eq (j0 true) ?_) (fun c5 => ?_)))))
  · rw [decide_eq_false (by omega : ¬ (1 ≤ number ∧ number ≤ 1000000))]; simp
  · rw [decide_eq_false (by omega : ¬ (1 ≤ number ∧ number ≤ 1000000))]; simp
  · rw [decide_eq_false (by omega : ¬ (1 ≤ kind ∧ kind ≤ 3))]; simp
  · rw [decide_eq_false (by omega : ¬ (1 ≤ kind ∧ kind ≤ 3))]; simp
  · unfold upB; rw [decide_eq_false (by omega : ¬ st.length ≤ 8)]; simp
  rw [decide_eq_true (by omega : 1 ≤ number ∧ number ≤ 1000000), decide_eq_true (by omega : 1 ≤ kind ∧ kind ≤ 3)]
  have hst : upB 8 st = namesB st := by unfold upB; rw [decide_eq_true (by omega : st.length ≤ 8)]; rfl
  rw [hst]
  have es : decide ((st.length : Int) > 0) = decide (0 < st.length) := by apply decide_eq_decide.2; omega
  have ek : (kind == 1) = decide (kind = 1) := rfl
  refine Ev.bind e4 (ev_split (fun c => ?_) (fun c => ev_eq (j0 true) ?_))
  · refine ev_eq (j0 _) ?_
    rw [c, es, ek]
    generalize decide (kind = 1) = p
    generalize decide (0 < st.length) = q
    generalize ((decide (u.length ≤ 8) && (upB 12 op && upB 12 sh)) && U) = r
    revert p q r
    decide
  · rw [Bool.eq_false_iff.2 c]; simp
theorem szClaimWant_ev (x : S66) (hx : ok66 x) (a : Int) : ∃ q, Ev (fun k => laws_szClaimWant.f k x.f0 x.f1 x.f2 x.f3 x.f4 x.f5 a) q := by
  obtain ⟨_, _, h2, h3, h4, h5⟩ := hx
  unfold laws_szClaimWant.f
  obtain ⟨q1, e1⟩ := szStringS_ev x.f2 (by omega) a
  obtain ⟨q2, e2⟩ := szClaimUseS_ev x.f3 (by omega) q1
  obtain ⟨q3, e3⟩ := szStringS_ev x.f4 (by omega) q2
  obtain ⟨q4, e4⟩ := szStringS_ev x.f5 (by omega) q3
  by_cases c1 : q1 < 0
  · exact ⟨-1, Ev.bind e1 (ev_pos c1 (ev_ret rfl))⟩
  by_cases c2 : q2 < 0
  · exact ⟨-1, Ev.bind e1 (ev_neg c1 (Ev.bind e2 (ev_pos c2 (ev_ret rfl))))⟩
  by_cases c3 : q3 < 0
  · exact ⟨-1, Ev.bind e1 (ev_neg c1 (Ev.bind e2 (ev_neg c2 (Ev.bind e3 (ev_pos c3 (ev_ret rfl))))))⟩
  by_cases c4 : q4 < 0
  · exact ⟨-1, Ev.bind e1 (ev_neg c1 (Ev.bind e2 (ev_neg c2 (Ev.bind e3 (ev_neg c3 (Ev.bind e4 (ev_pos c4 (ev_ret rfl))))))))⟩
  · exact ⟨q4, Ev.bind e1 (ev_neg c1 (Ev.bind e2 (ev_neg c2 (Ev.bind e3 (ev_neg c3 (Ev.bind e4 (ev_neg c4 (ev_ret rfl))))))))⟩
theorem toClaimWant_ev (x : S66) (hx : ok66 x) : Ev (fun k => laws_toClaimWant.f k x.f0 x.f1 x.f2 x.f3 x.f4 x.f5) (x.f0, x.f1, x.f2, x.f3.map cvClaimUse, x.f4, x.f5) := by
  obtain ⟨_, _, h2, h3, h4, h5⟩ := hx
  unfold laws_toClaimWant.f
  exact Ev.bind (toStringS_ev x.f2 (by omega)) (Ev.bind (toClaimUseS_ev x.f3 (by omega)) (Ev.bind (toStringS_ev x.f4 (by omega)) (Ev.bind (toStringS_ev x.f5 (by omega)) (ev_ret rfl))))
theorem FnExactClaimWantOk : ∀ (x0 : S66), (ok66 x0) → ∃ k, laws_FnExactClaimWantOk.f k x0.f0 x0.f1 x0.f2 x0.f3 x0.f4 x0.f5 = some true := by
  intro x hx
  obtain ⟨q, hq⟩ := szClaimWant_ev x hx 1048576
  have ht := toClaimWant_ev x hx
  obtain ⟨_, _, h2, h3, h4, h5⟩ := hx
  refine Ev.rounds ?_
  unfold laws_FnExactClaimWantOk.f
  have n2 : x.f2.length ≤ 140737488351232 := by omega
  have n4 : x.f4.length ≤ 140737488351232 := by omega
  have n5 : x.f5.length ≤ 140737488351232 := by omega
  have n3 : (x.f3.map cvClaimUse).length ≤ 140737488351232 := by simp; omega
  have n3' : ∀ y ∈ x.f3.map cvClaimUse, y.f0.size ≤ 140737488351232 := fun y hy => by
    obtain ⟨z, hz, rfl⟩ := List.mem_map.1 hy
    exact (h3.2 z hz).1
  refine Ev.bind hq (ev_split (fun _ => ev_ret rfl) (fun _ => ?_))
  refine Ev.bind ht (Ev.bind (specWant_ev _ _ _ _ _ _ n2 n3 n4 n5) (Ev.bind ht (Ev.bind (implWant_ev _ _ _ _ _ _ ⟨n2, h2.2⟩ n3 n3' ⟨n4, h4.2⟩ ⟨n5, h5.2⟩) (ev_neg (by simp) (Ev.bind ht ?_)))))
  unfold laws_eqClaimWant.f
  refine Ev.bind (a := true) (ev_pos rfl (ev_pos rfl (Ev.bind (eqStringS_ev _ n2) (ev_pos rfl (Ev.bind (eqClaimUseS_ev _ n3) (ev_pos rfl (Ev.bind (eqStringS_ev _ n4) (ev_pos rfl (Ev.bind (eqStringS_ev _ n5) (ev_pos rfl (ev_ret rfl))))))))))) (ev_pos rfl (ev_ret rfl))
end Go.Proofs.Ytccbknhhgnefmaa.Pure
