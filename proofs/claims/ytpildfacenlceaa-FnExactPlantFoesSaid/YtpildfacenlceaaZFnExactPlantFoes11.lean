/- The program's PlantFoes answers what the reference's PlantFoes answers, for every plant and any two stuffs, and writes into no argument. No condition beyond the row's own. -/
import Derived.Test.YtpildfacenlceaaZFnExactPlantFoes10
namespace Go.Proofs.Ytpildfacenlceaa.Pure
open Go.RowKit Go.Proofs.Ytpildfacenlceaa.QFnExactPlantFoes Go.Proofs.YtpildfacenlceaaW.PrintWords Go.Proofs.YtpildfacenlceaaW.PrintLast Go.Proofs.YtpildfacenlceaaW.PrintMore
set_option linter.unusedVariables false
set_option linter.unusedSimpArgs false
/-! ### general words -/
theorem ev_pos {α : Type} {c : Prop} {d : Decidable c} {g f : Nat → Option α} {r : α} (h : c) (k : Ev g r) : Ev (fun n => @ite _ c d (g n) (f n)) r := Ev.congr (fun _ => if_pos h) k
theorem ev_neg {α : Type} {c : Prop} {d : Decidable c} {g f : Nat → Option α} {r : α} (h : ¬ c) (k : Ev f r) : Ev (fun n => @ite _ c d (g n) (f n)) r := Ev.congr (fun _ => if_neg h) k
theorem ev_ret {α : Type} {a r : α} (h : a = r) : Ev (fun _ => some a) r := h ▸ Ev.now a
theorem ev_let {α β : Type} {g : Option α} {a : α} {r : β} {f : Nat → α → Option β} (h : g = some a) (k : Ev (fun n => f n a) r) : Ev (fun n => g.bind (f n)) r := by
  subst h; exact k
theorem ev_eq {α : Type} {g : Nat → Option α} {a r : α} (k : Ev g a) (h : a = r) : Ev g r := h ▸ k
theorem down {P : Nat → Prop} (n : Nat) (h0 : P n) (hs : ∀ i, i < n → P (i + 1) → P i) (i : Nat) (h : i ≤ n) : P i := by
  obtain ⟨d, rfl⟩ : ∃ d, n = i + d := ⟨n - i, by omega⟩
  clear h
  induction d generalizing i with
  | zero => exact h0
  | succ d ih =>
    refine hs i (by omega) ?_
    have e : i + (d + 1) = (i + 1) + d := by omega
    rw [e] at h0 hs
    exact ih (i + 1) h0 hs
theorem wsucc {i n : Nat} (h : i < n) (hn : n ≤ 9223372036854775807) : wrap64 ((i : Int) + 1) = ((i + 1 : Nat) : Int) := by unfold wrap64; omega
theorem getD_eq {α : Type} (d : α) (xs : List α) (i : Nat) (h : i < xs.length) : xs.getD i d = xs[i] := by
  rw [List.getD_eq_getElem?_getD, List.getElem?_eq_getElem h]; rfl
theorem getD_set {α : Type} (d : α) (xs : List α) (i j : Nat) (v : α) (h : i < xs.length) : (xs.set i v).getD j d = if j = i then v else xs.getD j d := by
  rw [List.getD_eq_getElem?_getD, List.getD_eq_getElem?_getD, List.getElem?_set]
  by_cases e : i = j
  · subst e; simp [h]
  · rw [if_neg e, if_neg (fun q => e q.symm)]
theorem fill_end {α : Type} (d : α) (z y : List α) (hl : y.length = z.length) (h : ∀ j, j < z.length → y.getD j d = z.getD j d) : y = z := by
  apply List.ext_getElem hl
  intro j h1 h2
  have e := h j h2
  rwa [getD_eq d y j h1, getD_eq d z j h2] at e
theorem fill_step {α : Type} (d : α) (z y : List α) (i : Nat) (hl : y.length = z.length) (hi : i < z.length) (h : ∀ j, j < i → y.getD j d = z.getD j d) (v : α) (hv : v = z.getD i d) :
    (y.set i v).length = z.length ∧ ∀ j, j < i + 1 → (y.set i v).getD j d = z.getD j d := by
  refine ⟨by simpa using hl, fun j hj => ?_⟩
  rw [getD_set d y i j v (by omega)]
  by_cases e : j = i
  · rw [if_pos e, e, hv]
  · rw [if_neg e]; exact h j (by omega)
theorem mem_getD {α : Type} (d : α) (xs : List α) (i : Nat) (h : i < xs.length) : xs.getD i d ∈ xs := by
  rw [getD_eq d xs i h]; exact List.getElem_mem h
/-! ### names -/
theorem ev_split {α : Type} {c : Prop} {d : Decidable c} {g f : Nat → Option α} {r : α} (h : c → Ev g r) (k : ¬ c → Ev f r) : Ev (fun n => @ite _ c d (g n) (f n)) r := by
  by_cases q : c
  · exact ev_pos q (h q)
  · exact ev_neg q (k q)
def okc (c : Int) : Bool := (decide (97 ≤ c) && decide (c ≤ 122)) || ((decide (48 ≤ c) && decide (c ≤ 57)) || decide (c = 45))
def allFrom (s : ByteArray) (i : Nat) : Bool := decide (∀ j, j < s.size → i ≤ j → okc (bt s (j : Int)) = true)
theorem allFrom_step (s : ByteArray) (i : Nat) (h : i < s.size) : allFrom s i = (okc (bt s (i : Int)) && allFrom s (i + 1)) := by
  unfold allFrom
  rw [Bool.eq_iff_iff, Bool.and_eq_true, decide_eq_true_iff, decide_eq_true_iff]
  refine ⟨fun q => ⟨q i h (Nat.le_refl _), fun j hj hi => q j hj (by omega)⟩, fun q j hj hi => ?_⟩
  by_cases e : j = i
  · rw [e]; exact q.1
  · exact q.2 j hj (by omega)
theorem allFrom_end (s : ByteArray) : allFrom s s.size = true := by
  unfold allFrom
  rw [decide_eq_true_iff]
  intro j hj hi; omega
def nameB (s : ByteArray) : Bool := decide (1 ≤ s.size ∧ s.size ≤ 8) && allFrom s 0
theorem okc_of {c : Int} {b : Bool} (h : (97 ≤ c ∧ c ≤ 122 ∨ 48 ≤ c ∧ c ≤ 57 ∨ c = 45) ↔ b = true) : okc c = b := by
  rw [Bool.eq_iff_iff, ← h]; simp [okc]
theorem some_of_ite {α : Type} {c : Prop} [Decidable c] {a b : Option α} (ha : ∃ x, a = some x) (hb : ∃ x, b = some x) : ∃ x, (if c then a else b) = some x := by
  split
  · exact ha
  · exact hb
theorem rdOf_nat {α : Type} (d : α) (xs : List α) (i : Nat) : rdOf d xs (i : Int) = xs.getD i d := by simp [rdOf]
theorem map_getD {α β : Type} (e : β) (d : α) (f : α → β) (l : List α) (i : Nat) (h : i < l.length) : (l.map f).getD i e = f (l.getD i d) := by
  rw [getD_eq e _ i (by simpa using h), getD_eq d l i h, List.getElem_map]
/-! ### all from a place on -/
def fromB (p : Nat → Bool) (n i : Nat) : Bool := decide (∀ j, j < n → i ≤ j → p j = true)
theorem fromB_end (p : Nat → Bool) (n : Nat) : fromB p n n = true := by
  unfold fromB; rw [decide_eq_true_iff]; intro j h1 h2; omega
theorem fromB_step (p : Nat → Bool) (n i : Nat) (h : i < n) : fromB p n i = (p i && fromB p n (i + 1)) := by
  unfold fromB
  rw [Bool.eq_iff_iff, Bool.and_eq_true, decide_eq_true_iff, decide_eq_true_iff]
  refine ⟨fun q => ⟨q i h (Nat.le_refl _), fun j hj hi => q j hj (by omega)⟩, fun q j hj hi => ?_⟩
  by_cases e : j = i
  · rw [e]; exact q.1
  · exact q.2 j hj (by omega)
theorem fromB_true {p : Nat → Bool} {n : Nat} : fromB p n 0 = true ↔ ∀ j, j < n → p j = true := by
  unfold fromB
  rw [decide_eq_true_iff]
  exact ⟨fun h j hj => h j hj (Nat.zero_le _), fun h j hj _ => h j hj⟩
theorem fromB_and (p q : Nat → Bool) (n : Nat) : fromB (fun i => p i && q i) n 0 = (fromB p n 0 && fromB q n 0) := by
  rw [Bool.eq_iff_iff, Bool.and_eq_true, fromB_true, fromB_true, fromB_true]
  exact ⟨fun h => ⟨fun j hj => (Bool.and_eq_true _ _ ▸ h j hj).1, fun j hj => (Bool.and_eq_true _ _ ▸ h j hj).2⟩, fun h j hj => by rw [h.1 j hj, h.2 j hj]; rfl⟩
theorem l2In_is (a b c : Int) : spec_l1In.f a b c = some (decide (b ≤ a ∧ a ≤ c)) := by
  unfold spec_l1In.f
  by_cases h : a ≥ b
  · rw [if_pos h]; congr 1; apply decide_eq_decide.2; omega
  · rw [if_neg h]; congr 1; symm; apply decide_eq_false; omega
theorem l2NameOk_ev (s : ByteArray) : Ev (fun k => spec_l2NameOk.f k s) (nameB s) := by
  unfold spec_l2NameOk.f
  refine ev_let (l2In_is _ _ _) (ev_split (fun h => ?_) (fun h => ev_ret ?_))
  · have hs : 1 ≤ s.size ∧ s.size ≤ 8 := by have := of_decide_eq_true h; omega
    have key := down (P := fun i => Ev (fun k => spec_l2NameOk.l0 k s (i : Int)) (allFrom s i)) s.size
      (by
        refine Ev.step (fun k => by rw [spec_l2NameOk.l0]) ?_
        exact ev_neg (by omega) (ev_ret (allFrom_end s).symm))
      (fun i hi ih => by
        refine Ev.step (fun k => by rw [spec_l2NameOk.l0]) ?_
        refine ev_pos (by omega) (ev_pos (by omega) ?_)
        have j1 : ∀ b : Bool, okc (bt s (i : Int)) = !b → Ev (fun k => spec_l2NameOk.j1 k s (i : Int) b) (allFrom s i) := fun b hb => by
          refine Ev.step (fun k => by rw [spec_l2NameOk.j1]) ?_
          rw [wsucc hi (by omega), allFrom_step s i hi, hb]
          cases b
          · exact ev_neg (by simp) ih
          · exact ev_pos rfl (ev_ret rfl)
        repeat' (first | exact j1 _ (okc_of (by simp; omega)) | (refine ev_split (fun _ => ?_) (fun _ => ?_)))) 0 (Nat.zero_le _)
    refine ev_eq key ?_
    unfold nameB; rw [decide_eq_true hs]; rfl
  · have hs : ¬ (1 ≤ s.size ∧ s.size ≤ 8) := fun q => h (decide_eq_true (by omega))
    unfold nameB; rw [decide_eq_false hs]; rfl
theorem isName_ev (s : ByteArray) (hn : s.size ≤ 140737488351232) : Ev (fun k => impl_isName.f k s) (nameB s) := by
  unfold impl_isName.f
  have key := down (P := fun i => Ev (fun k => impl_isName.l0 k s (s.size : Int) (i : Int)) (decide (1 ≤ s.size ∧ s.size ≤ 8) && allFrom s i)) s.size
    (by
      refine Ev.step (fun k => by rw [impl_isName.l0]) ?_
      refine ev_neg (by omega) ?_
      rw [allFrom_end, Bool.and_true]
      refine ev_split (fun h => ev_ret (decide_eq_decide.2 (by omega))) (fun h => ev_ret ?_)
      symm; apply decide_eq_false; omega)
    (fun i hi ih => by
      refine Ev.step (fun k => by rw [impl_isName.l0]) ?_
      refine ev_pos (by omega) (ev_pos (by omega) (ev_pos (by omega) ?_))
      have j1 : ∀ b : Bool, okc (bt s (i : Int)) = !b → Ev (fun k => impl_isName.j1 k s (s.size : Int) (i : Int) b) (decide (1 ≤ s.size ∧ s.size ≤ 8) && allFrom s i) := fun b hb => by
        refine Ev.step (fun k => by rw [impl_isName.j1]) ?_
        rw [wsucc hi (by omega), allFrom_step s i hi, hb]
        cases b
        · exact ev_neg (by simp) ih
        · exact ev_pos rfl (ev_ret (by simp))
      repeat' (first | exact j1 _ (okc_of (by simp; omega)) | (refine ev_split (fun _ => ?_) (fun _ => ?_)))) 0 (Nat.zero_le _)
  exact key
def riseAt (l : List ByteArray) (i : Nat) : Bool := decide (i = 0) || Op.bytesLess (l.getD (i - 1) ByteArray.empty).toList (l.getD i ByteArray.empty).toList
def nameAt (l : List ByteArray) (i : Nat) : Bool := nameB (l.getD i ByteArray.empty)
def namesB (l : List ByteArray) : Bool := fromB (nameAt l) l.length 0 && fromB (riseAt l) l.length 0
def hasB (l : List ByteArray) (s : ByteArray) : Bool := !fromB (fun i => !decide ((l.getD i ByteArray.empty).toList = s.toList)) l.length 0
def szS (l : List ByteArray) : Prop := l.length ≤ 140737488351232 ∧ ∀ x ∈ l, x.size ≤ 140737488351232
theorem szS_at {l : List ByteArray} (h : szS l) (i : Nat) (hi : i < l.length) : (l.getD i ByteArray.empty).size ≤ 140737488351232 := h.2 _ (mem_getD _ l i hi)
theorem l2Has_ev (l : List ByteArray) (s : ByteArray) (hn : l.length ≤ 140737488351232) : Ev (fun k => spec_l2Has.f k l s) (hasB l s) := by
  unfold spec_l2Has.f hasB
  refine down (P := fun i => Ev (fun k => spec_l2Has.l0 k l s (i : Int)) (!fromB (fun i => !decide ((l.getD i ByteArray.empty).toList = s.toList)) l.length i)) l.length
    (by
      refine Ev.step (fun k => by rw [spec_l2Has.l0]) ?_
      refine ev_neg (by omega) (ev_ret ?_)
      rw [fromB_end]; rfl)
    (fun i hi ih => ?_) 0 (Nat.zero_le _)
  refine Ev.step (fun k => by rw [spec_l2Has.l0]) ?_
  refine ev_pos (by omega) (ev_pos (by omega) ?_)
  rw [fromB_step _ _ _ hi, rdOf_nat, wsucc hi (by omega)]
  refine ev_split (fun c => ev_ret ?_) (fun c => ?_)
  · rw [decide_eq_true c]; rfl
  · rw [decide_eq_false c]; exact ih
theorem rising_ev (l : List ByteArray) (hn : l.length ≤ 140737488351232) : Ev (fun k => impl_rising.f k l) (fromB (riseAt l) l.length 0) := by
  unfold impl_rising.f
  have key : ∀ i, 1 ≤ i → i ≤ l.length → Ev (fun k => impl_rising.l0 k l (i : Int)) (fromB (riseAt l) l.length i) := fun i h1 h2 =>
    down (P := fun i => 1 ≤ i → Ev (fun k => impl_rising.l0 k l (i : Int)) (fromB (riseAt l) l.length i)) l.length
      (fun _ => by
        refine Ev.step (fun k => by rw [impl_rising.l0]) ?_
        exact ev_neg (by omega) (ev_ret (fromB_end _ _).symm))
      (fun i hi ih h1 => by
        refine Ev.step (fun k => by rw [impl_rising.l0]) ?_
        have hw : wrap64 ((i : Int) - 1) = ((i - 1 : Nat) : Int) := by unfold wrap64; omega
        rw [hw, fromB_step _ _ _ hi, rdOf_nat, rdOf_nat, wsucc hi (by omega)]
        refine ev_pos (by omega) (ev_pos (by omega) (ev_pos (by omega) (ev_pos (by omega) ?_)))
        have hr : riseAt l i = Op.bytesLess (l.getD (i - 1) ByteArray.empty).toList (l.getD i ByteArray.empty).toList := by unfold riseAt; rw [decide_eq_false (by omega : ¬ i = 0)]; rfl
        rw [hr]
        refine ev_split (fun c => ?_) (fun c => ev_ret ?_)
        · rw [c, Bool.true_and]; exact ih (by omega)
        · rw [Bool.eq_false_iff.2 c]; rfl) i h2 h1
  by_cases z : l.length = 0
  · refine Ev.step (fun k => by rw [impl_rising.l0]) (ev_neg (by omega) (ev_ret ?_))
    rw [z]; exact (fromB_end _ 0).symm
  · rw [fromB_step _ _ _ (by omega : 0 < l.length), show riseAt l 0 = true from rfl, Bool.true_and]
    exact key 1 (Nat.le_refl _) (by omega)
theorem names_ev (l : List ByteArray) (h : szS l) : Ev (fun k => impl_names.f k l) (namesB l) := by
  have hn := h.1
  unfold impl_names.f namesB
  refine down (P := fun i => Ev (fun k => impl_names.l0 k l l (l.length : Int) (i : Int)) (fromB (nameAt l) l.length i && fromB (riseAt l) l.length 0)) l.length
    (by
      refine Ev.step (fun k => by rw [impl_names.l0]) ?_
      rw [fromB_end, Bool.true_and]
      exact ev_neg (by omega) (Ev.bind (rising_ev l hn) (ev_ret rfl)))
    (fun i hi ih => ?_) 0 (Nat.zero_le _)
  refine Ev.step (fun k => by rw [impl_names.l0]) ?_
  refine ev_pos (by omega) (ev_pos (by omega) (ev_pos (by omega) ?_))
  rw [fromB_step _ _ _ hi, rdOf_nat, wsucc hi (by omega)]
  refine Ev.bind (isName_ev _ (szS_at h i hi)) (ev_split (fun c => ?_) (fun c => ev_ret ?_))
  · have hname : nameAt l i = true := c
    rw [hname, Bool.true_and]; exact ih
  · have hname : nameAt l i = false := Bool.eq_false_iff.2 c
    rw [hname]; rfl
theorem has_ev (l : List ByteArray) (s : ByteArray) (hn : l.length ≤ 140737488351232) : Ev (fun k => impl_has.f k l s) (hasB l s) := by
  have key : ∃ v : Int, (decide (v ≥ 0) = hasB l s) ∧ Ev (fun k => slices_Index_string_string.f k l s) v := by
    unfold slices_Index_string_string.f hasB
    refine down (P := fun i => ∃ v : Int, (decide (v ≥ 0) = !fromB (fun i => !decide ((l.getD i ByteArray.empty).toList = s.toList)) l.length i) ∧ Ev (fun k => slices_Index_string_string.l0 k l s (l.length : Int) (i : Int)) v) l.length
      ⟨-1, by rw [fromB_end]; rfl, by
        refine Ev.step (fun k => by rw [slices_Index_string_string.l0]) ?_
        exact ev_neg (by omega) (ev_ret rfl)⟩
      (fun i hi ih => ?_) 0 (Nat.zero_le _)
    obtain ⟨v, hv, he⟩ := ih
    rw [fromB_step _ _ _ hi]
    by_cases c : (l.getD i ByteArray.empty).toList = s.toList
    · refine ⟨(i : Int), by rw [decide_eq_true c, decide_eq_true (by omega)]; rfl, Ev.step (fun k => by rw [slices_Index_string_string.l0]) ?_⟩
      rw [rdOf_nat]
      exact ev_pos (by omega) (ev_pos (by omega) (ev_pos (by omega) (ev_pos c.symm (ev_ret rfl))))
    · refine ⟨v, by rw [decide_eq_false c, hv]; rfl, Ev.step (fun k => by rw [slices_Index_string_string.l0]) ?_⟩
      rw [rdOf_nat, wsucc hi (by omega)]
      exact ev_pos (by omega) (ev_pos (by omega) (ev_pos (by omega) (ev_neg (fun q => c q.symm) he)))
  obtain ⟨v, hv, he⟩ := key
  unfold impl_has.f slices_Contains_string_string.f
  exact Ev.bind (Ev.bind he (ev_ret hv)) (ev_ret rfl)
theorem szStringS_ev (l : List ByteArray) (hn : l.length ≤ 140737488351232) (a : Int) : ∃ q, Ev (fun k => laws_szStringS.f k l a) q := by
  have key := down (P := fun i => ∀ a : Int, ∃ q, Ev (fun k => laws_szStringS.l0 k l a (i : Int)) q) l.length
    (fun a => ⟨a, by
      refine Ev.step (fun k => by rw [laws_szStringS.l0]) ?_
      exact ev_neg (by omega) (ev_ret rfl)⟩)
    (fun i hi ih a => by
      by_cases c : wrap64 (a - ((rdOf ByteArray.empty l (i : Int)).size : Int)) < 0
      · exact ⟨-1, by
          refine Ev.step (fun k => by rw [laws_szStringS.l0]) ?_
          exact ev_pos (by omega) (ev_pos (by omega) (ev_pos c (ev_ret rfl)))⟩
      · obtain ⟨q, hq⟩ := ih (wrap64 (a - ((rdOf ByteArray.empty l (i : Int)).size : Int)))
        exact ⟨q, by
          refine Ev.step (fun k => by rw [laws_szStringS.l0]) ?_
          refine ev_pos (by omega) (ev_pos (by omega) (ev_neg c ?_))
          rw [wsucc hi (by omega)]
          exact hq⟩) 0 (Nat.zero_le _)
  unfold laws_szStringS.f
  by_cases c : wrap64 (a - (l.length : Int)) < 0
  · exact ⟨-1, ev_pos c (ev_ret rfl)⟩
  · obtain ⟨q, hq⟩ := key (wrap64 (a - (l.length : Int)))
    exact ⟨q, ev_neg c hq⟩
theorem toStringS_ev (l : List ByteArray) (hn : l.length ≤ 17592186044416) : Ev (fun k => laws_toStringS.f k l) l := by
  unfold laws_toStringS.f
  refine ev_pos (by omega) (ev_pos (by omega) ?_)
  have hm : (l).length = l.length := by simp
  have key := down (P := fun i => ∀ y : List ByteArray, y.length = (l).length → (∀ j, j < i → y.getD j ByteArray.empty = (l).getD j ByteArray.empty) → Ev (fun k => laws_toStringS.l0 k l y (i : Int)) l) l.length
    (fun y hl hy => by
      obtain rfl := fill_end ByteArray.empty _ y hl (fun j hj => hy j (by omega))
      refine Ev.step (fun k => by rw [laws_toStringS.l0]) ?_
      exact ev_neg (by omega) (ev_ret rfl))
    (fun i hi ih y hl hy => by
      refine Ev.step (fun k => by rw [laws_toStringS.l0]) ?_
      refine ev_pos (by omega) (ev_pos (by omega) ?_)
      refine ev_pos (by omega) ?_
      rw [wsucc hi (by omega), rdOf_nat, Int.toNat_natCast]
      obtain ⟨h1, h2⟩ := fill_step ByteArray.empty l y i hl (by omega) hy _ rfl
      exact ih _ h1 h2) 0 (Nat.zero_le _)
  exact key _ (by simp) (fun j hj => by omega)
theorem eqStringS_ev (l : List ByteArray) (hn : l.length ≤ 140737488351232) : Ev (fun k => laws_eqStringS.f k l l) true := by
  unfold laws_eqStringS.f
  refine ev_pos rfl ?_
  have key := down (P := fun i => Ev (fun k => laws_eqStringS.l0 k l l (i : Int)) true) l.length
    (by
      refine Ev.step (fun k => by rw [laws_eqStringS.l0]) ?_
      exact ev_neg (by omega) (ev_ret rfl))
    (fun i hi ih => by
      refine Ev.step (fun k => by rw [laws_eqStringS.l0]) ?_
      refine ev_pos (by omega) (ev_pos (by omega) (ev_pos (by omega) ?_))
      rw [wsucc hi (by omega)]
      exact ev_pos rfl ih) 0 (Nat.zero_le _)
  exact key
def cvPlantFoe (x : S140) : S105 := ⟨x.f0, x.f1⟩
theorem szPlantFoe_some (a0 : ByteArray) (a1 : ByteArray) (l : Int) : ∃ q, laws_szPlantFoe.f a0 a1 l = some q := by
  unfold laws_szPlantFoe.f
  repeat' (first | exact ⟨_, rfl⟩ | refine some_of_ite ?_ ?_)
theorem eqPlantFoe_is (a0 : ByteArray) (a1 : ByteArray) : laws_eqPlantFoe.f a0 a1 a0 a1 = some true := by
  unfold laws_eqPlantFoe.f
  repeat (first | rfl | rw [if_pos rfl])
theorem rd_laws_PlantFoe (xs : List S140) (i : Nat) : rd_T140 xs (i : Int) = xs.getD i z140 := by simp [rd_T140]
theorem rd_impl_PlantFoe (xs : List S105) (i : Nat) : rd_T105 xs (i : Int) = xs.getD i z105 := by simp [rd_T105]
theorem szPlantFoeS_ev (l : List S140) (hn : l.length ≤ 140737488351232) (a : Int) : ∃ q, Ev (fun k => laws_szPlantFoeS.f k l a) q := by
  have key := down (P := fun i => ∀ a : Int, ∃ q, Ev (fun k => laws_szPlantFoeS.l0 k l a (i : Int)) q) l.length
    (fun a => ⟨a, by
      refine Ev.step (fun k => by rw [laws_szPlantFoeS.l0]) ?_
      exact ev_neg (by omega) (ev_ret rfl)⟩)
    (fun i hi ih a => by
      obtain ⟨e, he⟩ := szPlantFoe_some (rd_T140 l (i : Int)).f0 (rd_T140 l (i : Int)).f1 a
      by_cases c : e < 0
      · exact ⟨-1, by
          refine Ev.step (fun k => by rw [laws_szPlantFoeS.l0]) ?_
          exact ev_pos (by omega) (ev_pos (by omega) (ev_let he (ev_pos c (ev_ret rfl))))⟩
      · obtain ⟨q, hq⟩ := ih e
        exact ⟨q, by
          refine Ev.step (fun k => by rw [laws_szPlantFoeS.l0]) ?_
          refine ev_pos (by omega) (ev_pos (by omega) (ev_let he (ev_neg c ?_)))
          rw [wsucc hi (by omega)]
          exact hq⟩) 0 (Nat.zero_le _)
  unfold laws_szPlantFoeS.f
  by_cases c : wrap64 (a - (l.length : Int)) < 0
  · exact ⟨-1, ev_pos c (ev_ret rfl)⟩
  · obtain ⟨q, hq⟩ := key (wrap64 (a - (l.length : Int)))
    exact ⟨q, ev_neg c hq⟩
theorem toPlantFoeS_ev (l : List S140) (hn : l.length ≤ 8796093022208) : Ev (fun k => laws_toPlantFoeS.f k l) (l.map cvPlantFoe) := by
  unfold laws_toPlantFoeS.f
  refine ev_pos (by omega) (ev_pos (by omega) ?_)
  have hm : ((l.map cvPlantFoe)).length = l.length := by simp
  have key := down (P := fun i => ∀ y : List S105, y.length = ((l.map cvPlantFoe)).length → (∀ j, j < i → y.getD j z105 = ((l.map cvPlantFoe)).getD j z105) → Ev (fun k => laws_toPlantFoeS.l0 k l y (i : Int)) (l.map cvPlantFoe)) l.length
    (fun y hl hy => by
      obtain rfl := fill_end z105 _ y hl (fun j hj => hy j (by omega))
      refine Ev.step (fun k => by rw [laws_toPlantFoeS.l0]) ?_
      exact ev_neg (by omega) (ev_ret rfl))
    (fun i hi ih y hl hy => by
      refine Ev.step (fun k => by rw [laws_toPlantFoeS.l0]) ?_
      refine ev_pos (by omega) (ev_pos (by omega) ?_)
      refine ev_let rfl ?_
      refine ev_pos (by omega) ?_
      rw [wsucc hi (by omega), rd_laws_PlantFoe, Int.toNat_natCast]
      obtain ⟨h1, h2⟩ := fill_step z105 (l.map cvPlantFoe) y i hl (by omega) hy (cvPlantFoe (l.getD i z140)) (map_getD z105 z140 cvPlantFoe l i hi).symm
      exact ih _ h1 h2) 0 (Nat.zero_le _)
  exact key _ (by simp) (fun j hj => by omega)
theorem eqPlantFoeS_ev (l : List S105) (hn : l.length ≤ 140737488351232) : Ev (fun k => laws_eqPlantFoeS.f k l l) true := by
  unfold laws_eqPlantFoeS.f
  refine ev_pos rfl ?_
  have key := down (P := fun i => Ev (fun k => laws_eqPlantFoeS.l0 k l l (i : Int)) true) l.length
    (by
      refine Ev.step (fun k => by rw [laws_eqPlantFoeS.l0]) ?_
      exact ev_neg (by omega) (ev_ret rfl))
    (fun i hi ih => by
      refine Ev.step (fun k => by rw [laws_eqPlantFoeS.l0]) ?_
      refine ev_pos (by omega) (ev_pos (by omega) (ev_pos (by omega) ?_))
      rw [wsucc hi (by omega)]
      exact ev_let (eqPlantFoe_is _ _) (ev_pos rfl ih)) 0 (Nat.zero_le _)
  exact key
def cvPlantPlace (x : S142) : S86 := ⟨x.f0, x.f1, x.f2⟩
theorem szPlantPlace_some (a0 : ByteArray) (a1 : Int) (a2 : ByteArray) (l : Int) : ∃ q, laws_szPlantPlace.f a0 a1 a2 l = some q := by
  unfold laws_szPlantPlace.f
  repeat' (first | exact ⟨_, rfl⟩ | refine some_of_ite ?_ ?_)
theorem eqPlantPlace_is (a0 : ByteArray) (a1 : Int) (a2 : ByteArray) : laws_eqPlantPlace.f a0 a1 a2 a0 a1 a2 = some true := by
  unfold laws_eqPlantPlace.f
  repeat (first | rfl | rw [if_pos rfl])
theorem rd_laws_PlantPlace (xs : List S142) (i : Nat) : rd_T142 xs (i : Int) = xs.getD i z142 := by simp [rd_T142]
theorem rd_impl_PlantPlace (xs : List S86) (i : Nat) : rd_T86 xs (i : Int) = xs.getD i z86 := by simp [rd_T86]
theorem szPlantPlaceS_ev (l : List S142) (hn : l.length ≤ 140737488351232) (a : Int) : ∃ q, Ev (fun k => laws_szPlantPlaceS.f k l a) q := by
  have key := down (P := fun i => ∀ a : Int, ∃ q, Ev (fun k => laws_szPlantPlaceS.l0 k l a (i : Int)) q) l.length
    (fun a => ⟨a, by
      refine Ev.step (fun k => by rw [laws_szPlantPlaceS.l0]) ?_
      exact ev_neg (by omega) (ev_ret rfl)⟩)
    (fun i hi ih a => by
      obtain ⟨e, he⟩ := szPlantPlace_some (rd_T142 l (i : Int)).f0 (rd_T142 l (i : Int)).f1 (rd_T142 l (i : Int)).f2 a
      by_cases c : e < 0
      · exact ⟨-1, by
          refine Ev.step (fun k => by rw [laws_szPlantPlaceS.l0]) ?_
          exact ev_pos (by omega) (ev_pos (by omega) (ev_let he (ev_pos c (ev_ret rfl))))⟩
      · obtain ⟨q, hq⟩ := ih e
        exact ⟨q, by
          refine Ev.step (fun k => by rw [laws_szPlantPlaceS.l0]) ?_
          refine ev_pos (by omega) (ev_pos (by omega) (ev_let he (ev_neg c ?_)))
          rw [wsucc hi (by omega)]
          exact hq⟩) 0 (Nat.zero_le _)
  unfold laws_szPlantPlaceS.f
  by_cases c : wrap64 (a - (l.length : Int)) < 0
  · exact ⟨-1, ev_pos c (ev_ret rfl)⟩
  · obtain ⟨q, hq⟩ := key (wrap64 (a - (l.length : Int)))
    exact ⟨q, ev_neg c hq⟩
theorem toPlantPlaceS_ev (l : List S142) (hn : l.length ≤ 7036874417766) : Ev (fun k => laws_toPlantPlaceS.f k l) (l.map cvPlantPlace) := by
  unfold laws_toPlantPlaceS.f
  refine ev_pos (by omega) (ev_pos (by omega) ?_)
  have hm : ((l.map cvPlantPlace)).length = l.length := by simp
  have key := down (P := fun i => ∀ y : List S86, y.length = ((l.map cvPlantPlace)).length → (∀ j, j < i → y.getD j z86 = ((l.map cvPlantPlace)).getD j z86) → Ev (fun k => laws_toPlantPlaceS.l0 k l y (i : Int)) (l.map cvPlantPlace)) l.length
    (fun y hl hy => by
      obtain rfl := fill_end z86 _ y hl (fun j hj => hy j (by omega))
      refine Ev.step (fun k => by rw [laws_toPlantPlaceS.l0]) ?_
      exact ev_neg (by omega) (ev_ret rfl))
    (fun i hi ih y hl hy => by
      refine Ev.step (fun k => by rw [laws_toPlantPlaceS.l0]) ?_
      refine ev_pos (by omega) (ev_pos (by omega) ?_)
      refine ev_let rfl ?_
      refine ev_pos (by omega) ?_
      rw [wsucc hi (by omega), rd_laws_PlantPlace, Int.toNat_natCast]
      obtain ⟨h1, h2⟩ := fill_step z86 (l.map cvPlantPlace) y i hl (by omega) hy (cvPlantPlace (l.getD i z142)) (map_getD z86 z142 cvPlantPlace l i hi).symm
      exact ih _ h1 h2) 0 (Nat.zero_le _)
  exact key _ (by simp) (fun j hj => by omega)
theorem eqPlantPlaceS_ev (l : List S86) (hn : l.length ≤ 140737488351232) : Ev (fun k => laws_eqPlantPlaceS.f k l l) true := by
  unfold laws_eqPlantPlaceS.f
  refine ev_pos rfl ?_
  have key := down (P := fun i => Ev (fun k => laws_eqPlantPlaceS.l0 k l l (i : Int)) true) l.length
    (by
      refine Ev.step (fun k => by rw [laws_eqPlantPlaceS.l0]) ?_
      exact ev_neg (by omega) (ev_ret rfl))
    (fun i hi ih => by
      refine Ev.step (fun k => by rw [laws_eqPlantPlaceS.l0]) ?_
      refine ev_pos (by omega) (ev_pos (by omega) (ev_pos (by omega) ?_))
      rw [wsucc hi (by omega)]
      exact ev_let (eqPlantPlace_is _ _ _) (ev_pos rfl ih)) 0 (Nat.zero_le _)
  exact key
def cvPlantValve (x : S144) : S108 := ⟨x.f0, x.f1, x.f2, x.f3⟩
theorem szPlantValve_some (a0 : ByteArray) (a1 : ByteArray) (a2 : ByteArray) (a3 : ByteArray) (l : Int) : ∃ q, laws_szPlantValve.f a0 a1 a2 a3 l = some q := by
  unfold laws_szPlantValve.f
  repeat' (first | exact ⟨_, rfl⟩ | refine some_of_ite ?_ ?_)
theorem eqPlantValve_is (a0 : ByteArray) (a1 : ByteArray) (a2 : ByteArray) (a3 : ByteArray) : laws_eqPlantValve.f a0 a1 a2 a3 a0 a1 a2 a3 = some true := by
  unfold laws_eqPlantValve.f
  repeat (first | rfl | rw [if_pos rfl])
theorem rd_laws_PlantValve (xs : List S144) (i : Nat) : rd_T144 xs (i : Int) = xs.getD i z144 := by simp [rd_T144]
theorem rd_impl_PlantValve (xs : List S108) (i : Nat) : rd_T108 xs (i : Int) = xs.getD i z108 := by simp [rd_T108]
theorem szPlantValveS_ev (l : List S144) (hn : l.length ≤ 140737488351232) (a : Int) : ∃ q, Ev (fun k => laws_szPlantValveS.f k l a) q := by
  have key := down (P := fun i => ∀ a : Int, ∃ q, Ev (fun k => laws_szPlantValveS.l0 k l a (i : Int)) q) l.length
    (fun a => ⟨a, by
      refine Ev.step (fun k => by rw [laws_szPlantValveS.l0]) ?_
      exact ev_neg (by omega) (ev_ret rfl)⟩)
    (fun i hi ih a => by
      obtain ⟨e, he⟩ := szPlantValve_some (rd_T144 l (i : Int)).f0 (rd_T144 l (i : Int)).f1 (rd_T144 l (i : Int)).f2 (rd_T144 l (i : Int)).f3 a
      by_cases c : e < 0
      · exact ⟨-1, by
          refine Ev.step (fun k => by rw [laws_szPlantValveS.l0]) ?_
          exact ev_pos (by omega) (ev_pos (by omega) (ev_let he (ev_pos c (ev_ret rfl))))⟩
      · obtain ⟨q, hq⟩ := ih e
        exact ⟨q, by
          refine Ev.step (fun k => by rw [laws_szPlantValveS.l0]) ?_
          refine ev_pos (by omega) (ev_pos (by omega) (ev_let he (ev_neg c ?_)))
          rw [wsucc hi (by omega)]
          exact hq⟩) 0 (Nat.zero_le _)
  unfold laws_szPlantValveS.f
  by_cases c : wrap64 (a - (l.length : Int)) < 0
  · exact ⟨-1, ev_pos c (ev_ret rfl)⟩
  · obtain ⟨q, hq⟩ := key (wrap64 (a - (l.length : Int)))
    exact ⟨q, ev_neg c hq⟩
theorem toPlantValveS_ev (l : List S144) (hn : l.length ≤ 4398046511104) : Ev (fun k => laws_toPlantValveS.f k l) (l.map cvPlantValve) := by
  unfold laws_toPlantValveS.f
  refine ev_pos (by omega) (ev_pos (by omega) ?_)
  have hm : ((l.map cvPlantValve)).length = l.length := by simp
  have key := down (P := fun i => ∀ y : List S108, y.length = ((l.map cvPlantValve)).length → (∀ j, j < i → y.getD j z108 = ((l.map cvPlantValve)).getD j z108) → Ev (fun k => laws_toPlantValveS.l0 k l y (i : Int)) (l.map cvPlantValve)) l.length
    (fun y hl hy => by
      obtain rfl := fill_end z108 _ y hl (fun j hj => hy j (by omega))
      refine Ev.step (fun k => by rw [laws_toPlantValveS.l0]) ?_
      exact ev_neg (by omega) (ev_ret rfl))
    (fun i hi ih y hl hy => by
      refine Ev.step (fun k => by rw [laws_toPlantValveS.l0]) ?_
      refine ev_pos (by omega) (ev_pos (by omega) ?_)
      refine ev_let rfl ?_
      refine ev_pos (by omega) ?_
      rw [wsucc hi (by omega), rd_laws_PlantValve, Int.toNat_natCast]
      obtain ⟨h1, h2⟩ := fill_step z108 (l.map cvPlantValve) y i hl (by omega) hy (cvPlantValve (l.getD i z144)) (map_getD z108 z144 cvPlantValve l i hi).symm
      exact ih _ h1 h2) 0 (Nat.zero_le _)
  exact key _ (by simp) (fun j hj => by omega)
theorem eqPlantValveS_ev (l : List S108) (hn : l.length ≤ 140737488351232) : Ev (fun k => laws_eqPlantValveS.f k l l) true := by
  unfold laws_eqPlantValveS.f
  refine ev_pos rfl ?_
  have key := down (P := fun i => Ev (fun k => laws_eqPlantValveS.l0 k l l (i : Int)) true) l.length
    (by
      refine Ev.step (fun k => by rw [laws_eqPlantValveS.l0]) ?_
      exact ev_neg (by omega) (ev_ret rfl))
    (fun i hi ih => by
      refine Ev.step (fun k => by rw [laws_eqPlantValveS.l0]) ?_
      refine ev_pos (by omega) (ev_pos (by omega) (ev_pos (by omega) ?_))
      rw [wsucc hi (by omega)]
      exact ev_let (eqPlantValve_is _ _ _ _) (ev_pos rfl ih)) 0 (Nat.zero_le _)
  exact key
/-! ### the order of bytes -/
theorem bl_irr : ∀ x : List UInt8, Op.bytesLess x x = false
  | [] => rfl
  | a :: x => by simp [Op.bytesLess, bl_irr x]
theorem bl_asym : ∀ x y : List UInt8, Op.bytesLess x y = true → Op.bytesLess y x = false
  | [], [], _ => rfl
  | [], _ :: _, _ => rfl
  | _ :: _, [], h => by simp [Op.bytesLess] at h
  | a :: x, b :: y, h => by
    simp only [Op.bytesLess, Bool.or_eq_true, Bool.and_eq_true, decide_eq_true_eq, beq_iff_eq] at h
    simp only [Op.bytesLess, Bool.or_eq_false_iff, Bool.and_eq_false_iff, decide_eq_false_iff_not, beq_eq_false_iff_ne]
    rcases h with h | ⟨rfl, h⟩
    · exact ⟨UInt8.lt_asymm h, .inl (fun e => by subst e; exact UInt8.lt_irrefl _ h)⟩
    · exact ⟨UInt8.lt_irrefl _, .inr (bl_asym x y h)⟩
theorem bl_tri : ∀ x y : List UInt8, Op.bytesLess x y = true ∨ x = y ∨ Op.bytesLess y x = true
  | [], [] => .inr (.inl rfl)
  | [], _ :: _ => .inl rfl
  | _ :: _, [] => .inr (.inr rfl)
  | a :: x, b :: y => by
    simp only [Op.bytesLess, Bool.or_eq_true, Bool.and_eq_true, decide_eq_true_eq, beq_iff_eq, List.cons.injEq]
    rcases UInt8.lt_or_lt_of_ne (a := a) (b := b) |> fun f => (Classical.em (a = b)).imp id f with rfl | h | h
    · rcases bl_tri x y with q | rfl | q
      · exact .inl (.inr ⟨rfl, q⟩)
      · exact .inr (.inl ⟨rfl, rfl⟩)
      · exact .inr (.inr (.inr ⟨rfl, q⟩))
    · exact .inl (.inl h)
    · exact .inr (.inr (.inl h))
theorem ba_ext {a b : ByteArray} (h : a.toList = b.toList) : a = b := by
  apply ByteArray.ext
  apply Array.ext'
  simpa [ByteArray.toList_eq] using h
/-- pair by pair: the first, then the second -/
def befB (a0 a1 b0 b1 : ByteArray) : Bool := Op.bytesLess a0.toList b0.toList || (decide (a0.toList = b0.toList) && Op.bytesLess a1.toList b1.toList)
theorem befB_not (a0 a1 b0 b1 : ByteArray) : (!(Op.bytesLess b0.toList a0.toList || (decide (a0.toList = b0.toList) && !(Op.bytesLess a1.toList b1.toList)))) = befB a0 a1 b0 b1 := by
  unfold befB
  rcases bl_tri a0.toList b0.toList with h | h | h
  · rw [h, bl_asym _ _ h, decide_eq_false (fun e => by rw [e, bl_irr] at h; cases h)]; rfl
  · rw [h, bl_irr, decide_eq_true rfl]; simp
  · rw [h, bl_asym _ _ h, decide_eq_false (fun e => by rw [e, bl_irr] at h; cases h)]; rfl
/-! ### plants -/
def foeRise (f : List S105) (i : Nat) : Bool := decide (i = 0) || befB (f.getD (i - 1) z105).f0 (f.getD (i - 1) z105).f1 (f.getD i z105).f0 (f.getD i z105).f1
theorem foeRise_pos {f : List S105} {i : Nat} (h : ¬ i = 0) : foeRise f i = befB (f.getD (i - 1) z105).f0 (f.getD (i - 1) z105).f1 (f.getD i z105).f0 (f.getD i z105).f1 := by unfold foeRise; rw [decide_eq_false h]; rfl
def foeAt (s : List ByteArray) (f : List S105) (i : Nat) : Bool :=
  Op.bytesLess (f.getD i z105).f0.toList (f.getD i z105).f1.toList && (hasB s (f.getD i z105).f0 && (hasB s (f.getD i z105).f1 && foeRise f i))
def stuffsB (s : List ByteArray) (f : List S105) : Bool := (decide (s.length ≤ 8) && decide (f.length ≤ 12)) && (namesB s && fromB (foeAt s f) f.length 0)
theorem pre64 {i : Nat} (h : ¬ i = 0) (hi : i ≤ 9223372036854775807) : wrap64 ((i : Int) - 1) = ((i - 1 : Nat) : Int) := by unfold wrap64; omega
theorem l2Before_is (a0 a1 b0 b1 : ByteArray) : spec_l2Before.f a0 a1 b0 b1 = some (befB a0 a1 b0 b1) := by
  unfold spec_l2Before.f befB
  by_cases c : Op.bytesLess a0.toList b0.toList = true
  · rw [if_pos c, c]; rfl
  · rw [if_neg c, Bool.eq_false_iff.2 c]
    by_cases e : a0.toList = b0.toList
    · rw [if_pos e, decide_eq_true e]; rfl
    · rw [if_neg e, decide_eq_false e]; rfl
theorem l2Stuffs_ev (s : List ByteArray) (f : List S105) (p : List S86) (v : List S108) (hs : s.length ≤ 140737488351232) (hf : f.length ≤ 140737488351232) :
    Ev (fun k => spec_l2StuffsOk.f k s f p v) (stuffsB s f) := by
  have L1 : Ev (fun k => spec_l2StuffsOk.l1 k 0 s f p v) (fromB (foeAt s f) f.length 0) := by
    refine down (P := fun i => Ev (fun k => spec_l2StuffsOk.l1 k (i : Int) s f p v) (fromB (foeAt s f) f.length i)) f.length
      (by
        refine Ev.step (fun k => by rw [spec_l2StuffsOk.l1]) (ev_neg (by omega) (ev_ret ?_))
        rw [fromB_end])
      (fun i hi ih => ?_) 0 (Nat.zero_le _)
    refine Ev.step (fun k => by rw [spec_l2StuffsOk.l1]) (ev_pos (by omega) (ev_pos (by omega) ?_))
    rw [fromB_step _ _ _ hi, rd_impl_PlantFoe]
    generalize (fromB (foeAt s f) f.length (i + 1)) = R at ih ⊢
    have j4 : ∀ b : Bool, foeAt s f i = !b → Ev (fun k => spec_l2StuffsOk.j4 k (i : Int) b s f p v) (foeAt s f i && R) := fun b hb => by
      refine Ev.step (fun k => by rw [spec_l2StuffsOk.j4]) ?_
      rw [wsucc hi (by omega), hb]
      cases b
      · exact ev_neg (by simp) ih
      · exact ev_pos rfl (ev_ret rfl)
    have hF : foeAt s f i = (Op.bytesLess (f.getD i z105).f0.toList (f.getD i z105).f1.toList && (hasB s (f.getD i z105).f0 && (hasB s (f.getD i z105).f1 && foeRise f i))) := rfl
    refine ev_split (fun c1 => ?_) (fun c1 => j4 true (by rw [hF, Bool.eq_false_iff.2 c1]; rfl))
    refine Ev.bind (l2Has_ev s _ hs) (ev_split (fun c2 => ?_) (fun c2 => j4 true (by rw [hF, Bool.eq_false_iff.2 c2, Bool.false_and, Bool.and_false]; rfl)))
    refine Ev.bind (l2Has_ev s _ hs) (ev_split (fun c3 => ?_) (fun c3 => j4 true (by rw [hF, Bool.eq_false_iff.2 c3, Bool.false_and, Bool.and_false, Bool.and_false]; rfl)))
    by_cases z : i = 0
    · exact ev_neg (by omega) (j4 false (by rw [hF, c1, c2, c3, z]; rfl))
    · refine ev_pos (by omega) ?_
      rw [pre64 z (by omega), rd_impl_PlantFoe]
      refine ev_pos (by omega) (ev_pos (by omega) (ev_let (l2Before_is _ _ _ _) (j4 _ ?_)))
      rw [hF, c1, c2, c3, foeRise_pos z, Bool.not_not]; rfl
  have L0 : Ev (fun k => spec_l2StuffsOk.l0 k 0 s f p v) (namesB s && fromB (foeAt s f) f.length 0) := by
    generalize fromB (foeAt s f) f.length 0 = T at L1
    unfold namesB
    rw [← fromB_and]
    refine down (P := fun i => Ev (fun k => spec_l2StuffsOk.l0 k (i : Int) s f p v) (fromB (fun i => nameAt s i && riseAt s i) s.length i && T)) s.length
      (by
        refine Ev.step (fun k => by rw [spec_l2StuffsOk.l0]) (ev_neg (by omega) (ev_eq L1 ?_))
        rw [fromB_end]; rfl)
      (fun i hi ih => ?_) 0 (Nat.zero_le _)
    refine Ev.step (fun k => by rw [spec_l2StuffsOk.l0]) (ev_pos (by omega) (ev_pos (by omega) ?_))
    rw [fromB_step _ _ _ hi, rdOf_nat, Bool.and_assoc]
    generalize (fromB (fun i => nameAt s i && riseAt s i) s.length (i + 1) && T) = R at ih ⊢
    have j2 : ∀ b : Bool, (nameAt s i && riseAt s i) = !b → Ev (fun k => spec_l2StuffsOk.j2 k (i : Int) b s f p v) ((nameAt s i && riseAt s i) && R) := fun b hb => by
      refine Ev.step (fun k => by rw [spec_l2StuffsOk.j2]) ?_
      rw [wsucc hi (by omega), hb]
      cases b
      · exact ev_neg (by simp) ih
      · exact ev_pos rfl (ev_ret rfl)
    refine Ev.bind (l2NameOk_ev _) (ev_split (fun c => ?_) (fun c => j2 true (by rw [show nameAt s i = false from Bool.eq_false_iff.2 c]; rfl)))
    have hn : nameAt s i = true := c
    by_cases z : i = 0
    · exact ev_neg (by omega) (j2 false (by rw [hn, z]; rfl))
    · refine ev_pos (by omega) ?_
      rw [pre64 z (by omega), rdOf_nat]
      refine ev_pos (by omega) (ev_pos (by omega) (j2 _ ?_))
      rw [hn, Bool.not_not]; unfold riseAt; rw [decide_eq_false z]; rfl
  have j0 : ∀ b : Bool, Ev (fun k => spec_l2StuffsOk.j0 k b s f p v) (!b && (namesB s && fromB (foeAt s f) f.length 0)) := fun b => by
    refine Ev.step (fun k => by rw [spec_l2StuffsOk.j0]) ?_
    cases b
    · exact ev_neg (by simp) L0
    · exact ev_pos rfl (ev_ret rfl)
  unfold spec_l2StuffsOk.f stuffsB
  refine ev_split (fun c => ev_eq (j0 true) ?_) (fun c => ev_eq (j0 _) ?_)
  · rw [decide_eq_false (by omega : ¬ s.length ≤ 8)]; rfl
  · rw [decide_eq_true (by omega : s.length ≤ 8), Bool.true_and, ← decide_not, show decide (¬ ((f.length : Int) > 12)) = decide (f.length ≤ 12) from decide_eq_decide.2 (by omega)]
def placeRise (p : List S86) (i : Nat) : Bool := decide (i = 0) || Op.bytesLess (p.getD (i - 1) z86).f0.toList (p.getD i z86).f0.toList
theorem placeRise_pos {p : List S86} {i : Nat} (h : ¬ i = 0) : placeRise p i = Op.bytesLess (p.getD (i - 1) z86).f0.toList (p.getD i z86).f0.toList := by unfold placeRise; rw [decide_eq_false h]; rfl
def placeAt (p : List S86) (i : Nat) : Bool :=
  nameB (p.getD i z86).f0 && (placeRise p i && (decide (0 ≤ (p.getD i z86).f1 ∧ (p.getD i z86).f1 ≤ 1000) && nameB (p.getD i z86).f2))
def placesB (p : List S86) : Bool := decide (p.length ≤ 14) && fromB (placeAt p) p.length 0
theorem l2Places_ev (s : List ByteArray) (f : List S105) (p : List S86) (v : List S108) (hp : p.length ≤ 140737488351232) :
    Ev (fun k => spec_l2PlacesOk.f k s f p v) (placesB p) := by
  unfold spec_l2PlacesOk.f placesB
  refine ev_split (fun c => ev_ret (by rw [decide_eq_false (by omega : ¬ p.length ≤ 14)]; rfl)) (fun c => ?_)
  rw [decide_eq_true (by omega : p.length ≤ 14), Bool.true_and]
  refine down (P := fun i => Ev (fun k => spec_l2PlacesOk.l0 k (i : Int) s f p v) (fromB (placeAt p) p.length i)) p.length
    (by
      refine Ev.step (fun k => by rw [spec_l2PlacesOk.l0]) (ev_neg (by omega) (ev_ret ?_))
      rw [fromB_end])
    (fun i hi ih => ?_) 0 (Nat.zero_le _)
  refine Ev.step (fun k => by rw [spec_l2PlacesOk.l0]) (ev_pos (by omega) (ev_pos (by omega) ?_))
  rw [fromB_step _ _ _ hi, rd_impl_PlantPlace]
  generalize (fromB (placeAt p) p.length (i + 1)) = R at ih ⊢
  have j1 : ∀ b : Bool, placeAt p i = !b → Ev (fun k => spec_l2PlacesOk.j1 k (i : Int) b s f p v) (placeAt p i && R) := fun b hb => by
    refine Ev.step (fun k => by rw [spec_l2PlacesOk.j1]) ?_
    rw [wsucc hi (by omega), hb]
    cases b
    · exact ev_neg (by simp) ih
    · exact ev_pos rfl (ev_ret rfl)
  have hF : placeAt p i = (nameB (p.getD i z86).f0 && (placeRise p i && (decide (0 ≤ (p.getD i z86).f1 ∧ (p.getD i z86).f1 ≤ 1000) && nameB (p.getD i z86).f2))) := rfl
  have rest : nameB (p.getD i z86).f0 = true → placeRise p i = true → Ev (fun k => (spec_l1In.f ((p.getD i z86).f1) 0 1000).bind fun t136 => (if t136 = true then ((spec_l2NameOk.f k ((p.getD i z86).f2)).bind fun t137 => (spec_l2PlacesOk.j1 k (i : Int) (!t137) s f p v)) else (spec_l2PlacesOk.j1 k (i : Int) true s f p v))) (placeAt p i && R) := fun c1 c2 => by
    refine ev_let (l2In_is _ _ _) (ev_split (fun c3 => ?_) (fun c3 => j1 true (by rw [hF, c1, c2, Bool.eq_false_iff.2 c3]; rfl)))
    refine Ev.bind (l2NameOk_ev _) (j1 _ ?_)
    rw [hF, c1, c2, c3, Bool.not_not]; rfl
  refine Ev.bind (l2NameOk_ev _) (ev_split (fun c1 => ?_) (fun c1 => j1 true (by rw [hF, Bool.eq_false_iff.2 c1]; rfl)))
  by_cases z : i = 0
  · exact ev_neg (by omega) (rest c1 (by rw [z]; rfl))
  · refine ev_pos (by omega) ?_
    rw [pre64 z (by omega), rd_impl_PlantPlace]
    refine ev_pos (by omega) (ev_pos (by omega) (ev_split (fun c2 => rest c1 (by rw [placeRise_pos z, c2])) (fun c2 => j1 true ?_)))
    rw [hF, placeRise_pos z, Bool.eq_false_iff.2 c2, Bool.false_and, Bool.and_false]; rfl
def placeHas (p : List S86) (x : ByteArray) : Bool := !fromB (fun i => !decide ((p.getD i z86).f0.toList = x.toList)) p.length 0
def valveRise (v : List S108) (i : Nat) : Bool := decide (i = 0) || Op.bytesLess (v.getD (i - 1) z108).f0.toList (v.getD i z108).f0.toList
theorem valveRise_pos {p : List S108} {i : Nat} (h : ¬ i = 0) : valveRise p i = Op.bytesLess (p.getD (i - 1) z108).f0.toList (p.getD i z108).f0.toList := by unfold valveRise; rw [decide_eq_false h]; rfl
def valveAt (p : List S86) (v : List S108) (i : Nat) : Bool :=
  nameB (v.getD i z108).f0 && (valveRise v i && (Op.bytesLess (v.getD i z108).f1.toList (v.getD i z108).f2.toList && (placeHas p (v.getD i z108).f1 && (placeHas p (v.getD i z108).f2 && nameB (v.getD i z108).f3))))
def valvesB (p : List S86) (v : List S108) : Bool := decide (v.length ≤ 18) && fromB (valveAt p v) v.length 0
theorem l2Place_ev (s : List ByteArray) (f : List S105) (p : List S86) (v : List S108) (x : ByteArray) (hp : p.length ≤ 140737488351232) :
    ∃ q : Int, (decide (q < 0) = !placeHas p x) ∧ Ev (fun k => spec_l2Place.f k s f p v x) q := by
  unfold spec_l2Place.f placeHas
  rw [Bool.not_not]
  refine down (P := fun i => ∃ q : Int, (decide (q < 0) = fromB (fun i => !decide ((p.getD i z86).f0.toList = x.toList)) p.length i) ∧ Ev (fun k => spec_l2Place.l0 k x (i : Int) s f p v) q) p.length
    ⟨-1, by rw [fromB_end]; rfl, by
      refine Ev.step (fun k => by rw [spec_l2Place.l0]) ?_
      exact ev_neg (by omega) (ev_ret rfl)⟩
    (fun i hi ih => ?_) 0 (Nat.zero_le _)
  obtain ⟨q, hq, he⟩ := ih
  rw [fromB_step _ _ _ hi]
  by_cases c : (p.getD i z86).f0.toList = x.toList
  · refine ⟨(i : Int), by rw [decide_eq_true c, decide_eq_false (by omega)]; rfl, Ev.step (fun k => by rw [spec_l2Place.l0]) ?_⟩
    rw [rd_impl_PlantPlace]
    exact ev_pos (by omega) (ev_pos (by omega) (ev_pos c (ev_ret rfl)))
  · refine ⟨q, by rw [decide_eq_false c, hq]; rfl, Ev.step (fun k => by rw [spec_l2Place.l0]) ?_⟩
    rw [rd_impl_PlantPlace, wsucc hi (by omega)]
    exact ev_pos (by omega) (ev_pos (by omega) (ev_neg c he))
theorem l2Valves_ev (s : List ByteArray) (f : List S105) (p : List S86) (v : List S108) (hp : p.length ≤ 140737488351232) (hv : v.length ≤ 140737488351232) :
    Ev (fun k => spec_l2ValvesOk.f k s f p v) (valvesB p v) := by
  unfold spec_l2ValvesOk.f valvesB
  refine ev_split (fun c => ev_ret (by rw [decide_eq_false (by omega : ¬ v.length ≤ 18)]; rfl)) (fun c => ?_)
  rw [decide_eq_true (by omega : v.length ≤ 18), Bool.true_and]
  refine down (P := fun i => Ev (fun k => spec_l2ValvesOk.l0 k (i : Int) s f p v) (fromB (valveAt p v) v.length i)) v.length
    (by
      refine Ev.step (fun k => by rw [spec_l2ValvesOk.l0]) (ev_neg (by omega) (ev_ret ?_))
      rw [fromB_end])
    (fun i hi ih => ?_) 0 (Nat.zero_le _)
  refine Ev.step (fun k => by rw [spec_l2ValvesOk.l0]) (ev_pos (by omega) (ev_pos (by omega) ?_))
  rw [fromB_step _ _ _ hi, rd_impl_PlantValve]
  generalize (fromB (valveAt p v) v.length (i + 1)) = R at ih ⊢
  have j1 : ∀ b : Bool, valveAt p v i = !b → Ev (fun k => spec_l2ValvesOk.j1 k (i : Int) b s f p v) (valveAt p v i && R) := fun b hb => by
    refine Ev.step (fun k => by rw [spec_l2ValvesOk.j1]) ?_
    rw [wsucc hi (by omega), hb]
    cases b
    · exact ev_neg (by simp) ih
    · exact ev_pos rfl (ev_ret rfl)
  have hF : valveAt p v i = (nameB (v.getD i z108).f0 && (valveRise v i && (Op.bytesLess (v.getD i z108).f1.toList (v.getD i z108).f2.toList && (placeHas p (v.getD i z108).f1 && (placeHas p (v.getD i z108).f2 && nameB (v.getD i z108).f3))))) := rfl
  obtain ⟨q1, hq1, e1⟩ := l2Place_ev s f p v (v.getD i z108).f1 hp
  obtain ⟨q2, hq2, e2⟩ := l2Place_ev s f p v (v.getD i z108).f2 hp
  have n0 := l2NameOk_ev (v.getD i z108).f0
  have n3 := l2NameOk_ev (v.getD i z108).f3
  have hr : (i = 0 ∧ valveRise v i = true) ∨ (¬ i = 0 ∧ valveRise v i = Op.bytesLess (v.getD (i - 1) z108).f0.toList (v.getD i z108).f0.toList) := by
    by_cases z : i = 0
    · exact .inl ⟨z, by rw [z]; rfl⟩
    · exact .inr ⟨z, valveRise_pos z⟩
  generalize nameB (v.getD i z108).f0 = b0 at hF n0
  generalize nameB (v.getD i z108).f3 = b3 at hF n3
  generalize placeHas p (v.getD i z108).f1 = p1 at hF hq1
  generalize placeHas p (v.getD i z108).f2 = p2 at hF hq2
  have g1 : (q1 < 0) ↔ p1 = false := by cases p1 <;> simpa using hq1
  have g2 : (q2 < 0) ↔ p2 = false := by cases p2 <;> simpa using hq2
  clear hq1 hq2 ih
  generalize valveRise v i = br at hF hr
  refine Ev.bind n0 ?_
  clear n0
  rcases hr with ⟨z, hr⟩ | ⟨z, hr⟩
  · subst z
    refine ev_split (fun c1 => ev_neg (by omega) ?_) (fun c1 => j1 true (by rw [hF, Bool.eq_false_iff.2 c1]; rfl))
    refine ev_split (fun c2 => Ev.bind e1 (ev_split (fun c3 => j1 true ?_) (fun c3 => Ev.bind e2 (ev_split (fun c4 => j1 true ?_) (fun c4 => Ev.bind n3 (j1 _ ?_)))))) (fun c2 => j1 true ?_)
    all_goals (clear j1 e1 e2 n3; simp_all)
  · refine ev_split (fun c1 => ev_pos (by omega) ?_) (fun c1 => j1 true (by rw [hF, Bool.eq_false_iff.2 c1]; rfl))
    rw [pre64 z (by omega), rd_impl_PlantValve]
    refine ev_pos (by omega) (ev_pos (by omega) (ev_split (fun c0 => ?_) (fun c0 => j1 true (by rw [hF, hr, Bool.eq_false_iff.2 c0]; simp))))
    rw [c0] at hr
    refine ev_split (fun c2 => Ev.bind e1 (ev_split (fun c3 => j1 true ?_) (fun c3 => Ev.bind e2 (ev_split (fun c4 => j1 true ?_) (fun c4 => Ev.bind n3 (j1 _ ?_)))))) (fun c2 => j1 true ?_)
    all_goals (clear j1 e1 e2 n3; simp_all)
def validB (s : List ByteArray) (f : List S105) (p : List S86) (v : List S108) : Bool := stuffsB s f && (placesB p && valvesB p v)
theorem specValid_ev (s : List ByteArray) (f : List S105) (p : List S86) (v : List S108) (hs : s.length ≤ 140737488351232) (hf : f.length ≤ 140737488351232) (hp : p.length ≤ 140737488351232) (hv : v.length ≤ 140737488351232) :
    Ev (fun k => spec_PlantValid.f k s f p v) (validB s f p v) := by
  unfold spec_PlantValid.f validB
  refine Ev.bind (l2Stuffs_ev s f p v hs hf) (ev_split (fun c => ?_) (fun c => ev_ret (by rw [Bool.eq_false_iff.2 c]; rfl)))
  refine Ev.bind (l2Places_ev s f p v hp) (ev_split (fun d => ?_) (fun d => ev_ret (by rw [Bool.eq_false_iff.2 d, Bool.false_and, Bool.and_false])))
  refine Ev.bind (l2Valves_ev s f p v hp hv) (ev_ret ?_)
  rw [c, d]; rfl
/-! ### plants: the program's side -/
def pairRise (f : List S150) (i : Nat) : Bool := decide (i = 0) || befB (f.getD (i - 1) z150).f0 (f.getD (i - 1) z150).f1 (f.getD i z150).f0 (f.getD i z150).f1
theorem pairRise_pos {f : List S150} {i : Nat} (h : ¬ i = 0) : pairRise f i = befB (f.getD (i - 1) z150).f0 (f.getD (i - 1) z150).f1 (f.getD i z150).f0 (f.getD i z150).f1 := by unfold pairRise; rw [decide_eq_false h]; rfl
def pairAt (f : List S150) (i : Nat) : Bool :=
  (nameB (f.getD i z150).f0 && (nameB (f.getD i z150).f1 && Op.bytesLess (f.getD i z150).f0.toList (f.getD i z150).f1.toList)) && pairRise f i
theorem rd_pair (xs : List S150) (i : Nat) : rd_T150 xs (i : Int) = xs.getD i z150 := by simp [rd_T150]
def szP (l : List S150) : Prop := l.length ≤ 140737488351232 ∧ ∀ x ∈ l, x.f0.size ≤ 140737488351232 ∧ x.f1.size ≤ 140737488351232
theorem foesOk_ev (l : List S150) (most : Int) (h : szP l) : Ev (fun k => impl_foesOk.f k l most) (fromB (pairAt l) l.length 0 && decide ((l.length : Int) ≤ most)) := by
  have hn := h.1
  unfold impl_foesOk.f
  refine down (P := fun i => Ev (fun k => impl_foesOk.l0 k l most l (l.length : Int) (i : Int)) (fromB (pairAt l) l.length i && decide ((l.length : Int) ≤ most))) l.length
    (by
      refine Ev.step (fun k => by rw [impl_foesOk.l0]) (ev_neg (by omega) (ev_ret ?_))
      rw [fromB_end]; rfl)
    (fun i hi ih => ?_) 0 (Nat.zero_le _)
  refine Ev.step (fun k => by rw [impl_foesOk.l0]) (ev_pos (by omega) (ev_pos (by omega) (ev_pos (by omega) ?_)))
  rw [fromB_step _ _ _ hi, rd_pair, Bool.and_assoc]
  generalize (fromB (pairAt l) l.length (i + 1) && decide ((l.length : Int) ≤ most)) = R at ih ⊢
  have j2 : ∀ b : Bool, pairAt l i = !b → Ev (fun k => impl_foesOk.j2 k l most l (l.length : Int) (i : Int) b) (pairAt l i && R) := fun b hb => by
    refine Ev.step (fun k => by rw [impl_foesOk.j2]) ?_
    rw [wsucc hi (by omega), hb]
    cases b
    · exact ev_neg (by simp) ih
    · exact ev_pos rfl (ev_ret rfl)
  have hF : pairAt l i = ((nameB (l.getD i z150).f0 && (nameB (l.getD i z150).f1 && Op.bytesLess (l.getD i z150).f0.toList (l.getD i z150).f1.toList)) && pairRise l i) := rfl
  have j1 : ∀ b : Bool, (nameB (l.getD i z150).f0 && (nameB (l.getD i z150).f1 && Op.bytesLess (l.getD i z150).f0.toList (l.getD i z150).f1.toList)) = !b →
      Ev (fun k => impl_foesOk.j1 k l most (i : Int) l (l.length : Int) (i : Int) b (l.getD i z150).f0 (l.getD i z150).f1) (pairAt l i && R) := fun b hb => by
    refine Ev.step (fun k => by rw [impl_foesOk.j1]) ?_
    rw [hb] at hF
    cases b
    case true => rw [hF]; exact ev_pos rfl (ev_ret rfl)
    refine ev_neg (by simp) ?_
    have hF2 : pairAt l i = pairRise l i := by rw [hF]; rfl
    by_cases z : i = 0
    · exact ev_neg (by omega) (j2 false (by rw [hF2, z]; rfl))
    · refine ev_pos (by omega) ?_
      rw [pre64 z (by omega), rd_pair]
      rw [pairRise_pos z, ← befB_not] at hF2
      refine ev_pos (by omega) (ev_pos (by omega) (ev_split (fun c => j2 true ?_) (fun c => ev_split (fun d => j2 _ ?_) (fun d => j2 false ?_))))
      · rw [hF2, c]; rfl
      · rw [hF2, Bool.eq_false_iff.2 c, decide_eq_true d]; rfl
      · rw [hF2, Bool.eq_false_iff.2 c, decide_eq_false d]; rfl
  have hm := h.2 _ (mem_getD z150 l i hi)
  refine Ev.bind (isName_ev _ hm.1) (ev_split (fun c => ?_) (fun c => j1 true (by rw [Bool.eq_false_iff.2 c]; rfl)))
  refine Ev.bind (isName_ev _ hm.2) (ev_split (fun d => j1 _ ?_) (fun d => j1 true (by rw [Bool.eq_false_iff.2 d, Bool.false_and, Bool.and_false]; rfl)))
  rw [c, d, Bool.not_not]; rfl
def mkPair (x : S105) : S150 := ⟨x.f0, x.f1⟩
theorem take_snoc {α : Type} (d : α) (l : List α) (i : Nat) (h : i < l.length) : l.take (i + 1) = l.take i ++ [l.getD i d] := by
  rw [List.take_succ_eq_append_getElem h, getD_eq d l i h]
theorem pairs_ev (s : List ByteArray) (f : List S105) (p : List S86) (v : List S108) (hf : f.length ≤ 4398046511104) : Ev (fun k => impl_Plant_pairs.f k s f p v) (f.map mkPair) := by
  unfold impl_Plant_pairs.f
  have key := down (P := fun i => Ev (fun k => impl_Plant_pairs.l0 k ((f.take i).map mkPair) f (f.length : Int) (i : Int)) (f.map mkPair)) f.length
    (by
      refine Ev.step (fun k => by rw [impl_Plant_pairs.l0]) (ev_neg (by omega) (ev_ret ?_))
      rw [List.take_length])
    (fun i hi ih => by
      refine Ev.step (fun k => by rw [impl_Plant_pairs.l0]) (ev_pos (by omega) (ev_pos (by omega) (ev_pos (by omega) (ev_pos (by simp; omega) ?_))))
      rw [take_snoc z105 f i hi, List.map_append] at ih
      rw [wsucc hi (by omega), rd_impl_PlantFoe]
      exact ih) 0 (Nat.zero_le _)
  exact key
theorem place_ev (s : List ByteArray) (f : List S105) (p : List S86) (v : List S108) (x : ByteArray) (hp : p.length ≤ 140737488351232) :
    ∃ q : ByteArray × Int × ByteArray × Bool, q.2.2.2 = placeHas p x ∧ Ev (fun k => impl_Plant_place.f k s f p v x) q := by
  unfold impl_Plant_place.f placeHas
  refine down (P := fun i => ∃ q : ByteArray × Int × ByteArray × Bool, (q.2.2.2 = !fromB (fun i => !decide ((p.getD i z86).f0.toList = x.toList)) p.length i) ∧ Ev (fun k => impl_Plant_place.l0 k x p (p.length : Int) (i : Int)) q) p.length
    ⟨((⟨#[]⟩ : ByteArray), 0, (⟨#[]⟩ : ByteArray), false), by rw [fromB_end]; rfl, by
      refine Ev.step (fun k => by rw [impl_Plant_place.l0]) ?_
      exact ev_neg (by omega) (ev_ret rfl)⟩
    (fun i hi ih => ?_) 0 (Nat.zero_le _)
  obtain ⟨q, hq, he⟩ := ih
  rw [fromB_step _ _ _ hi]
  by_cases c : (p.getD i z86).f0.toList = x.toList
  · refine ⟨((p.getD i z86).f0, (p.getD i z86).f1, (p.getD i z86).f2, true), by rw [decide_eq_true c]; rfl, Ev.step (fun k => by rw [impl_Plant_place.l0]) ?_⟩
    rw [rd_impl_PlantPlace]
    exact ev_pos (by omega) (ev_pos (by omega) (ev_pos (by omega) (ev_pos c (ev_ret rfl))))
  · refine ⟨q, by rw [decide_eq_false c, hq]; rfl, Ev.step (fun k => by rw [impl_Plant_place.l0]) ?_⟩
    rw [rd_impl_PlantPlace, wsucc hi (by omega)]
    exact ev_pos (by omega) (ev_pos (by omega) (ev_pos (by omega) (ev_neg c he)))
def hasBoth (s : List ByteArray) (f : List S105) (i : Nat) : Bool := hasB s (f.getD i z105).f0 && hasB s (f.getD i z105).f1
def szPl (p : List S86) : Prop := p.length ≤ 140737488351232 ∧ ∀ x ∈ p, x.f0.size ≤ 140737488351232 ∧ x.f2.size ≤ 140737488351232
def szV (p : List S108) : Prop := p.length ≤ 140737488351232 ∧ ∀ x ∈ p, x.f0.size ≤ 140737488351232 ∧ x.f3.size ≤ 140737488351232
def szF (f : List S105) : Prop := f.length ≤ 4398046511104 ∧ ∀ x ∈ f, x.f0.size ≤ 140737488351232 ∧ x.f1.size ≤ 140737488351232
theorem implValid2_ev (s : List ByteArray) (f : List S105) (p : List S86) (v : List S108) (hp : szPl p) (hv : szV v) :
    Ev (fun k => impl_PlantValid.l2 k v (v.length : Int) 0 s f p v) (fromB (valveAt p v) v.length 0) := by
  have hvl := hv.1
  refine down (P := fun i => Ev (fun k => impl_PlantValid.l2 k v (v.length : Int) (i : Int) s f p v) (fromB (valveAt p v) v.length i)) v.length
    (by
      refine Ev.step (fun k => by rw [impl_PlantValid.l2]) (ev_neg (by omega) (ev_ret ?_))
      rw [fromB_end])
    (fun i hi ih => ?_) 0 (Nat.zero_le _)
  refine Ev.step (fun k => by rw [impl_PlantValid.l2]) (ev_pos (by omega) (ev_pos (by omega) (ev_pos (by omega) ?_)))
  rw [fromB_step _ _ _ hi, rd_impl_PlantValve]
  generalize (fromB (valveAt p v) v.length (i + 1)) = R at ih ⊢
  have j5 : ∀ b : Bool, valveAt p v i = !b → Ev (fun k => impl_PlantValid.j5 k v (v.length : Int) (i : Int) b s f p v) (valveAt p v i && R) := fun b hb => by
    refine Ev.step (fun k => by rw [impl_PlantValid.j5]) ?_
    rw [wsucc hi (by omega), hb]
    cases b
    · exact ev_neg (by simp) ih
    · exact ev_pos rfl (ev_ret rfl)
  have hF : valveAt p v i = (nameB (v.getD i z108).f0 && (valveRise v i && (Op.bytesLess (v.getD i z108).f1.toList (v.getD i z108).f2.toList && (placeHas p (v.getD i z108).f1 && (placeHas p (v.getD i z108).f2 && nameB (v.getD i z108).f3))))) := rfl
  obtain ⟨q1, hq1, e1⟩ := place_ev s f p v (v.getD i z108).f1 hp.1
  obtain ⟨q2, hq2, e2⟩ := place_ev s f p v (v.getD i z108).f2 hp.1
  have hm := hv.2 _ (mem_getD z108 v i hi)
  have n0 := isName_ev (v.getD i z108).f0 hm.1
  have n3 := isName_ev (v.getD i z108).f3 hm.2
  refine Ev.bind e1 (Ev.bind e2 (Ev.bind n0 ?_))
  rw [hq1, hq2]
  generalize nameB (v.getD i z108).f0 = b0 at hF
  generalize nameB (v.getD i z108).f3 = b3 at hF n3
  generalize placeHas p (v.getD i z108).f1 = p1 at hF
  generalize placeHas p (v.getD i z108).f2 = p2 at hF
  clear e1 e2 n0 hq1 hq2 ih hm
  refine ev_split (fun c1 => ev_split (fun c2 => ev_split (fun c3 => ev_split (fun c4 => Ev.bind n3 (ev_split (fun c5 => ?_) (fun c5 => j5 true ?_))) (fun c4 => j5 true ?_)) (fun c3 => j5 true ?_)) (fun c2 => j5 true ?_)) (fun c1 => j5 true ?_)
  · by_cases z : i = 0
    · refine ev_neg (by omega) (j5 false ?_)
      rw [hF, c1, c2, c3, c4, c5, z]; rfl
    · refine ev_pos (by omega) ?_
      rw [pre64 z (by omega), rd_impl_PlantValve]
      refine ev_pos (by omega) (ev_pos (by omega) (j5 _ ?_))
      rw [hF, c1, c2, c3, c4, c5, valveRise_pos z]; simp
  all_goals (clear j5 n3; simp_all)
theorem implValid1_ev (s : List ByteArray) (f : List S105) (p : List S86) (v : List S108) (hp : szPl p) (hv : szV v) :
    Ev (fun k => impl_PlantValid.l1 k p (p.length : Int) 0 s f p v) (fromB (placeAt p) p.length 0 && fromB (valveAt p v) v.length 0) := by
  have hpl := hp.1
  have L2 := implValid2_ev s f p v hp hv
  generalize fromB (valveAt p v) v.length 0 = T at L2
  refine down (P := fun i => Ev (fun k => impl_PlantValid.l1 k p (p.length : Int) (i : Int) s f p v) (fromB (placeAt p) p.length i && T)) p.length
    (by
      refine Ev.step (fun k => by rw [impl_PlantValid.l1]) (ev_neg (by omega) ?_)
      rw [fromB_end]; exact L2)
    (fun i hi ih => ?_) 0 (Nat.zero_le _)
  clear L2
  refine Ev.step (fun k => by rw [impl_PlantValid.l1]) (ev_pos (by omega) (ev_pos (by omega) (ev_pos (by omega) ?_)))
  rw [fromB_step _ _ _ hi, rd_impl_PlantPlace, Bool.and_assoc]
  generalize (fromB (placeAt p) p.length (i + 1) && T) = R at ih ⊢
  have j3 : ∀ b : Bool, placeAt p i = !b → Ev (fun k => impl_PlantValid.j3 k p (p.length : Int) (i : Int) b s f p v) (placeAt p i && R) := fun b hb => by
    refine Ev.step (fun k => by rw [impl_PlantValid.j3]) ?_
    rw [wsucc hi (by omega), hb]
    cases b
    · exact ev_neg (by simp) ih
    · exact ev_pos rfl (ev_ret rfl)
  have hF : placeAt p i = (nameB (p.getD i z86).f0 && (placeRise p i && (decide (0 ≤ (p.getD i z86).f1 ∧ (p.getD i z86).f1 ≤ 1000) && nameB (p.getD i z86).f2))) := rfl
  have hm := hp.2 _ (mem_getD z86 p i hi)
  refine Ev.bind (isName_ev _ hm.1) (ev_split (fun c1 => ?_) (fun c1 => j3 true (by rw [hF, Bool.eq_false_iff.2 c1]; rfl)))
  refine ev_split (fun c2 => j3 true ?_) (fun c2 => ev_split (fun c3 => j3 true ?_) (fun c3 => ?_))
  · rw [hF, decide_eq_false (fun q => by omega)]; simp
  · rw [hF, decide_eq_false (fun q => by omega)]; simp
  have hd : decide (0 ≤ (p.getD i z86).f1 ∧ (p.getD i z86).f1 ≤ 1000) = true := decide_eq_true (by omega)
  refine Ev.bind (isName_ev _ hm.2) (ev_split (fun c4 => ?_) (fun c4 => j3 true (by rw [hF, Bool.eq_false_iff.2 c4]; simp)))
  by_cases z : i = 0
  · refine ev_neg (by omega) (j3 false ?_)
    rw [hF, c1, hd, c4, z]; rfl
  · refine ev_pos (by omega) ?_
    rw [pre64 z (by omega), rd_impl_PlantPlace]
    refine ev_pos (by omega) (ev_pos (by omega) (j3 _ ?_))
    rw [hF, c1, hd, c4, placeRise_pos z]; simp
theorem implValid0_ev (s : List ByteArray) (f : List S105) (p : List S86) (v : List S108) (hs : s.length ≤ 140737488351232) (hf : szF f) (hp : szPl p) (hv : szV v) :
    Ev (fun k => impl_PlantValid.l0 k f (f.length : Int) 0 s f p v) (fromB (hasBoth s f) f.length 0 && (fromB (placeAt p) p.length 0 && fromB (valveAt p v) v.length 0)) := by
  have hfl := hf.1
  have L1 := implValid1_ev s f p v hp hv
  generalize (fromB (placeAt p) p.length 0 && fromB (valveAt p v) v.length 0) = T at L1
  refine down (P := fun i => Ev (fun k => impl_PlantValid.l0 k f (f.length : Int) (i : Int) s f p v) (fromB (hasBoth s f) f.length i && T)) f.length
    (by
      refine Ev.step (fun k => by rw [impl_PlantValid.l0]) (ev_neg (by omega) ?_)
      rw [fromB_end]; exact L1)
    (fun i hi ih => ?_) 0 (Nat.zero_le _)
  clear L1
  refine Ev.step (fun k => by rw [impl_PlantValid.l0]) (ev_pos (by omega) (ev_pos (by omega) (ev_pos (by omega) ?_)))
  rw [fromB_step _ _ _ hi, rd_impl_PlantFoe, Bool.and_assoc, wsucc hi (by omega)]
  generalize (fromB (hasBoth s f) f.length (i + 1) && T) = R at ih ⊢
  unfold hasBoth
  refine Ev.bind (has_ev s _ hs) (ev_split (fun c => ?_) (fun c => ev_ret (by rw [Bool.eq_false_iff.2 c]; rfl)))
  refine Ev.bind (has_ev s _ hs) (ev_split (fun d => ?_) (fun d => ev_ret (by rw [Bool.eq_false_iff.2 d, Bool.and_false]; rfl)))
  rw [c, d]; exact ih
theorem hasB_mem {s : List ByteArray} {x : ByteArray} (h : hasB s x = true) : ∃ i, i < s.length ∧ s.getD i ByteArray.empty = x := by
  unfold hasB at h
  rw [Bool.not_eq_true', ← Bool.not_eq_true] at h
  rw [fromB_true] at h
  obtain ⟨i, hi⟩ := Classical.not_forall.1 h
  obtain ⟨h1, h2⟩ := Classical.not_imp.1 hi
  refine ⟨i, h1, ba_ext ?_⟩
  simpa using h2
theorem hasB_name {s : List ByteArray} {x : ByteArray} (hn : namesB s = true) (h : hasB s x = true) : nameB x = true := by
  obtain ⟨i, hi, rfl⟩ := hasB_mem h
  unfold namesB at hn
  exact fromB_true.1 (Bool.and_eq_true _ _ ▸ hn).1 i hi
theorem foes_same (s : List ByteArray) (f : List S105) (hn : namesB s = true) :
    (fromB (pairAt (f.map mkPair)) (f.map mkPair).length 0 && fromB (hasBoth s f) f.length 0) = fromB (foeAt s f) f.length 0 := by
  rw [List.length_map, ← fromB_and]
  have e : ∀ i, i < f.length → (pairAt (f.map mkPair) i && hasBoth s f i) = foeAt s f i := fun i hi => by
    have g0 := map_getD z150 z105 mkPair f i hi
    have gr : pairRise (f.map mkPair) i = foeRise f i := by
      unfold pairRise foeRise
      rw [g0, map_getD z150 z105 mkPair f (i - 1) (by omega)]; rfl
    unfold pairAt hasBoth foeAt
    rw [gr, g0]
    have k0 : (mkPair (f.getD i z105)).f0 = (f.getD i z105).f0 := rfl
    have k1 : (mkPair (f.getD i z105)).f1 = (f.getD i z105).f1 := rfl
    rw [k0, k1]
    have m0 := @hasB_name s (f.getD i z105).f0 hn
    have m1 := @hasB_name s (f.getD i z105).f1 hn
    generalize nameB (f.getD i z105).f0 = a0 at m0 ⊢
    generalize nameB (f.getD i z105).f1 = a1 at m1 ⊢
    generalize hasB s (f.getD i z105).f0 = h0 at m0 ⊢
    generalize hasB s (f.getD i z105).f1 = h1 at m1 ⊢
    generalize Op.bytesLess _ _ = l
    generalize foeRise f i = r
    clear g0 gr k0 k1 hi
    revert a0 a1 h0 h1 l r
    decide
  rw [Bool.eq_iff_iff, fromB_true, fromB_true]
  exact ⟨fun h j hj => (e j hj).symm.trans (h j hj), fun h j hj => (e j hj).trans (h j hj)⟩
theorem implValid_ev (s : List ByteArray) (f : List S105) (p : List S86) (v : List S108) (hs : szS s) (hf : szF f) (hp : szPl p) (hv : szV v) :
    Ev (fun k => impl_PlantValid.f k s f p v) (validB s f p v) := by
  have hfl := hf.1
  have hpl := hp.1
  have hvl := hv.1
  have hsl := hs.1
  have j0 : ∀ b : Bool, Ev (fun k => impl_PlantValid.j0 k b s f p v) (!b && (fromB (hasBoth s f) f.length 0 && (fromB (placeAt p) p.length 0 && fromB (valveAt p v) v.length 0))) := fun b => by
    refine Ev.step (fun k => by rw [impl_PlantValid.j0]) ?_
    cases b
    · exact ev_neg (by simp) (implValid0_ev s f p v hsl hf hp hv)
    · exact ev_pos rfl (ev_ret rfl)
  have hP : szP (f.map mkPair) := ⟨by rw [List.length_map]; omega, fun x hx => by
    obtain ⟨y, hy, rfl⟩ := List.mem_map.1 hx
    exact hf.2 y hy⟩
  have eF := foesOk_ev (f.map mkPair) 12 hP
  have eN := names_ev s hs
  have same : namesB s = true → (fromB (pairAt (f.map mkPair)) (f.map mkPair).length 0 && fromB (hasBoth s f) f.length 0) = fromB (foeAt s f) f.length 0 := foes_same s f
  have dl : decide (((f.map mkPair).length : Int) ≤ 12) = decide (f.length ≤ 12) := by rw [List.length_map]; exact decide_eq_decide.2 (by omega)
  rw [dl] at eF
  clear dl
  unfold impl_PlantValid.f validB stuffsB placesB valvesB
  generalize fromB (pairAt (f.map mkPair)) (f.map mkPair).length 0 = b1 at eF same
  generalize fromB (hasBoth s f) f.length 0 = b2 at j0 same
  generalize fromB (foeAt s f) f.length 0 = b3 at same ⊢
  generalize fromB (placeAt p) p.length 0 = b4 at j0 ⊢
  generalize fromB (valveAt p v) v.length 0 = b5 at j0 ⊢
  generalize namesB s = b6 at eN same ⊢
  generalize decide (f.length ≤ 12) = b7 at eF ⊢
  refine ev_split (fun c => ev_eq (j0 true) ?_) (fun c => ?_)
  · rw [decide_eq_false (by omega : ¬ s.length ≤ 8)]; rfl
  rw [decide_eq_true (by omega : s.length ≤ 8)]
  refine Ev.bind eN (ev_split (fun c6 => ?_) (fun c6 => ev_eq (j0 true) (by rw [Bool.eq_false_iff.2 c6]; simp)))
  subst c6
  have same := same rfl
  subst same
  refine Ev.bind (pairs_ev s f p v hfl) (Ev.bind eF (ev_split (fun c7 => ?_) (fun c7 => ev_eq (j0 true) ?_)))
  · rw [Bool.and_eq_true] at c7
    obtain ⟨rfl, rfl⟩ := c7
    refine ev_split (fun d => ev_eq (j0 true) ?_) (fun d => ev_eq (j0 _) ?_)
    · rw [decide_eq_false (by omega : ¬ p.length ≤ 14)]; simp
    · rw [decide_eq_true (by omega : p.length ≤ 14), ← decide_not, show decide (¬ ((v.length : Int) > 18)) = decide (v.length ≤ 18) from decide_eq_decide.2 (by omega)]
      generalize decide (v.length ≤ 18) = b8
      clear j0 eF eN
      revert b2 b4 b5 b8
      decide
  · clear j0 eF eN
    generalize decide (p.length ≤ 14) = b8
    generalize decide (v.length ≤ 18) = b9
    revert b1 b2 b4 b5 b7 b8 b9
    decide
theorem szPlant_ev (x : S27) (hx : ok27 x) (a : Int) : ∃ q, Ev (fun k => laws_szPlant.f k x.f0 x.f1 x.f2 x.f3 a) q := by
  obtain ⟨h0, h1, h2, h3⟩ := hx
  unfold laws_szPlant.f
  obtain ⟨q1, e1⟩ := szStringS_ev x.f0 (by omega) a
  obtain ⟨q2, e2⟩ := szPlantFoeS_ev x.f1 (by omega) q1
  obtain ⟨q3, e3⟩ := szPlantPlaceS_ev x.f2 (by omega) q2
  obtain ⟨q4, e4⟩ := szPlantValveS_ev x.f3 (by omega) q3
  by_cases c1 : q1 < 0
  · exact ⟨-1, Ev.bind e1 (ev_pos c1 (ev_ret rfl))⟩
  by_cases c2 : q2 < 0
  · exact ⟨-1, Ev.bind e1 (ev_neg c1 (Ev.bind e2 (ev_pos c2 (ev_ret rfl))))⟩
  by_cases c3 : q3 < 0
  · exact ⟨-1, Ev.bind e1 (ev_neg c1 (Ev.bind e2 (ev_neg c2 (Ev.bind e3 (ev_pos c3 (ev_ret rfl))))))⟩
  by_cases c4 : q4 < 0
  · exact ⟨-1, Ev.bind e1 (ev_neg c1 (Ev.bind e2 (ev_neg c2 (Ev.bind e3 (ev_neg c3 (Ev.bind e4 (ev_pos c4 (ev_ret rfl))))))))⟩
  · exact ⟨q4, Ev.bind e1 (ev_neg c1 (Ev.bind e2 (ev_neg c2 (Ev.bind e3 (ev_neg c3 (Ev.bind e4 (ev_neg c4 (ev_ret rfl))))))))⟩
theorem toPlant_ev (x : S27) (hx : ok27 x) : Ev (fun k => laws_toPlant.f k x.f0 x.f1 x.f2 x.f3) (x.f0, x.f1.map cvPlantFoe, x.f2.map cvPlantPlace, x.f3.map cvPlantValve) := by
  obtain ⟨h0, h1, h2, h3⟩ := hx
  unfold laws_toPlant.f
  exact Ev.bind (toStringS_ev x.f0 (by omega)) (Ev.bind (toPlantFoeS_ev x.f1 (by omega)) (Ev.bind (toPlantPlaceS_ev x.f2 (by omega)) (Ev.bind (toPlantValveS_ev x.f3 (by omega)) (ev_ret rfl))))
theorem okF (x : S27) (hx : ok27 x) : szF (x.f1.map cvPlantFoe) := by
  obtain ⟨h0, h1, h2, h3⟩ := hx
  refine ⟨by simp; omega, fun y hy => ?_⟩
  obtain ⟨z, hz, rfl⟩ := List.mem_map.1 hy
  exact ⟨(h1.2 z hz).1, (h1.2 z hz).2⟩
theorem okPl (x : S27) (hx : ok27 x) : szPl (x.f2.map cvPlantPlace) := by
  obtain ⟨h0, h1, h2, h3⟩ := hx
  refine ⟨by simp; omega, fun y hy => ?_⟩
  obtain ⟨z, hz, rfl⟩ := List.mem_map.1 hy
  exact ⟨(h2.2 z hz).1, (h2.2 z hz).2.2⟩
theorem okV (x : S27) (hx : ok27 x) : szV (x.f3.map cvPlantValve) := by
  obtain ⟨h0, h1, h2, h3⟩ := hx
  refine ⟨by simp; omega, fun y hy => ?_⟩
  obtain ⟨z, hz, rfl⟩ := List.mem_map.1 hy
  exact ⟨(h3.2 z hz).1, (h3.2 z hz).2.2.2⟩
theorem okS (x : S27) (hx : ok27 x) : szS x.f0 := by
  obtain ⟨h0, h1, h2, h3⟩ := hx
  exact ⟨by omega, h0.2⟩
theorem eqPlant_ev (s : List ByteArray) (f : List S105) (p : List S86) (v : List S108) (hs : szS s) (hf : szF f) (hp : szPl p) (hv : szV v) :
    Ev (fun k => laws_eqPlant.f k s f p v s f p v) true := by
  have h1 := hf.1
  unfold laws_eqPlant.f
  exact Ev.bind (eqStringS_ev s hs.1) (ev_pos rfl (Ev.bind (eqPlantFoeS_ev f (by omega)) (ev_pos rfl (Ev.bind (eqPlantPlaceS_ev p hp.1) (ev_pos rfl (Ev.bind (eqPlantValveS_ev v hv.1) (ev_pos rfl (ev_ret rfl))))))))
/-! ### foes -/
def isFoe (a b x y : ByteArray) : Bool := (decide (x.toList = a.toList) && decide (y.toList = b.toList)) || (decide (x.toList = b.toList) && decide (y.toList = a.toList))
def foesB (f : List S105) (a b : ByteArray) : Bool := !fromB (fun i => !isFoe a b (f.getD i z105).f0 (f.getD i z105).f1) f.length 0
def foesP (l : List S150) (a b : ByteArray) : Bool := !fromB (fun i => !isFoe a b (l.getD i z150).f0 (l.getD i z150).f1) l.length 0
theorem foesP_map (f : List S105) (a b : ByteArray) : foesP (f.map mkPair) a b = foesB f a b := by
  unfold foesP foesB
  rw [List.length_map]
  congr 1
  rw [Bool.eq_iff_iff, fromB_true, fromB_true]
  have e : ∀ i, i < f.length → (f.map mkPair).getD i z150 = mkPair (f.getD i z105) := fun i hi => map_getD _ _ mkPair f i hi
  exact ⟨fun h j hj => by have := h j hj; rw [e j hj] at this; exact this, fun h j hj => by rw [e j hj]; exact h j hj⟩
theorem l2Foes_ev (s : List ByteArray) (f : List S105) (p : List S86) (v : List S108) (a b : ByteArray) (hf : f.length ≤ 4398046511104) :
    Ev (fun k => spec_l2Foes.f k s f p v a b) (foesB f a b) := by
  unfold spec_l2Foes.f foesB
  refine down (P := fun i => Ev (fun k => spec_l2Foes.l0 k a b (i : Int) s f p v) (!fromB (fun i => !isFoe a b (f.getD i z105).f0 (f.getD i z105).f1) f.length i)) f.length
    (by
      refine Ev.step (fun k => by rw [spec_l2Foes.l0]) (ev_neg (by omega) (ev_ret ?_))
      rw [fromB_end]; rfl)
    (fun i hi ih => ?_) 0 (Nat.zero_le _)
  refine Ev.step (fun k => by rw [spec_l2Foes.l0]) (ev_pos (by omega) (ev_pos (by omega) ?_))
  rw [fromB_step _ _ _ hi, rd_impl_PlantFoe, Bool.not_and, Bool.not_not]
  generalize (!fromB (fun i => !isFoe a b (f.getD i z105).f0 (f.getD i z105).f1) f.length (i + 1)) = R at ih ⊢
  generalize (f.getD i z105).f0 = x
  generalize (f.getD i z105).f1 = y
  have j1 : ∀ c : Bool, isFoe a b x y = c → Ev (fun k => spec_l2Foes.j1 k a b (i : Int) c s f p v) (isFoe a b x y || R) := fun c hc => by
    refine Ev.step (fun k => by rw [spec_l2Foes.j1]) ?_
    rw [wsucc hi (by omega), hc]
    cases c
    · exact ev_neg (by simp) ih
    · exact ev_pos rfl (ev_ret rfl)
  clear ih
  repeat' (first | (refine j1 _ ?_; clear j1; unfold isFoe; rw [Bool.eq_iff_iff]; simp_all; done) | (refine ev_split (fun _ => ?_) (fun _ => ?_)))
theorem foes_ev (l : List S150) (a b : ByteArray) (hn : l.length ≤ 4398046511104) :
    Ev (fun k => impl_foes.f k l a b) (foesP l a b) := by
  unfold impl_foes.f foesP
  refine down (P := fun i => Ev (fun k => impl_foes.l0 k a b l (l.length : Int) (i : Int)) (!fromB (fun i => !isFoe a b (l.getD i z150).f0 (l.getD i z150).f1) l.length i)) l.length
    (by
      refine Ev.step (fun k => by rw [impl_foes.l0]) (ev_neg (by omega) (ev_ret ?_))
      rw [fromB_end]; rfl)
    (fun i hi ih => ?_) 0 (Nat.zero_le _)
  refine Ev.step (fun k => by rw [impl_foes.l0]) (ev_pos (by omega) (ev_pos (by omega) (ev_pos (by omega) ?_)))
  rw [fromB_step _ _ _ hi, rd_pair, Bool.not_and, Bool.not_not]
  generalize (!fromB (fun i => !isFoe a b (l.getD i z150).f0 (l.getD i z150).f1) l.length (i + 1)) = R at ih ⊢
  generalize (l.getD i z150).f0 = x
  generalize (l.getD i z150).f1 = y
  have j1 : ∀ c : Bool, isFoe a b x y = c → Ev (fun k => impl_foes.j1 k a b l (l.length : Int) (i : Int) c) (isFoe a b x y || R) := fun c hc => by
    refine Ev.step (fun k => by rw [impl_foes.j1]) ?_
    rw [wsucc hi (by omega), hc]
    cases c
    · exact ev_neg (by simp) ih
    · exact ev_pos rfl (ev_ret rfl)
  clear ih
  repeat' (first | (refine j1 _ ?_; clear j1; unfold isFoe; rw [Bool.eq_iff_iff]; simp_all; done) | (refine ev_split (fun _ => ?_) (fun _ => ?_)))
theorem specFoes_ev (s : List ByteArray) (f : List S105) (p : List S86) (v : List S108) (a b : ByteArray) (hs : s.length ≤ 140737488351232) (hf : f.length ≤ 4398046511104) (hp : p.length ≤ 140737488351232) (hv : v.length ≤ 140737488351232) :
    Ev (fun k => spec_PlantFoes.f k s f p v a b) (validB s f p v && foesB f a b) := by
  unfold spec_PlantFoes.f
  refine Ev.bind (specValid_ev s f p v hs (by omega) hp hv) (ev_split (fun c => ?_) (fun c => ev_ret (by rw [Bool.eq_false_iff.2 c]; rfl)))
  rw [c]
  exact Ev.bind (l2Foes_ev s f p v a b hf) (ev_ret rfl)
theorem implFoes_ev (s : List ByteArray) (f : List S105) (p : List S86) (v : List S108) (a b : ByteArray) (hs : szS s) (hf : szF f) (hp : szPl p) (hv : szV v) :
    Ev (fun k => impl_PlantFoes.f k s f p v a b) (validB s f p v && foesB f a b) := by
  unfold impl_PlantFoes.f
  refine Ev.bind (implValid_ev s f p v hs hf hp hv) (ev_split (fun c => ?_) (fun c => ev_ret (by rw [Bool.eq_false_iff.2 c]; rfl)))
  rw [c]
  refine Ev.bind (pairs_ev s f p v hf.1) (Ev.bind (foes_ev _ a b (by rw [List.length_map]; exact hf.1)) (ev_ret ?_))
  rw [foesP_map]; rfl
theorem FnExactPlantFoes : ∀ (x0 : S27) (x1 : ByteArray) (x2 : ByteArray), (ok27 x0) → (x1.size ≤ 140737488351232) → (x2.size ≤ 140737488351232) → ∃ k, laws_FnExactPlantFoes.f k x0.f0 x0.f1 x0.f2 x0.f3 x1 x2 = some true := by
  intro x a b hx ha hb
  obtain ⟨q, hq⟩ := szPlant_ev x hx 1048576
  have ht := toPlant_ev x hx
  have hS := okS x hx
  have hF := okF x hx
  have hP := okPl x hx
  have hV := okV x hx
  refine Ev.rounds ?_
  unfold laws_FnExactPlantFoes.f
  refine ev_split (fun _ => ev_ret rfl) (fun _ => ev_split (fun _ => ev_ret rfl) (fun _ => ?_))
  refine Ev.bind hq (ev_split (fun _ => ev_ret rfl) (fun _ => ?_))
  exact Ev.bind ht (Ev.bind (specFoes_ev _ _ _ _ a b hS.1 hF.1 hP.1 hV.1) (Ev.bind ht (Ev.bind (implFoes_ev _ _ _ _ a b hS hF hP hV) (ev_neg (by simp) (Ev.bind ht (Ev.bind (eqPlant_ev _ _ _ _ hS hF hP hV) (ev_pos rfl (ev_ret rfl))))))))
end Go.Proofs.Ytpildfacenlceaa.Pure
