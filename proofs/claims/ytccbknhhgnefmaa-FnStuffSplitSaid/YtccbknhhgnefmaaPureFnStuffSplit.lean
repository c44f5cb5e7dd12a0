/- For all drawn amounts and numbers: what is shared out is the reference's, together just what was asked, no share is more than there is or a whole one away from what it would be, and of all it is all. No condition beyond the row's own. -/
import Derived.Test.YtccbknhhgnefmaaQFnStuffSplitx5
namespace Go.Proofs.Ytccbknhhgnefmaa.Pure
open Go.RowKit Go.Proofs.Ytccbknhhgnefmaa.QFnStuffSplit Go.Proofs.YtccbknhhgnefmaaW.PrintWords Go.Proofs.YtccbknhhgnefmaaW.PrintLast Go.Proofs.YtccbknhhgnefmaaW.PrintMore
set_option linter.unusedVariables false
set_option linter.unusedSimpArgs false
/-! ### general words -/
theorem ev_pos {α : Type} {c : Prop} {d : Decidable c} {g f : Nat → Option α} {r : α} (h : c) (k : Ev g r) : Ev (fun n => @ite _ c d (g n) (f n)) r := Ev.congr (fun _ => if_pos h) k
theorem ev_neg {α : Type} {c : Prop} {d : Decidable c} {g f : Nat → Option α} {r : α} (h : ¬ c) (k : Ev f r) : Ev (fun n => @ite _ c d (g n) (f n)) r := Ev.congr (fun _ => if_neg h) k
theorem ev_ret {α : Type} {a r : α} (h : a = r) : Ev (fun _ => some a) r := h ▸ Ev.now a
theorem ev_let {α β : Type} {g : Option α} {a : α} {r : β} {f : Nat → α → Option β} (h : g = some a) (k : Ev (fun n => f n a) r) : Ev (fun n => g.bind (f n)) r := by
  subst h; exact k
theorem ev_eq {α : Type} {g : Nat → Option α} {a r : α} (k : Ev g a) (h : a = r) : Ev g r := h ▸ k
theorem down {P : Nat → Prop} (n : Nat) (h0 : P n) (hs : ∀ i, i < n → P (i + 1) → P i) (i : Nat) (h : i ≤ n) : P i := by
  obtain ⟨d, rfl⟩ : ∃ d, n = i + d := ⟨n - i, by omega⟩
  clear h
  induction d generalizing i with
  | zero => exact h0
  | succ d ih =>
    refine hs i (by omega) ?_
    have e : i + (d + 1) = (i + 1) + d := by omega
    rw [e] at h0 hs
    exact ih (i + 1) h0 hs
theorem w64 {x : Int} (h0 : -9223372036854775808 ≤ x) (h1 : x ≤ 9223372036854775807) : wrap64 x = x := by unfold wrap64; omega
theorem wsucc {i n : Nat} (h : i < n) (hn : n ≤ 9223372036854775807) : wrap64 ((i : Int) + 1) = ((i + 1 : Nat) : Int) := by unfold wrap64; omega
theorem rd_nat (xs : List Int) (i : Nat) : rd xs (i : Int) = xs.getD i 0 := by simp [rd]
theorem getD_eq {α : Type} (d : α) (xs : List α) (i : Nat) (h : i < xs.length) : xs.getD i d = xs[i] := by
  rw [List.getD_eq_getElem?_getD, List.getElem?_eq_getElem h]; rfl
theorem drop_cons {α : Type} (d : α) (xs : List α) (i : Nat) (h : i < xs.length) : xs.drop i = xs.getD i d :: xs.drop (i + 1) := by
  rw [List.drop_eq_getElem_cons h, getD_eq d xs i h]
theorem getD_set {α : Type} (d : α) (xs : List α) (i j : Nat) (v : α) (h : i < xs.length) : (xs.set i v).getD j d = if j = i then v else xs.getD j d := by
  rw [List.getD_eq_getElem?_getD, List.getD_eq_getElem?_getD, List.getElem?_set]
  by_cases e : i = j
  · subst e; simp [h]
  · rw [if_neg e, if_neg (fun q => e q.symm)]
theorem fill_end {α : Type} (d : α) (z y : List α) (hl : y.length = z.length) (h : ∀ j, j < z.length → y.getD j d = z.getD j d) : y = z := by
  apply List.ext_getElem hl
  intro j h1 h2
  have e := h j h2
  rwa [getD_eq d y j h1, getD_eq d z j h2] at e
theorem fill_step {α : Type} (d : α) (z y : List α) (i : Nat) (hl : y.length = z.length) (hi : i < z.length) (h : ∀ j, j < i → y.getD j d = z.getD j d) (v : α) (hv : v = z.getD i d) :
    (y.set i v).length = z.length ∧ ∀ j, j < i + 1 → (y.set i v).getD j d = z.getD j d := by
  refine ⟨by simpa using hl, fun j hj => ?_⟩
  rw [getD_set d y i j v (by omega)]
  by_cases e : j = i
  · rw [if_pos e, e, hv]
  · rw [if_neg e]; exact h j (by omega)
theorem mem_getD {α : Type} (d : α) (xs : List α) (i : Nat) (h : i < xs.length) : xs.getD i d ∈ xs := by
  rw [getD_eq d xs i h]; exact List.getElem_mem h
theorem maxl : maxLen = 9223372036854775807 := rfl
/-! ### names -/
theorem ev_split {α : Type} {c : Prop} {d : Decidable c} {g f : Nat → Option α} {r : α} (h : c → Ev g r) (k : ¬ c → Ev f r) : Ev (fun n => @ite _ c d (g n) (f n)) r := by
  by_cases q : c
  · exact ev_pos q (h q)
  · exact ev_neg q (k q)
theorem ev_bool {a r : Bool} (h : a = true ↔ r = true) : Ev (fun _ => some a) r := ev_ret (Bool.eq_iff_iff.2 h)
def okc (c : Int) : Bool := (decide (97 ≤ c) && decide (c ≤ 122)) || ((decide (48 ≤ c) && decide (c ≤ 57)) || decide (c = 45))
def allFrom (s : ByteArray) (i : Nat) : Bool := decide (∀ j, j < s.size → i ≤ j → okc (bt s (j : Int)) = true)
theorem allFrom_step (s : ByteArray) (i : Nat) (h : i < s.size) : allFrom s i = (okc (bt s (i : Int)) && allFrom s (i + 1)) := by
  unfold allFrom
  rw [Bool.eq_iff_iff, Bool.and_eq_true, decide_eq_true_iff, decide_eq_true_iff]
  refine ⟨fun q => ⟨q i h (Nat.le_refl _), fun j hj hi => q j hj (by omega)⟩, fun q j hj hi => ?_⟩
  by_cases e : j = i
  · rw [e]; exact q.1
  · exact q.2 j hj (by omega)
theorem allFrom_end (s : ByteArray) : allFrom s s.size = true := by
  unfold allFrom
  rw [decide_eq_true_iff]
  intro j hj hi; omega
def nameB (s : ByteArray) : Bool := decide (1 ≤ s.size ∧ s.size ≤ 8) && allFrom s 0
theorem okc_of {c : Int} {b : Bool} (h : (97 ≤ c ∧ c ≤ 122 ∨ 48 ≤ c ∧ c ≤ 57 ∨ c = 45) ↔ b = true) : okc c = b := by
  rw [Bool.eq_iff_iff, ← h]; simp [okc]
theorem bits_xor_nat (a b : Nat) (ha : a < 2 ^ 62) (hb : b < 2 ^ 62) : Go.bits .xor .i64 (a : Int) (b : Int) = ((a ^^^ b : Nat) : Int) := by
  have hx : a ^^^ b < 2 ^ 62 := Nat.xor_lt_two_pow ha hb
  have ha' : a % 2 ^ IntKind.i64.bits = a := Nat.mod_eq_of_lt (Nat.lt_trans ha (by decide))
  have hb' : b % 2 ^ IntKind.i64.bits = b := Nat.mod_eq_of_lt (Nat.lt_trans hb (by decide))
  have e : Go.bits .xor .i64 (a : Int) (b : Int) = IntKind.i64.wrap ((a ^^^ b : Nat) : Int) := by
    simp only [Go.bits, BitVec.ofInt_natCast, BitVec.toNat_xor, BitVec.toNat_ofNat, ha', hb']
  rw [e, IntKind.wrap_i64]
  generalize a ^^^ b = n at hx ⊢
  have : (2 : Nat) ^ 62 = 4611686018427387904 := by decide
  omega
theorem xor_range {a b : Int} (h0 : 0 ≤ a) (h1 : a ≤ 1000000000000000) (h2 : 0 ≤ b) (h3 : b ≤ 1000000000000000) : 0 ≤ Go.bits .xor .i64 a b := by
  obtain ⟨m, rfl⟩ : ∃ m : Nat, a = (m : Int) := ⟨a.toNat, by omega⟩
  obtain ⟨n, rfl⟩ : ∃ n : Nat, b = (n : Int) := ⟨b.toNat, by omega⟩
  rw [bits_xor_nat m n (by have : (2 : Nat) ^ 62 = 4611686018427387904 := by decide
                           omega) (by have : (2 : Nat) ^ 62 = 4611686018427387904 := by decide
                                      omega)]
  omega
/-! ### numbers drawn -/
structure Bytes (b : List Int) : Prop where
  len : b.length ≤ 2000
  byte : ∀ i, i < b.length → 0 ≤ b.getD i 0 ∧ b.getD i 0 ≤ 255
theorem Bytes.rd {b : List Int} (h : Bytes b) (i : Int) (h0 : 0 ≤ i) (h1 : i < b.length) : 0 ≤ rd b i ∧ rd b i ≤ 255 := by
  obtain ⟨n, rfl⟩ : ∃ n : Nat, i = (n : Int) := ⟨i.toNat, by omega⟩
  rw [rd_nat]
  exact h.byte n (by omega)
theorem pick_ev (b : List Int) (hb : Bytes b) (p n : Int) (hp : 0 ≤ p) (hp1 : p ≤ 1000000000) (hn : n ≤ 1000000000) :
    ∃ v, (0 ≤ v ∧ (1 ≤ n → v < n) ∧ (n < 1 → v = 0)) ∧ Ev (fun k => spec_l11Rd_pick.f k b p n) (v, p + 1) := by
  unfold spec_l11Rd_pick.f
  rw [w64 (x := p + 1) (by omega) (by omega)]
  by_cases c : n < 1
  · exact ⟨0, ⟨by omega, by omega, by omega⟩, ev_pos c (Ev.step (fun k => by rw [spec_l11Rd_pick.j0]) (ev_pos rfl (ev_ret rfl)))⟩
  by_cases e : (b.length : Int) = 0
  · exact ⟨0, ⟨by omega, by omega, by omega⟩, ev_neg c (Ev.step (fun k => by rw [spec_l11Rd_pick.j0]) (ev_pos (by simpa using e) (ev_ret rfl)))⟩
  have hl := hb.len
  have key : ∃ v, (0 ≤ v ∧ (1 ≤ n → v < n) ∧ (n < 1 → v = 0)) ∧ Ev (fun k => spec_l11Rd_pick.j0 k n false b (p + 1)) (v, p + 1) := by
    have fin : ∀ x : Int, 0 ≤ x → (0 ≤ Int.tmod x n ∧ (1 ≤ n → Int.tmod x n < n) ∧ (n < 1 → Int.tmod x n = 0)) := fun x hx => by
      rw [Int.tmod_eq_emod_of_nonneg hx]
      exact ⟨Int.emod_nonneg _ (by omega), fun _ => Int.emod_lt_of_pos _ (by omega), fun q => by omega⟩
    have hw : wrap64 (p + 1 - 1) = p := by rw [w64 (by omega) (by omega)]; omega
    by_cases q : p < (b.length : Int)
    · have hr := hb.rd p hp q
      refine ⟨_, fin (wrap64 (rd b p)) (by rw [w64 (by omega) (by omega)]; omega), Ev.step (fun k => by rw [spec_l11Rd_pick.j0]) ?_⟩
      rw [hw]
      exact ev_neg (by simp) (ev_pos q (ev_pos hp (ev_neg (by omega) (ev_ret rfl))))
    · have h7 : wrap64 (wrap64 (p * 7) + 3) = p * 7 + 3 := by rw [w64 (x := p * 7) (by omega) (by omega), w64 (by omega) (by omega)]
      have m1 : Int.tmod p (b.length : Int) = p % (b.length : Int) := Int.tmod_eq_emod_of_nonneg hp
      have m2 : Int.tmod (p * 7 + 3) (b.length : Int) = (p * 7 + 3) % (b.length : Int) := Int.tmod_eq_emod_of_nonneg (by omega)
      have d1 : Int.tdiv p (b.length : Int) = p / (b.length : Int) := Int.tdiv_eq_ediv_of_nonneg hp
      have r1 := Int.emod_nonneg p e
      have r2 := Int.emod_lt_of_pos p (show (0 : Int) < (b.length : Int) by omega)
      have r3 := Int.emod_nonneg (p * 7 + 3) e
      have r4 := Int.emod_lt_of_pos (p * 7 + 3) (show (0 : Int) < (b.length : Int) by omega)
      have v1 := hb.rd _ r1 r2
      have v2 := hb.rd _ r3 r4
      have dv0 : 0 ≤ p / (b.length : Int) := Int.ediv_nonneg hp (by omega)
      have dv1 : p / (b.length : Int) ≤ p := Int.ediv_le_self _ hp
      have big : ∃ x : Int, 0 ≤ x ∧ Ev (fun k => spec_l11Rd_pick.j0 k n false b (p + 1)) (Int.tmod x n, p + 1) := by
        obtain ⟨u1, hu1⟩ : ∃ u, rd b (p % (b.length : Int)) = u := ⟨_, rfl⟩
        obtain ⟨u2, hu2⟩ : ∃ u, rd b ((p * 7 + 3) % (b.length : Int)) = u := ⟨_, rfl⟩
        obtain ⟨u3, hu3⟩ : ∃ u, p / (b.length : Int) = u := ⟨_, rfl⟩
        rw [hu1] at v1
        rw [hu2] at v2
        rw [hu3] at dv0 dv1
        obtain ⟨x, hx⟩ : ∃ x, u1 * 131 + u2 * 1117 + p * 29 + u3 * 53 = x := ⟨_, rfl⟩
        have x0 : 0 ≤ x := by omega
        have x1 : x ≤ 1000000000000 := by omega
        have y0 : 0 ≤ Int.tdiv x 64 ∧ Int.tdiv x 64 ≤ x := by rw [Int.tdiv_eq_ediv_of_nonneg x0]; exact ⟨Int.ediv_nonneg x0 (by omega), Int.ediv_le_self _ x0⟩
        refine ⟨Go.bits .xor .i64 x (Int.tdiv x 64), xor_range x0 (by omega) y0.1 (by omega), Ev.step (fun k => by rw [spec_l11Rd_pick.j0]) ?_⟩
        rw [hw, h7, m1, m2, d1]
        refine ev_neg (by simp) (ev_neg q (ev_neg e (ev_pos r1 (ev_pos r2 (ev_pos r3 (ev_pos r4 (ev_neg (by omega) (ev_ret ?_))))))))
        rw [hu1, hu2, hu3, w64 (x := u1) (by omega) (by omega), w64 (x := u2) (by omega) (by omega), w64 (x := u1 * 131) (by omega) (by omega), w64 (x := u2 * 1117) (by omega) (by omega), w64 (x := u1 * 131 + u2 * 1117) (by omega) (by omega), w64 (x := p * 29) (by omega) (by omega),
          w64 (x := u1 * 131 + u2 * 1117 + p * 29) (by omega) (by omega), w64 (x := u3) (by omega) (by omega), w64 (x := u3 * 53) (by omega) (by omega), w64 (x := u1 * 131 + u2 * 1117 + p * 29 + u3 * 53) (by omega) (by omega), hx, w64 (x := Int.tdiv x 64) (by omega) (by omega)]
      obtain ⟨x, hx, hev⟩ := big
      exact ⟨_, fin x hx, hev⟩
  obtain ⟨v, hv, hk⟩ := key
  refine ⟨v, hv, ev_neg c ?_⟩
  have e2 : ((b.length : Int) == 0) = false := by simpa using e
  rw [e2]; exact hk
/-- what is drawn from: at most 2000 bytes of it -/
theorem open_ev (l : List Int) (h : ∀ x ∈ l, 0 ≤ x ∧ x ≤ 255) : ∃ b, Bytes b ∧ spec_l11Open.f l = some (b, 0) := by
  unfold spec_l11Open.f
  by_cases c : (l.length : Int) > 2000
  · refine ⟨l.take 2000, ⟨by simp; omega, fun i hi => ?_⟩, by rw [if_pos c, if_pos (by omega)]⟩
    exact h _ (List.mem_of_mem_take (mem_getD 0 _ i hi))
  · exact ⟨l, ⟨by omega, fun i hi => h _ (mem_getD 0 _ i hi)⟩, by rw [if_neg c]⟩
theorem bytes_of {l : List Int} (h : ∀ x ∈ l, (Lit.int .u8 x).wf = true) : ∀ x ∈ l, 0 ≤ x ∧ x ≤ 255 := fun x hx => by
  have := h x hx
  simpa [Lit.wf, IntKind.min, IntKind.max, IntKind.signed, IntKind.bits] using this
/-! ### sharing out: the plain law -/
def sOk (a : Int) : Prop := 0 ≤ a ∧ a ≤ 1000
instance (a : Int) : Decidable (sOk a) := by unfold sOk; exact inferInstance
def isum : List Int → Int
  | [] => 0
  | a :: l => a + isum l
theorem isum_bound (l : List Int) (h : ∀ a ∈ l, sOk a) : 0 ≤ isum l ∧ isum l ≤ 1000 * (l.length : Int) := by
  induction l with
  | nil => simp [isum]
  | cons a l ih =>
    have h1 := h a (by simp)
    have h2 := ih (fun b hb => h b (by simp [hb]))
    unfold sOk at h1
    simp only [isum, List.length_cons]; omega
structure IsMost (l : List Int) (m : Nat) : Prop where
  lt : m < l.length
  le : ∀ j, j < l.length → l.getD j 0 ≤ l.getD m 0
  first : ∀ j, j < m → l.getD j 0 < l.getD m 0
theorem IsMost.uniq {l : List Int} {m n : Nat} (h : IsMost l m) (k : IsMost l n) : m = n := by
  rcases Nat.lt_trichotomy m n with q | q | q
  · have h1 := k.first m q; have h2 := h.le n k.lt; omega
  · exact q
  · have h1 := h.first n q; have h2 := k.le m h.lt; omega
def most (l : List Int) : Nat := (List.range' 0 l.length).foldl (fun b i => if l.getD b 0 < l.getD i 0 then i else b) 0
theorem most_fold (l : List Int) (n : Nat) : ∀ (s b : Nat), s + n = l.length → b < s → (∀ j, j < s → l.getD j 0 ≤ l.getD b 0) → (∀ j, j < b → l.getD j 0 < l.getD b 0) →
    IsMost l ((List.range' s n).foldl (fun b i => if l.getD b 0 < l.getD i 0 then i else b) b) := by
  induction n with
  | zero => intro s b e h1 h2 h3; exact ⟨by simp; omega, fun j hj => h2 j (by omega), h3⟩
  | succ n ih =>
    intro s b e h1 h2 h3
    rw [List.range'_succ, List.foldl_cons]
    by_cases c : l.getD b 0 < l.getD s 0
    · rw [if_pos c]
      refine ih (s + 1) s (by omega) (by omega) (fun j hj => ?_) (fun j hj => ?_)
      · by_cases q : j = s
        · rw [q]; omega
        · have := h2 j (by omega); omega
      · have := h2 j hj; omega
    · rw [if_neg c]
      refine ih (s + 1) b (by omega) (by omega) (fun j hj => ?_) h3
      by_cases q : j = s
      · rw [q]; omega
      · exact h2 j (by omega)
theorem most_is (l : List Int) (h : 0 < l.length) : IsMost l (most l) := by
  unfold most
  obtain ⟨n, hn⟩ : ∃ n, l.length = n + 1 := ⟨l.length - 1, by omega⟩
  rw [hn, List.range'_succ, List.foldl_cons, if_neg (by omega)]
  exact most_fold l n 1 0 (by omega) (by omega) (fun j hj => Int.le_of_eq (by rw [show j = 0 by omega])) (fun j hj => by omega)
def hand : Nat → List Int → List Int → List Int
  | 0, o, _ => o
  | m + 1, o, r => hand m (o.set (most r) (o.getD (most r) 0 + 1)) (r.set (most r) (-1))
def whole (n t a : Int) : Int := if t = 0 then 0 else n * a / t
def remn (n t a : Int) : Int := if t = 0 then 0 else n * a % t
def splitOf (l : List Int) (n : Int) : List Int :=
  if l.length ≤ 16 ∧ (∀ a ∈ l, sOk a) ∧ 0 ≤ n ∧ n ≤ isum l then
    hand (n - isum (l.map (whole n (isum l)))).toNat (l.map (whole n (isum l))) (l.map (remn n (isum l)))
  else []
theorem isum_map_div (n t : Int) (ht : 0 < t) (l : List Int) : t * isum (l.map (whole n t)) + isum (l.map (remn n t)) = n * isum l := by
  induction l with
  | nil => simp [isum]
  | cons a l ih =>
    simp only [List.map_cons, isum]
    have e : t * whole n t a + remn n t a = n * a := by
      unfold whole remn
      rw [if_neg (by omega), if_neg (by omega)]
      exact Int.mul_ediv_add_emod (n * a) t
    rw [Int.mul_add, Int.mul_add, ← e, ← ih]; omega
theorem remn_range (n t a : Int) (ht : 0 < t) : 0 ≤ remn n t a ∧ remn n t a < t := by
  unfold remn
  rw [if_neg (by omega)]
  exact ⟨Int.emod_nonneg _ (by omega), Int.emod_lt_of_pos _ ht⟩
/-- how many are above zero -/
def poss (r : List Int) : Nat := (r.filter (fun x => decide (0 < x))).length
theorem isum_le_poss (t : Int) (r : List Int) (h : ∀ x ∈ r, x ≤ t) : isum r ≤ t * (poss r : Int) := by
  induction r with
  | nil => simp [isum, poss]
  | cons a r ih =>
    have h1 := h a (by simp)
    have h2 := ih (fun b hb => h b (by simp [hb]))
    simp only [isum]
    by_cases c : 0 < a
    · have e : poss (a :: r) = poss r + 1 := by simp [poss, List.filter_cons, c]
      rw [e]
      have : t * ((poss r + 1 : Nat) : Int) = t * (poss r : Int) + t := by rw [Int.natCast_add, Int.mul_add]; simp
      omega
    · have e : poss (a :: r) = poss r := by simp [poss, List.filter_cons, c]
      rw [e]; omega
theorem poss_set (r : List Int) : ∀ (i : Nat), i < r.length → poss r ≤ poss (r.set i (-1)) + 1 := by
  induction r with
  | nil => intro i h; simp at h
  | cons a r ih =>
    intro i h
    cases i with
    | zero =>
      rw [List.set_cons_zero]
      unfold poss
      simp only [List.filter_cons]
      split <;> simp
    | succ i =>
      rw [List.set_cons_succ]
      have := ih i (by simpa using h)
      unfold poss at this ⊢
      simp only [List.filter_cons]
      split
      · simp only [List.length_cons]; omega
      · exact this
theorem poss_some (r : List Int) (h : 0 < poss r) : ∃ j, j < r.length ∧ 0 < r.getD j 0 := by
  unfold poss at h
  obtain ⟨x, hx⟩ := List.exists_mem_of_length_pos h
  obtain ⟨h1, h2⟩ := List.mem_filter.1 hx
  obtain ⟨j, hj, e⟩ := List.getElem_of_mem h1
  exact ⟨j, hj, by rw [getD_eq 0 r j hj, e]; simpa using h2⟩
theorem isum_set (o : List Int) : ∀ (i : Nat), i < o.length → isum (o.set i (o.getD i 0 + 1)) = isum o + 1 := by
  induction o with
  | nil => intro i h; simp at h
  | cons a o ih =>
    intro i h
    cases i with
    | zero => simp [isum]; omega
    | succ i =>
      simp only [List.set_cons_succ, isum]
      have := ih i (by simpa using h)
      simp only [List.getD_cons_succ]
      rw [this]; omega
theorem hand_length (m : Nat) : ∀ (o r : List Int), (hand m o r).length = o.length := by
  induction m with
  | zero => intro o r; rfl
  | succ m ih => intro o r; rw [hand, ih]; simp
/-- handing out: one each, at places with something left -/
theorem hand_tells (m : Nat) : ∀ (o r : List Int), o.length = r.length → m ≤ poss r →
    isum (hand m o r) = isum o + m ∧ ∀ j, j < o.length → (hand m o r).getD j 0 = o.getD j 0 ∨ (hand m o r).getD j 0 = o.getD j 0 + 1 ∧ 0 < r.getD j 0 := by
  induction m with
  | zero => intro o r _ _; exact ⟨by simp [hand], fun j hj => .inl rfl⟩
  | succ m ih =>
    intro o r hl hm
    obtain ⟨j0, hj0, hp⟩ := poss_some r (by omega)
    have M := most_is r (by omega)
    have hM := M.lt
    have hpos : 0 < r.getD (most r) 0 := by have := M.le j0 hj0; omega
    obtain ⟨h1, h2⟩ := ih (o.set (most r) (o.getD (most r) 0 + 1)) (r.set (most r) (-1)) (by simp [hl]) (by have := poss_set r (most r) hM; omega)
    rw [hand]
    refine ⟨by rw [h1, isum_set o _ (by omega)]; omega, fun j hj => ?_⟩
    have h3 := h2 j (by simpa using hj)
    rw [getD_set 0 o _ j _ (by omega), getD_set 0 r _ j _ hM] at h3
    by_cases c : j = most r
    · rw [if_pos c, if_pos c] at h3
      rcases h3 with h3 | ⟨_, h3⟩
      · exact .inr ⟨by rw [h3, c], by rw [c]; exact hpos⟩
      · omega
    · rw [if_neg c, if_neg c] at h3; exact h3
theorem split_left (l : List Int) (n : Int) (h : ∀ a ∈ l, sOk a) (h0 : 0 ≤ n) (h1 : n ≤ isum l) :
    0 ≤ n - isum (l.map (whole n (isum l))) ∧ (n - isum (l.map (whole n (isum l)))).toNat ≤ poss (l.map (remn n (isum l))) := by
  have hb := isum_bound l h
  by_cases c : isum l = 0
  · have e : isum (l.map (whole n (isum l))) = 0 := by
      have : ∀ q : List Int, isum (q.map (whole n (isum l))) = 0 := by
        intro q
        induction q with
        | nil => rfl
        | cons a q ih => simp only [List.map_cons, isum, ih]; unfold whole; rw [if_pos c]; omega
      exact this l
    rw [e]; omega
  · have ht : 0 < isum l := by omega
    have e := isum_map_div n (isum l) ht l
    have r0 : 0 ≤ isum (l.map (remn n (isum l))) := by
      have : ∀ q : List Int, 0 ≤ isum (q.map (remn n (isum l))) := by
        intro q
        induction q with
        | nil => simp [isum]
        | cons a q ih => simp only [List.map_cons, isum]; have := remn_range n (isum l) a ht; omega
      exact this l
    have r1 := isum_le_poss (isum l) (l.map (remn n (isum l))) (fun x hx => by
      obtain ⟨a, _, rfl⟩ := List.mem_map.1 hx
      have := remn_range n (isum l) a ht
      omega)
    generalize isum (l.map (whole n (isum l))) = s at *
    generalize isum (l.map (remn n (isum l))) = q at *
    generalize poss (l.map (remn n (isum l))) = pc at *
    generalize isum l = t at *
    have e2 : t * (n - s) = q := by rw [Int.mul_sub, Int.mul_comm t n]; omega
    have p0 : 0 ≤ n - s := by
      refine Int.not_lt.1 fun hlt => ?_
      have : t * (n - s) < 0 := Int.mul_neg_of_pos_of_neg ht hlt
      omega
    refine ⟨p0, ?_⟩
    have : t * (n - s) ≤ t * (pc : Int) := by omega
    have := Int.le_of_mul_le_mul_left this ht
    omega
/-! ### sharing out: what the two functions come to -/
theorem l11In_is (a b c : Int) : spec_l11In.f a b c = some (decide (b ≤ a ∧ a ≤ c)) := by
  unfold spec_l11In.f
  by_cases h : a ≥ b
  · rw [if_pos h]; congr 1; apply decide_eq_decide.2; omega
  · rw [if_neg h]; congr 1; symm; apply decide_eq_false; omega
theorem isum_drop (l : List Int) (i : Nat) (h : i < l.length) : isum (l.drop i) = l.getD i 0 + isum (l.drop (i + 1)) := by
  rw [drop_cons 0 l i h]; rfl
theorem all_drop (l : List Int) (i : Nat) (h : i < l.length) : (∀ a ∈ l.drop i, sOk a) ↔ sOk (l.getD i 0) ∧ ∀ a ∈ l.drop (i + 1), sOk a := by
  rw [drop_cons 0 l i h]; simp
theorem l11Sum_ev (l : List Int) : Ev (fun k => spec_l11Sum.f k l) (if l.length ≤ 16 ∧ ∀ a ∈ l, sOk a then isum l else -1) := by
  unfold spec_l11Sum.f
  by_cases hn : (l.length : Int) > 16
  · exact ev_pos hn (ev_ret (by rw [if_neg (fun h => by omega)]))
  refine ev_neg hn ?_
  have key := down (P := fun i => ∀ s : Int, 0 ≤ s → s ≤ 1000 * (i : Int) → Ev (fun k => spec_l11Sum.l0 k l s (i : Int)) (if ∀ a ∈ l.drop i, sOk a then s + isum (l.drop i) else -1)) l.length
    (fun s h0 h1 => by
      refine Ev.step (fun k => by rw [spec_l11Sum.l0]) ?_
      refine ev_neg (by omega) (ev_ret ?_)
      rw [List.drop_length, if_pos (fun a h => by cases h)]; simp [isum])
    (fun i hi ih s h0 h1 => by
      refine Ev.step (fun k => by rw [spec_l11Sum.l0]) ?_
      refine ev_pos (by omega) (ev_pos (by omega) ?_)
      rw [rd_nat, wsucc hi (by omega)]
      refine ev_let (l11In_is _ _ _) ?_
      by_cases c : sOk (l.getD i 0)
      · have c' := c
        unfold sOk at c'
        refine ev_pos (by simpa using c') ?_
        rw [w64 (by omega) (by omega)]
        refine ev_eq (ih _ (by omega) (by omega)) ?_
        rw [isum_drop l i hi]
        by_cases q : ∀ a ∈ l.drop (i + 1), sOk a
        · rw [if_pos q, if_pos ((all_drop l i hi).2 ⟨c, q⟩)]; omega
        · rw [if_neg q, if_neg (fun z => q ((all_drop l i hi).1 z).2)]
      · refine ev_neg (by unfold sOk at c; simpa using c) (ev_ret ?_)
        rw [if_neg (fun z => c ((all_drop l i hi).1 z).1)]) 0 (Nat.zero_le _)
  refine ev_eq (key 0 (by omega) (by omega)) ?_
  rw [List.drop_zero]
  by_cases q : ∀ a ∈ l, sOk a
  · rw [if_pos q, if_pos ⟨by omega, q⟩]; omega
  · rw [if_neg q, if_neg (fun z => q z.2)]
theorem l11Most_ev (l : List Int) (h : 0 < l.length) (hn : l.length ≤ 16) : Ev (fun k => spec_l11Most.f k l) (most l : Int) := by
  unfold spec_l11Most.f
  have key := down (P := fun i => 1 ≤ i → ∀ b : Nat, b < i → (∀ j, j < i → l.getD j 0 ≤ l.getD b 0) → (∀ j, j < b → l.getD j 0 < l.getD b 0) → Ev (fun k => spec_l11Most.l0 k l (b : Int) (i : Int)) (most l : Int)) l.length
    (fun _ b hb h1 h2 => by
      refine Ev.step (fun k => by rw [spec_l11Most.l0]) ?_
      refine ev_neg (by omega) (ev_ret ?_)
      rw [IsMost.uniq ⟨hb, h1, h2⟩ (most_is l h)])
    (fun i hi ih hi1 b hb h1 h2 => by
      refine Ev.step (fun k => by rw [spec_l11Most.l0]) ?_
      refine ev_pos (by omega) (ev_pos (by omega) (ev_pos (by omega) (ev_pos (by omega) ?_)))
      rw [wsucc hi (by omega), rd_nat, rd_nat]
      by_cases c : l.getD b 0 < l.getD i 0
      · refine ev_pos c (ih (by omega) i (by omega) (fun j hj => ?_) (fun j hj => ?_))
        · by_cases q : j = i
          · rw [q]; omega
          · have := h1 j (by omega); omega
        · have := h1 j (by omega); omega
      · refine ev_neg c (ih (by omega) b (by omega) (fun j hj => ?_) h2)
        by_cases q : j = i
        · rw [q]; omega
        · exact h1 j (by omega)) 1 (by omega) (by omega) 0 (by omega) (fun j hj => Int.le_of_eq (by rw [show j = 0 by omega])) (fun j hj => by omega)
  exact key
/-- numbers in bounds -/
def sBd (l : List Int) : Prop := ∀ j, j < l.length → -1 ≤ l.getD j 0 ∧ l.getD j 0 ≤ 100000000
theorem spec_hand_ev (m : Nat) : ∀ (o r : List Int), o.length = r.length → o.length ≤ 16 → (∀ j, j < o.length → 0 ≤ o.getD j 0 ∧ o.getD j 0 + m ≤ 1000000000) → m ≤ poss r → m ≤ 100000000 →
    Ev (fun k => spec_StuffSplit.l1 k o r (m : Int)) (hand m o r) := by
  induction m with
  | zero =>
    intro o r _ _ _ _ _
    refine Ev.step (fun k => by rw [spec_StuffSplit.l1]) ?_
    exact ev_neg (by omega) (ev_ret rfl)
  | succ m ih =>
    intro o r hl h16 hb hm hm2
    obtain ⟨j0, hj0, hp⟩ := poss_some r (by omega)
    have M := most_is r (by omega)
    have hM := M.lt
    refine Ev.step (fun k => by rw [spec_StuffSplit.l1]) ?_
    refine ev_pos (by omega) (Ev.bind (l11Most_ev r (by omega) (by omega)) ?_)
    refine ev_pos (by omega) (ev_pos (by omega) (ev_pos (by omega) ?_))
    have hbM := hb (most r) (by omega)
    rw [rd_nat, w64 (by omega) (by omega), w64 (by omega) (by omega), Int.toNat_natCast, show ((m + 1 : Nat) : Int) - 1 = (m : Int) by omega, hand]
    refine ih _ _ (by simp [hl]) (by simpa using h16) (fun j hj => ?_) (by have := poss_set r (most r) hM; omega) (by omega)
    rw [List.length_set] at hj
    rw [getD_set 0 o _ j _ (by omega)]
    have := hb j hj
    split
    · omega
    · omega
theorem mul_bound {n a : Int} (h0 : 0 ≤ n) (h1 : n ≤ 16000) (h2 : 0 ≤ a) (h3 : a ≤ 1000) : 0 ≤ n * a ∧ n * a ≤ 16000000 := by
  refine ⟨Int.mul_nonneg h0 h2, ?_⟩
  have e1 : n * a ≤ 16000 * a := Int.mul_le_mul_of_nonneg_right h1 h2
  omega
theorem whole_bound {n t a : Int} (h0 : 0 ≤ n) (h1 : n ≤ 16000) (h2 : 0 ≤ a) (h3 : a ≤ 1000) (ht : 0 ≤ t) : 0 ≤ whole n t a ∧ whole n t a ≤ 16000000 := by
  have b := mul_bound h0 h1 h2 h3
  unfold whole
  split
  · omega
  · exact ⟨Int.ediv_nonneg b.1 ht, by have := Int.ediv_le_self t b.1; omega⟩
theorem map_take_succ {α β : Type} (d : α) (f : α → β) (l : List α) (i : Nat) (h : i < l.length) : (l.take i).map f ++ [f (l.getD i d)] = (l.take (i + 1)).map f := by
  rw [List.take_succ_eq_append_getElem h, List.map_append, getD_eq d l i h]; rfl
theorem isum_append (a b : List Int) : isum (a ++ b) = isum a + isum b := by
  induction a with
  | nil => simp [isum]
  | cons x a ih => simp only [List.cons_append, isum, ih]; omega
theorem isum_take (f : Int → Int) (l : List Int) (i : Nat) (h : i < l.length) : isum ((l.take (i + 1)).map f) = isum ((l.take i).map f) + f (l.getD i 0) := by
  rw [← map_take_succ 0 f l i h, isum_append]; simp [isum]
theorem isum_map_bound (f : Int → Int) (b : Int) (hb : 0 ≤ b) (l : List Int) (h : ∀ a ∈ l, 0 ≤ f a ∧ f a ≤ b) : 0 ≤ isum (l.map f) ∧ isum (l.map f) ≤ b * (l.length : Int) := by
  induction l with
  | nil => simp [isum]
  | cons a l ih =>
    have h1 := h a (by simp)
    have h2 := ih (fun c hc => h c (by simp [hc]))
    simp only [List.map_cons, isum, List.length_cons]
    have : b * ((l.length + 1 : Nat) : Int) = b * (l.length : Int) + b := by rw [Int.natCast_add, Int.mul_add]; simp
    omega
theorem spec_StuffSplit_ev (l : List Int) (n : Int) : Ev (fun k => spec_StuffSplit.f k l n) (splitOf l n) := by
  unfold spec_StuffSplit.f
  refine Ev.bind (l11Sum_ev l) ?_
  by_cases c : l.length ≤ 16 ∧ ∀ a ∈ l, sOk a
  case neg =>
    rw [if_neg c]
    refine ev_pos (by omega) (Ev.step (fun k => by rw [spec_StuffSplit.j0]) (ev_pos rfl (ev_ret ?_)))
    rw [splitOf, if_neg (fun h => c ⟨h.1, h.2.1⟩)]
  rw [if_pos c]
  have hb := isum_bound l c.2
  refine ev_neg (by omega) (ev_let (l11In_is _ _ _) ?_)
  refine Ev.step (fun k => by rw [spec_StuffSplit.j0]) ?_
  by_cases c2 : 0 ≤ n ∧ n ≤ isum l
  case neg =>
    refine ev_pos (by rw [decide_eq_false c2]; rfl) (ev_ret ?_)
    rw [splitOf, if_neg (fun h => c2 h.2.2)]
  refine ev_neg (by rw [decide_eq_true c2]; simp) ?_
  rw [splitOf, if_pos ⟨c.1, c.2, c2⟩]
  obtain ⟨p0, p1⟩ := split_left l n c.2 c2.1 c2.2
  have hwb : ∀ a ∈ l, 0 ≤ whole n (isum l) a ∧ whole n (isum l) a ≤ 16000000 := fun a ha => by
    have := c.2 a ha
    unfold sOk at this
    exact whole_bound c2.1 (by omega) this.1 this.2 hb.1
  have key := down (P := fun i => Ev (fun k => spec_StuffSplit.l0 k l n (isum l) ((l.take i).map (whole n (isum l))) ((l.take i).map (remn n (isum l))) (n - isum ((l.take i).map (whole n (isum l)))) (i : Int))
      (hand (n - isum (l.map (whole n (isum l)))).toNat (l.map (whole n (isum l))) (l.map (remn n (isum l))))) l.length
    (by
      refine Ev.step (fun k => by rw [spec_StuffSplit.l0]) ?_
      refine ev_neg (by omega) ?_
      rw [List.take_length]
      have e : n - isum (l.map (whole n (isum l))) = ((n - isum (l.map (whole n (isum l)))).toNat : Int) := by omega
      have hs := isum_map_bound (whole n (isum l)) 16000000 (by omega) l hwb
      conv => arg 1; intro k; rw [e]
      refine spec_hand_ev _ _ _ (by simp) (by simpa using c.1) (fun j hj => ?_) p1 (by omega)
      rw [List.length_map] at hj
      have hj2 : (l.map (whole n (isum l))).getD j 0 = whole n (isum l) (l.getD j 0) := by
        rw [getD_eq 0 _ j (by simpa using hj), getD_eq 0 l j hj, List.getElem_map]
      have := hwb _ (mem_getD 0 l j hj)
      rw [hj2]; omega)
    (fun i hi ih => by
      refine Ev.step (fun k => by rw [spec_StuffSplit.l0]) ?_
      refine ev_pos (by omega) ?_
      have hl1 : ((l.take i).map (whole n (isum l))).length < 17592186044416 := by simp; omega
      have hl2 : ((l.take i).map (remn n (isum l))).length < 17592186044416 := by simp; omega
      have hs0 := isum_take (whole n (isum l)) l i hi
      have hw0 := map_take_succ 0 (whole n (isum l)) l i hi
      have hr0 := map_take_succ 0 (remn n (isum l)) l i hi
      have hok := c.2 _ (mem_getD 0 l i hi)
      unfold sOk at hok
      have hmb := mul_bound c2.1 (by omega : n ≤ 16000) hok.1 hok.2
      have hwi := hwb _ (mem_getD 0 l i hi)
      have hs := isum_map_bound (whole n (isum l)) 16000000 (by omega) (l.take i) (fun a ha => hwb a (List.mem_of_mem_take ha))
      have hti : (l.take i).length = i := by simp; omega
      rw [hti] at hs
      by_cases z : isum l = 0
      · refine ev_pos z (ev_pos hl1 (ev_pos hl2 ?_))
        have e1 : whole n (isum l) (l.getD i 0) = 0 := by unfold whole; rw [if_pos z]
        have e2 : remn n (isum l) (l.getD i 0) = 0 := by unfold remn; rw [if_pos z]
        rw [e1] at hs0 hw0
        rw [e2] at hr0
        rw [hw0, hr0, wsucc hi (by omega), show n - isum ((l.take i).map (whole n (isum l))) = n - isum ((l.take (i + 1)).map (whole n (isum l))) by omega]
        exact ih
      · refine ev_neg z (ev_pos (by omega) (ev_pos hl1 (ev_pos hl2 ?_)))
        have e1 : whole n (isum l) (l.getD i 0) = n * l.getD i 0 / isum l := by unfold whole; rw [if_neg z]
        have e2 : remn n (isum l) (l.getD i 0) = n * l.getD i 0 % isum l := by unfold remn; rw [if_neg z]
        rw [rd_nat, w64 (x := n * l.getD i 0) (by omega) (by omega), Int.tdiv_eq_ediv_of_nonneg hmb.1, Int.tmod_eq_emod_of_nonneg hmb.1, ← e1, ← e2, w64 (x := whole n (isum l) (l.getD i 0)) (by omega) (by omega), hw0, hr0, wsucc hi (by omega),
          w64 (by omega) (by omega), show n - isum ((l.take i).map (whole n (isum l))) - whole n (isum l) (l.getD i 0) = n - isum ((l.take (i + 1)).map (whole n (isum l))) by omega]
        exact ih) 0 (Nat.zero_le _)
  simpa [isum] using key
/-- the program's look for the best place -/
theorem impl_best_ev (o r : List Int) (m : Int) (hr : r.length ≤ 16) (hp : ∃ j, j < r.length ∧ 0 ≤ r.getD j 0) (R : List Int)
    (hR : Ev (fun k => impl_StuffSplit.l2 k (o.set (most r) (wrap64 (rd o (most r : Int) + 1))) (r.set (most r) (-1)) (wrap64 (m - 1))) R) (hlo : o.length = r.length) :
    Ev (fun k => impl_StuffSplit.l3 k o r m (-1) (r.length : Int) 0) R := by
  have key := down (P := fun i => ∀ b : Int, (b = -1 ∧ ∀ j, j < i → r.getD j 0 < 0) ∨ (∃ c : Nat, b = (c : Int) ∧ c < i ∧ 0 ≤ r.getD c 0 ∧ (∀ j, j < i → r.getD j 0 ≤ r.getD c 0) ∧ ∀ j, j < c → r.getD j 0 < r.getD c 0) →
      Ev (fun k => impl_StuffSplit.l3 k o r m b (r.length : Int) (i : Int)) R) r.length
    (fun b hb => by
      refine Ev.step (fun k => by rw [impl_StuffSplit.l3]) ?_
      refine ev_neg (by omega) ?_
      rcases hb with ⟨_, hb⟩ | ⟨c, rfl, hc, h0, h1, h2⟩
      · obtain ⟨j, hj, hj2⟩ := hp
        have := hb j hj; omega
      · obtain rfl := IsMost.uniq ⟨hc, h1, h2⟩ (most_is r (by omega))
        refine ev_neg (by omega) (ev_pos (by omega) (ev_pos (by omega) (ev_pos (by omega) ?_)))
        rw [Int.toNat_natCast]
        exact hR)
    (fun i hi ih b hb => by
      refine Ev.step (fun k => by rw [impl_StuffSplit.l3]) ?_
      refine ev_pos (by omega) (ev_pos (by omega) (ev_pos (by omega) ?_))
      rw [wsucc hi (by omega), rd_nat]
      by_cases q : r.getD i 0 ≥ 0
      · refine ev_pos q ?_
        rcases hb with ⟨rfl, hb⟩ | ⟨c, rfl, hc, h0, h1, h2⟩
        · refine ev_pos (by omega) (ih _ (.inr ⟨i, rfl, by omega, q, fun j hj => ?_, fun j hj => ?_⟩))
          · by_cases e : j = i
            · rw [e]; omega
            · have := hb j (by omega); omega
          · have := hb j hj; omega
        · refine ev_neg (by omega) (ev_pos (by omega) (ev_pos (by omega) ?_))
          rw [rd_nat]
          by_cases g : r.getD i 0 > r.getD c 0
          · refine ev_pos g (ih _ (.inr ⟨i, rfl, by omega, q, fun j hj => ?_, fun j hj => ?_⟩))
            · by_cases e : j = i
              · rw [e]; omega
              · have := h1 j (by omega); omega
            · have := h1 j hj; omega
          · refine ev_neg g (ih _ (.inr ⟨c, rfl, by omega, h0, fun j hj => ?_, h2⟩))
            by_cases e : j = i
            · rw [e]; omega
            · exact h1 j (by omega)
      · refine ev_neg q (ih _ ?_)
        rcases hb with ⟨rfl, hb⟩ | ⟨c, rfl, hc, h0, h1, h2⟩
        · refine .inl ⟨rfl, fun j hj => ?_⟩
          by_cases e : j = i
          · rw [e]; omega
          · exact hb j (by omega)
        · refine .inr ⟨c, rfl, by omega, h0, fun j hj => ?_, h2⟩
          by_cases e : j = i
          · rw [e]; omega
          · exact h1 j (by omega)) 0 (Nat.zero_le _)
  exact key (-1) (.inl ⟨rfl, fun j hj => by omega⟩)
theorem impl_hand_ev (m : Nat) : ∀ (o r : List Int), o.length = r.length → o.length ≤ 16 → (∀ j, j < o.length → 0 ≤ o.getD j 0 ∧ o.getD j 0 + m ≤ 1000000000) → m ≤ poss r → m ≤ 100000000 →
    Ev (fun k => impl_StuffSplit.l2 k o r (m : Int)) (hand m o r) := by
  induction m with
  | zero =>
    intro o r _ _ _ _ _
    refine Ev.step (fun k => by rw [impl_StuffSplit.l2]) ?_
    exact ev_neg (by omega) (ev_ret rfl)
  | succ m ih =>
    intro o r hl h16 hb hm hm2
    obtain ⟨j0, hj0, hp⟩ := poss_some r (by omega)
    have M := most_is r (by omega)
    have hM := M.lt
    refine Ev.step (fun k => by rw [impl_StuffSplit.l2]) ?_
    refine ev_pos (by omega) (impl_best_ev o r _ (by omega) ⟨j0, hj0, by omega⟩ _ ?_ hl)
    have hbM := hb (most r) (by omega)
    rw [rd_nat, w64 (by omega) (by omega), w64 (by omega) (by omega), show ((m + 1 : Nat) : Int) - 1 = (m : Int) by omega, hand]
    refine ih _ _ (by simp [hl]) (by simpa using h16) (fun j hj => ?_) (by have := poss_set r (most r) hM; omega) (by omega)
    rw [List.length_set] at hj
    rw [getD_set 0 o _ j _ (by omega)]
    have := hb j hj
    split
    · omega
    · omega
theorem impl_StuffSplit_ev (l : List Int) (n : Int) : Ev (fun k => impl_StuffSplit.f k l n) (splitOf l n) := by
  unfold impl_StuffSplit.f
  by_cases c1 : (l.length : Int) > 16
  · refine ev_pos c1 (ev_ret ?_)
    rw [splitOf, if_neg (fun h => by omega)]
  refine ev_neg c1 ?_
  have key := down (P := fun i => ∀ s : Int, 0 ≤ s → s ≤ 1000 * (i : Int) → s + isum (l.drop i) = isum l → (∀ a ∈ l.take i, sOk a) → Ev (fun k => impl_StuffSplit.l0 k l n s l (l.length : Int) (i : Int)) (splitOf l n)) l.length
    (fun s h0 h1 h2 h3 => by
      refine Ev.step (fun k => by rw [impl_StuffSplit.l0]) ?_
      refine ev_neg (by omega) ?_
      rw [List.drop_length] at h2
      obtain rfl : s = isum l := by simpa [isum] using h2
      rw [List.take_length] at h3
      have hb := isum_bound l h3
      have bad : ∀ b : Bool, b = true → ¬ (0 ≤ n ∧ n ≤ isum l) ∨ l = [] → Ev (fun k => impl_StuffSplit.j1 k l n (isum l) b) (splitOf l n) := fun b hbt hh => by
        refine Ev.step (fun k => by rw [impl_StuffSplit.j1]) (ev_pos hbt (ev_ret ?_))
        rcases hh with hh | rfl
        · rw [splitOf, if_neg (fun h => hh h.2.2)]
        · unfold splitOf
          split
          · have := hand_length (n - isum (([] : List Int).map (whole n (isum [])))).toNat (([] : List Int).map (whole n (isum []))) (([] : List Int).map (remn n (isum [])))
            rw [List.map_nil, List.length_nil] at this
            exact (List.eq_nil_of_length_eq_zero this).symm
          · rfl
      by_cases q1 : n < 0
      · exact ev_pos q1 (bad _ rfl (.inl (by omega)))
      refine ev_neg q1 ?_
      by_cases q2 : n > isum l
      · exact ev_pos q2 (bad _ rfl (.inl (by omega)))
      refine ev_neg q2 ?_
      by_cases q3 : l = []
      · exact bad _ (by rw [q3]; rfl) (.inr q3)
      have c2 : 0 ≤ n ∧ n ≤ isum l := by omega
      refine Ev.step (fun k => by rw [impl_StuffSplit.j1]) (ev_neg (by simpa using q3) ?_)
      refine ev_pos (by omega) (ev_pos (by omega) ?_)
      rw [splitOf, if_pos ⟨by omega, h3, c2⟩]
      obtain ⟨p0, p1⟩ := split_left l n h3 c2.1 c2.2
      have hwb : ∀ a ∈ l, 0 ≤ whole n (isum l) a ∧ whole n (isum l) a ≤ 16000000 := fun a ha => by
        have := h3 a ha
        unfold sOk at this
        exact whole_bound c2.1 (by omega) this.1 this.2 hb.1
      have gw : ∀ j, j < l.length → (l.map (whole n (isum l))).getD j 0 = whole n (isum l) (l.getD j 0) := fun j hj => by
        rw [getD_eq 0 _ j (by simpa using hj), getD_eq 0 l j hj, List.getElem_map]
      have gr : ∀ j, j < l.length → (l.map (remn n (isum l))).getD j 0 = remn n (isum l) (l.getD j 0) := fun j hj => by
        rw [getD_eq 0 _ j (by simpa using hj), getD_eq 0 l j hj, List.getElem_map]
      have key2 := down (P := fun i => ∀ o r : List Int, o.length = l.length → r.length = l.length → (∀ j, j < i → o.getD j 0 = (l.map (whole n (isum l))).getD j 0) → (∀ j, j < i → r.getD j 0 = (l.map (remn n (isum l))).getD j 0) →
          (∀ j, i ≤ j → j < l.length → o.getD j 0 = 0 ∧ r.getD j 0 = 0) →
          Ev (fun k => impl_StuffSplit.l1 k n (isum l) o r (n - isum ((l.take i).map (whole n (isum l)))) l (l.length : Int) (i : Int)) (hand (n - isum (l.map (whole n (isum l)))).toNat (l.map (whole n (isum l))) (l.map (remn n (isum l))))) l.length
        (fun o r hol hrl ho hr _ => by
          refine Ev.step (fun k => by rw [impl_StuffSplit.l1]) ?_
          refine ev_neg (by omega) ?_
          obtain rfl := fill_end 0 (l.map (whole n (isum l))) o (by simpa using hol) (fun j hj => ho j (by simpa using hj))
          obtain rfl := fill_end 0 (l.map (remn n (isum l))) r (by simpa using hrl) (fun j hj => hr j (by simpa using hj))
          rw [List.take_length]
          have e : n - isum (l.map (whole n (isum l))) = ((n - isum (l.map (whole n (isum l)))).toNat : Int) := by omega
          have hs := isum_map_bound (whole n (isum l)) 16000000 (by omega) l hwb
          conv => arg 1; intro k; rw [e]
          refine impl_hand_ev _ _ _ (by simp) (by simp; omega) (fun j hj => ?_) p1 (by omega)
          rw [List.length_map] at hj
          have := hwb _ (mem_getD 0 l j hj)
          rw [gw j hj]; omega)
        (fun i hi ih o r hol hrl ho hr hz => by
          refine Ev.step (fun k => by rw [impl_StuffSplit.l1]) ?_
          refine ev_pos (by omega) (ev_pos (by omega) (ev_pos (by omega) ?_))
          have hs0 := isum_take (whole n (isum l)) l i hi
          have hok := h3 _ (mem_getD 0 l i hi)
          unfold sOk at hok
          have hmb := mul_bound c2.1 (by omega : n ≤ 16000) hok.1 hok.2
          have hwi := hwb _ (mem_getD 0 l i hi)
          have hs := isum_map_bound (whole n (isum l)) 16000000 (by omega) (l.take i) (fun a ha => hwb a (List.mem_of_mem_take ha))
          have hti : (l.take i).length = i := by simp; omega
          rw [hti] at hs
          have hzi := hz i (Nat.le_refl _) hi
          by_cases z : isum l > 0
          · refine ev_pos z (ev_neg (by omega) (ev_pos (by omega) (ev_pos (by omega) ?_)))
            have e1 : whole n (isum l) (l.getD i 0) = n * l.getD i 0 / isum l := by unfold whole; rw [if_neg (by omega)]
            have e2 : remn n (isum l) (l.getD i 0) = n * l.getD i 0 % isum l := by unfold remn; rw [if_neg (by omega)]
            rw [rd_nat, w64 (x := n * l.getD i 0) (by omega) (by omega), Int.tdiv_eq_ediv_of_nonneg hmb.1, Int.tmod_eq_emod_of_nonneg hmb.1, ← e1, ← e2, w64 (x := whole n (isum l) (l.getD i 0)) (by omega) (by omega), wsucc hi (by omega),
              w64 (by omega) (by omega), show n - isum ((l.take i).map (whole n (isum l))) - whole n (isum l) (l.getD i 0) = n - isum ((l.take (i + 1)).map (whole n (isum l))) by omega, Int.toNat_natCast]
            obtain ⟨a1, a2⟩ := fill_step 0 (l.map (whole n (isum l))) o i (by simpa using hol) (by simpa using hi) ho _ (gw i hi).symm
            obtain ⟨b1, b2⟩ := fill_step 0 (l.map (remn n (isum l))) r i (by simpa using hrl) (by simpa using hi) hr _ (gr i hi).symm
            refine ih _ _ (by simpa using a1) (by simpa using b1) a2 b2 (fun j hj hj2 => ?_)
            rw [getD_set 0 o i j _ (by omega), getD_set 0 r i j _ (by omega), if_neg (by omega), if_neg (by omega)]
            exact hz j (by omega) hj2
          · refine ev_neg z (ev_pos (by omega) ?_)
            have e1 : whole n (isum l) (l.getD i 0) = 0 := by unfold whole; rw [if_pos (by omega)]
            have e2 : remn n (isum l) (l.getD i 0) = 0 := by unfold remn; rw [if_pos (by omega)]
            rw [rd_nat, hzi.1, wsucc hi (by omega), w64 (by omega) (by omega), show n - isum ((l.take i).map (whole n (isum l))) - 0 = n - isum ((l.take (i + 1)).map (whole n (isum l))) by omega]
            refine ih _ _ hol hrl (fun j hj => ?_) (fun j hj => ?_) (fun j hj hj2 => hz j (by omega) hj2)
            · by_cases e : j = i
              · rw [e, hzi.1, gw i hi, e1]
              · exact ho j (by omega)
            · by_cases e : j = i
              · rw [e, hzi.2, gr i hi, e2]
              · exact hr j (by omega)) 0 (Nat.zero_le _)
      have k0 := key2 (List.replicate l.length 0) (List.replicate l.length 0) (by simp) (by simp) (fun j hj => by omega) (fun j hj => by omega) (fun j _ hj => by
        rw [getD_eq 0 _ j (by simpa using hj)]; simp)
      simpa [isum] using k0)
    (fun i hi ih s h0 h1 h2 h3 => by
      refine Ev.step (fun k => by rw [impl_StuffSplit.l0]) ?_
      refine ev_pos (by omega) (ev_pos (by omega) (ev_pos (by omega) ?_))
      rw [rd_nat, wsucc hi (by omega)]
      have bad : ¬ sOk (l.getD i 0) → ([] : List Int) = splitOf l n := fun hh => by
        rw [splitOf, if_neg (fun h => hh (h.2.1 _ (mem_getD 0 l i hi)))]
      by_cases q1 : l.getD i 0 < 0
      · exact ev_pos q1 (ev_ret (bad (by unfold sOk; omega)))
      refine ev_neg q1 ?_
      by_cases q2 : l.getD i 0 > 1000
      · exact ev_pos q2 (ev_ret (bad (by unfold sOk; omega)))
      refine ev_neg q2 ?_
      rw [w64 (by omega) (by omega)]
      rw [isum_drop l i hi] at h2
      refine ih _ (by omega) (by omega) (by omega) (fun a ha => ?_)
      rw [List.take_succ_eq_append_getElem hi, List.mem_append] at ha
      rcases ha with ha | ha
      · exact h3 a ha
      · rw [List.mem_singleton] at ha
        rw [ha, ← getD_eq 0 l i hi]; unfold sOk; omega) 0 (Nat.zero_le _)
  exact key 0 (by omega) (by omega) (by simp) (fun a ha => by simp at ha)
theorem splitOf_length (l : List Int) (n : Int) : (splitOf l n).length ≤ 16 := by
  unfold splitOf
  split
  · rename_i h; rw [hand_length]; simpa using h.1
  · simp
theorem wsInts_ev (x : List Int) (hn : x.length ≤ 9223372036854775807) : Ev (fun k => laws_wsInts.f k x x) true := by
  unfold laws_wsInts.f
  refine ev_pos rfl ?_
  exact down (P := fun i => Ev (fun k => laws_wsInts.l0 k x x (i : Int)) true) x.length
    (by
      refine Ev.step (fun k => by rw [laws_wsInts.l0]) ?_
      exact ev_neg (by omega) (ev_ret rfl))
    (fun i hi ih => by
      refine Ev.step (fun k => by rw [laws_wsInts.l0]) ?_
      refine ev_pos (by omega) (ev_pos (by omega) (ev_pos (by omega) (ev_pos rfl ?_)))
      rw [wsucc hi (by omega)]
      exact ih) 0 (Nat.zero_le _)
/-- what is drawn: some amounts (at most 30) and a number -/
theorem draw1_ev (b : List Int) (hb : Bytes b) (m : Nat) : ∀ (x : List Int) (s p : Int), (x.length : Int) + m ≤ 18 → (s : Int) ≤ 1000 → 0 ≤ s → 0 ≤ p → p ≤ 1000 →
    ∃ r : List Int × Int, r.1.length ≤ 1000 ∧ Ev (fun k => spec_DrawStuffSplit.l1 k x s ((x.length + m : Nat) : Int) b p) r := by
  induction m with
  | zero =>
    intro x s p h1 h2 h2' h3 h4
    obtain ⟨v, _, hv⟩ := pick_ev b hb p (wrap64 (s + 1)) h3 (by omega) (by rw [w64 (by omega) (by omega)]; omega)
    exact ⟨(x, v), by show x.length ≤ 1000; omega, Ev.step (fun k => by rw [spec_DrawStuffSplit.l1]) (ev_neg (by omega) (Ev.bind hv (ev_ret rfl)))⟩
  | succ m ih =>
    intro x s p h1 h2 h2' h3 h4
    obtain ⟨r, hr, h⟩ := ih (x ++ [1]) s p (by simp; omega) h2 h2' h3 h4
    refine ⟨r, hr, Ev.step (fun k => by rw [spec_DrawStuffSplit.l1]) (ev_pos (by omega) (ev_pos (by omega) ?_))⟩
    rw [List.length_append, List.length_singleton, show x.length + 1 + m = x.length + (m + 1) by omega] at h
    exact h
theorem draw0_ev (b : List Int) (hb : Bytes b) (m : Nat) : ∀ (x : List Int) (s p : Int), (x.length : Int) + m ≤ 7 → 0 ≤ s → s + 22 * m ≤ 200 → 0 ≤ p → p + 2 * m ≤ 100 →
    ∃ r : List Int × Int, r.1.length ≤ 1000 ∧ Ev (fun k => spec_DrawStuffSplit.l0 k x s (m : Int) b p) r := by
  induction m with
  | zero =>
    intro x s p h1 h2 h3 h4 h5
    obtain ⟨v, hv, ev⟩ := pick_ev b hb p 16 h4 (by omega) (by omega)
    have base : ∀ A, (∃ r : List Int × Int, r.1.length ≤ 1000 ∧ Ev A r) → (∀ k, spec_DrawStuffSplit.l0 (k + 1) x s ((0 : Nat) : Int) b p = A k) → ∃ r : List Int × Int, r.1.length ≤ 1000 ∧ Ev (fun k => spec_DrawStuffSplit.l0 k x s ((0 : Nat) : Int) b p) r :=
      fun A ⟨r, h1, h2⟩ h => ⟨r, h1, Ev.step h h2⟩
    refine base _ ?_ (fun k => by rw [spec_DrawStuffSplit.l0, if_neg (by omega)])
    have wrapBind : ∀ {α : Type} (g : Nat → Option α) (a : α) (f : Nat → α → Option (List Int × Int)), Ev g a → (∃ r : List Int × Int, r.1.length ≤ 1000 ∧ Ev (fun k => f k a) r) → ∃ r : List Int × Int, r.1.length ≤ 1000 ∧ Ev (fun k => (g k).bind (f k)) r :=
      fun g a f hg ⟨r, h1, h2⟩ => ⟨r, h1, Ev.bind hg h2⟩
    refine wrapBind _ _ _ ev ?_
    by_cases c0 : v = 0
    · obtain ⟨u, hu, eu⟩ := pick_ev b hb (p + 1) 3 (by omega) (by omega) (by omega)
      obtain ⟨t, _, et⟩ := pick_ev b hb (p + 1 + 1) (wrap64 (s + 1)) (by omega) (by omega) (by rw [w64 (by omega) (by omega)]; omega)
      exact ⟨_, by show (x ++ [_]).length ≤ 1000; simp; omega, ev_pos c0 (ev_let rfl (Ev.bind eu (ev_pos hu.1 (ev_pos (by have := hu.2.1 (by omega); simp; omega) (ev_pos (by omega) (Ev.bind et (ev_ret rfl)))))))⟩
    by_cases c1 : v = 1
    · obtain ⟨u, hu, eu⟩ := pick_ev b hb (p + 1) 2 (by omega) (by omega) (by omega)
      have hu2 := hu.2.1 (by omega)
      obtain ⟨r, hr, er⟩ := draw1_ev b hb ((16 + u).toNat - x.length) x s (p + 1 + 1) (by omega) (by omega) (by omega) (by omega) (by omega)
      refine ⟨r, hr, ev_neg c0 (ev_pos c1 (Ev.bind eu ?_))⟩
      show Ev (fun n => spec_DrawStuffSplit.l1 n x s (wrap64 (16 + u)) b (p + 1 + 1)) r
      rw [w64 (by omega) (by omega), show 16 + u = ((x.length + ((16 + u).toNat - x.length) : Nat) : Int) by omega]
      exact er
    by_cases c2 : v = 2
    · obtain ⟨u, hu, eu⟩ := pick_ev b hb (p + 1) 3 (by omega) (by omega) (by omega)
      exact ⟨_, by show x.length ≤ 1000; omega, ev_neg c0 (ev_neg c1 (ev_pos c2 (ev_let rfl (Ev.bind eu (ev_pos hu.1 (ev_pos (by have := hu.2.1 (by omega); simp; omega) (ev_ret rfl)))))))⟩
    · obtain ⟨t, _, et⟩ := pick_ev b hb (p + 1) (wrap64 (s + 1)) (by omega) (by omega) (by rw [w64 (by omega) (by omega)]; omega)
      exact ⟨_, by show x.length ≤ 1000; omega, ev_neg c0 (ev_neg c1 (ev_neg c2 (Ev.bind et (ev_ret rfl))))⟩
  | succ m ih =>
    intro x s p h1 h2 h3 h4 h5
    obtain ⟨v, hv, ev⟩ := pick_ev b hb p 12 h4 (by omega) (by omega)
    obtain ⟨u, hu, eu⟩ := pick_ev b hb (p + 1) 3 (by omega) (by omega) (by omega)
    have hv2 := hv.2.1 (by omega)
    have hu2 := hu.2.1 (by omega)
    have hvu : 0 ≤ v * u ∧ v * u ≤ 22 := by
      refine ⟨Int.mul_nonneg hv.1 hu.1, ?_⟩
      rcases (by omega : u = 0 ∨ u = 1 ∨ u = 2) with rfl | rfl | rfl <;> omega
    obtain ⟨r, hr, er⟩ := ih (x ++ [v * u]) (s + v * u) (p + 1 + 1) (by simp; omega) (by omega) (by omega) (by omega) (by omega)
    refine ⟨r, hr, Ev.step (fun k => by rw [spec_DrawStuffSplit.l0]) (ev_pos (by omega) (Ev.bind ev (Ev.bind eu ?_)))⟩
    have hx : x.length < 17592186044416 := by omega
    refine ev_pos hx ?_
    show Ev (fun n => spec_DrawStuffSplit.l0 n (x ++ [wrap64 (v * u)]) (wrap64 (s + wrap64 (v * u))) (wrap64 (((m + 1 : Nat) : Int) - 1)) b (p + 1 + 1)) r
    rw [w64 (x := v * u) (by omega) (by omega), w64 (x := s + v * u) (by omega) (by omega), w64 (x := ((m + 1 : Nat) : Int) - 1) (by omega) (by omega), show ((m + 1 : Nat) : Int) - 1 = (m : Int) by omega]
    exact er
theorem draw_ev (l : List Int) (h : ∀ x ∈ l, 0 ≤ x ∧ x ≤ 255) : ∃ r : List Int × Int, r.1.length ≤ 1000 ∧ Ev (fun k => spec_DrawStuffSplit.f k l) r := by
  obtain ⟨b, hb, ho⟩ := open_ev l h
  obtain ⟨v, hv, ev⟩ := pick_ev b hb 0 7 (by omega) (by omega) (by omega)
  have hv2 := hv.2.1 (by omega)
  obtain ⟨r, hr, er⟩ := draw0_ev b hb v.toNat [] 0 1 (by simp; omega) (by omega) (by omega) (by omega) (by omega)
  refine ⟨r, hr, ?_⟩
  unfold spec_DrawStuffSplit.f
  refine ev_let ho (Ev.bind ev ?_)
  rw [show (v.toNat : Int) = v by omega] at er
  exact er
/-- what the shares are like -/
theorem split_tells (l : List Int) (n : Int) (h16 : l.length ≤ 16) (h : ∀ a ∈ l, sOk a) (h0 : 0 ≤ n) (h1 : n ≤ isum l) :
    (splitOf l n).length = l.length ∧ isum (splitOf l n) = n ∧ ∀ j, j < l.length → 0 ≤ (splitOf l n).getD j 0 ∧ (splitOf l n).getD j 0 ≤ l.getD j 0 ∧ (0 < isum l → (splitOf l n).getD j 0 * isum l - n * l.getD j 0 < isum l ∧ -isum l < (splitOf l n).getD j 0 * isum l - n * l.getD j 0) := by
  obtain ⟨p0, p1⟩ := split_left l n h h0 h1
  have hb := isum_bound l h
  obtain ⟨t1, t2⟩ := hand_tells (n - isum (l.map (whole n (isum l)))).toNat (l.map (whole n (isum l))) (l.map (remn n (isum l))) (by simp) p1
  have e : splitOf l n = hand (n - isum (l.map (whole n (isum l)))).toNat (l.map (whole n (isum l))) (l.map (remn n (isum l))) := by unfold splitOf; rw [if_pos ⟨h16, h, h0, h1⟩]
  rw [e]
  refine ⟨by rw [hand_length]; simp, by rw [t1]; omega, fun j hj => ?_⟩
  have gw : (l.map (whole n (isum l))).getD j 0 = whole n (isum l) (l.getD j 0) := by
    rw [getD_eq 0 _ j (by simpa using hj), getD_eq 0 l j hj, List.getElem_map]
  have gr : (l.map (remn n (isum l))).getD j 0 = remn n (isum l) (l.getD j 0) := by
    rw [getD_eq 0 _ j (by simpa using hj), getD_eq 0 l j hj, List.getElem_map]
  have t3 := t2 j (by simpa using hj)
  rw [gw, gr] at t3
  have ha := h _ (mem_getD 0 l j hj)
  unfold sOk at ha
  generalize (hand (n - isum (l.map (whole n (isum l)))).toNat (l.map (whole n (isum l))) (l.map (remn n (isum l)))).getD j 0 = o at t3 ⊢
  generalize l.getD j 0 = a at ha t3 ⊢
  by_cases z : isum l = 0
  · have w0 : whole n (isum l) a = 0 := by unfold whole; rw [if_pos z]
    have r0 : remn n (isum l) a = 0 := by unfold remn; rw [if_pos z]
    rw [w0, r0] at t3
    have ho : o = 0 := by omega
    exact ⟨by omega, by omega, fun q => by omega⟩
  · have ht : 0 < isum l := by omega
    have hr := remn_range n (isum l) a ht
    have hw : isum l * whole n (isum l) a + remn n (isum l) a = n * a := by
      unfold whole remn; rw [if_neg z, if_neg z]; exact Int.mul_ediv_add_emod (n * a) (isum l)
    have hw0 : 0 ≤ whole n (isum l) a := by unfold whole; rw [if_neg z]; exact Int.ediv_nonneg (Int.mul_nonneg h0 ha.1) hb.1
    have hna : n * a ≤ isum l * a := Int.mul_le_mul_of_nonneg_right h1 ha.1
    have hwa : whole n (isum l) a ≤ a ∧ (0 < remn n (isum l) a → whole n (isum l) a + 1 ≤ a) := by
      constructor
      · refine Int.le_of_mul_le_mul_left (a := isum l) ?_ ht; omega
      · intro q
        have : isum l * whole n (isum l) a < isum l * a := by omega
        have := Int.lt_of_mul_lt_mul_left this hb.1
        omega
    have e1 : whole n (isum l) a * isum l = isum l * whole n (isum l) a := Int.mul_comm _ _
    rcases t3 with rfl | ⟨rfl, q⟩
    · exact ⟨hw0, hwa.1, fun _ => by omega⟩
    · have e2 : (whole n (isum l) a + 1) * isum l = isum l * whole n (isum l) a + isum l := by rw [Int.add_mul, e1]; omega
      exact ⟨by omega, hwa.2 q, fun _ => by omega⟩
theorem split_all (l : List Int) (h16 : l.length ≤ 16) (h : ∀ a ∈ l, sOk a) : splitOf l (isum l) = l := by
  have hb := isum_bound l h
  have ew : ∀ a ∈ l, whole (isum l) (isum l) a = a := fun a ha => by
    unfold whole
    have hs := h a ha
    unfold sOk at hs
    split
    · rename_i z
      have : ∀ q : List Int, (∀ a ∈ q, sOk a) → isum q = 0 → ∀ a ∈ q, a = 0 := by
        intro q
        induction q with
        | nil => intro _ _ a ha; cases ha
        | cons x q ih =>
          intro hq hz a ha
          have hx := hq x (by simp)
          have hbq := isum_bound q (fun b hb => hq b (by simp [hb]))
          unfold sOk at hx
          simp only [isum] at hz
          rcases List.mem_cons.1 ha with rfl | ha
          · omega
          · exact ih (fun b hb => hq b (by simp [hb])) (by omega) a ha
      exact (this l h z a ha).symm
    · rename_i z; exact Int.mul_ediv_cancel_left a z
  have em : l.map (whole (isum l) (isum l)) = l := by
    rw [List.map_congr_left ew]; simp
  unfold splitOf
  rw [if_pos ⟨h16, h, hb.1, Int.le_refl _⟩, em, Int.sub_self]
  rfl
theorem isum_drop0 (l : List Int) (i : Nat) (h : i < l.length) : isum (l.drop i) = l.getD i 0 + isum (l.drop (i + 1)) := isum_drop l i h
theorem FnStuffSplit : laws_FnStuffSplit.Pure := by
  intro code _ hc hw
  refine Ev.rounds ?_
  unfold laws_FnStuffSplit.f
  refine ev_split (fun _ => ev_ret rfl) (fun _ => ?_)
  obtain ⟨⟨l, n⟩, hr, hd⟩ := draw_ev code (bytes_of hw)
  have hr2 : l.length ≤ 1000 := hr
  have h16 := splitOf_length l n
  refine Ev.bind hd (Ev.bind (impl_StuffSplit_ev l n) (Ev.bind (spec_StuffSplit_ev l n) (Ev.bind (wsInts_ev _ (by omega)) (ev_pos rfl ?_))))
  have nil_len : ¬ (l.length ≤ 16 ∧ (∀ a ∈ l, sOk a) ∧ 0 ≤ n ∧ n ≤ isum l) → (((splitOf l n).length : Int) == 0) = true := fun q => by
    unfold splitOf; rw [if_neg q]; rfl
  show Ev (fun k => laws_FnStuffSplit.l0 k l n (splitOf l n) 0 0) true
  refine down (P := fun i => ∀ s : Int, 0 ≤ s → s ≤ 1000 * (i : Int) → s + isum (l.drop i) = isum l → (∀ a ∈ l.take i, sOk a) → Ev (fun k => laws_FnStuffSplit.l0 k l n (splitOf l n) s (i : Int)) true) l.length
    (fun s h0 h1 h2 h3 => ?_) (fun i hi ih s h0 h1 h2 h3 => ?_) 0 (Nat.zero_le _) 0 (by omega) (by omega) (by simp) (fun a ha => by simp at ha)
  · rw [List.drop_length] at h2
    obtain rfl : s = isum l := by simpa [isum] using h2
    rw [List.take_length] at h3
    have hbd := isum_bound l h3
    refine Ev.step (fun k => by rw [laws_FnStuffSplit.l0]) (ev_neg (by omega) ?_)
    have bad : ¬ (l.length ≤ 16 ∧ (∀ a ∈ l, sOk a) ∧ 0 ≤ n ∧ n ≤ isum l) → ∀ b : Bool, b = true → Ev (fun k => laws_FnStuffSplit.j1 k l n (splitOf l n) (isum l) b) true := fun q b hb =>
      Ev.step (fun k => by rw [laws_FnStuffSplit.j1]) (ev_pos hb (ev_ret (nil_len q)))
    refine ev_split (fun c => bad (fun q => by omega) _ rfl) (fun c1 => ev_split (fun c => bad (fun q => by omega) _ rfl) (fun c2 => ?_))
    by_cases c3 : n > isum l
    · exact bad (fun q => by omega) _ (decide_eq_true c3)
    refine Ev.step (fun k => by rw [laws_FnStuffSplit.j1]) (ev_neg (by simpa using c3) ?_)
    obtain ⟨s1, s2, s3⟩ := split_tells l n (by omega) h3 (by omega) (by omega)
    generalize splitOf l n = out at s1 s2 s3 ⊢
    refine down (P := fun i => ∀ q : Int, 0 ≤ q → q ≤ 1000 * (i : Int) → q + isum (out.drop i) = n → Ev (fun k => laws_FnStuffSplit.l1 k l n out (isum l) q (i : Int)) true) l.length
      (fun q q0 q1 q2 => ?_) (fun i hi ih q q0 q1 q2 => ?_) 0 (Nat.zero_le _) 0 (by omega) (by omega) (by rw [List.drop_zero]; omega)
    · refine Ev.step (fun k => by rw [laws_FnStuffSplit.l1]) (ev_neg (by omega) ?_)
      rw [← s1, List.drop_length] at q2
      have q3 : q = n := by simpa [isum] using q2
      refine ev_pos q3 (ev_pos (by omega) ?_)
      have hsp := impl_StuffSplit_ev l (isum l)
      rw [split_all l (by omega) h3] at hsp
      exact Ev.bind hsp (Ev.bind (wsInts_ev _ (by omega)) (ev_ret rfl))
    · obtain ⟨a0, a1, a2⟩ := s3 i hi
      have hok := h3 _ (mem_getD 0 l i hi)
      unfold sOk at hok
      rw [isum_drop0 out i (by omega)] at q2
      have m1 : 0 ≤ n * l.getD i 0 ∧ n * l.getD i 0 ≤ 16000000 := mul_bound (by omega) (by omega) hok.1 hok.2
      have m2 : 0 ≤ out.getD i 0 * isum l ∧ out.getD i 0 * isum l ≤ 16000000 := by
        have := mul_bound (n := isum l) (a := out.getD i 0) (by omega) (by omega) a0 (by omega)
        rw [Int.mul_comm]; exact this
      refine Ev.step (fun k => by rw [laws_FnStuffSplit.l1]) (ev_pos (by omega) (ev_pos (by omega) (ev_pos (by omega) ?_)))
      rw [rd_nat, rd_nat, wsucc hi (by omega), w64 (x := out.getD i 0 * isum l) (by omega) (by omega), w64 (x := n * l.getD i 0) (by omega) (by omega), w64 (x := out.getD i 0 * isum l - n * l.getD i 0) (by omega) (by omega), w64 (x := -isum l) (by omega) (by omega), w64 (x := q + out.getD i 0) (by omega) (by omega)]
      have nx := ih (q + out.getD i 0) (by omega) (by omega) (by omega)
      refine ev_neg (by omega) (ev_neg (by omega) (ev_split (fun c => ?_) (fun _ => nx)))
      have a3 := a2 c
      exact ev_neg (by omega) (ev_neg (by omega) nx)
  · refine Ev.step (fun k => by rw [laws_FnStuffSplit.l0]) (ev_pos (by omega) (ev_pos (by omega) ?_))
    rw [rd_nat, wsucc hi (by omega)]
    have bad : ¬ sOk (l.getD i 0) → (((splitOf l n).length : Int) == 0) = true := fun q => nil_len (fun z => q (z.2.1 _ (mem_getD 0 l i hi)))
    refine ev_split (fun c => ev_ret (bad (by unfold sOk; omega))) (fun c1 => ev_split (fun c => ev_ret (bad (by unfold sOk; omega))) (fun c2 => ?_))
    rw [isum_drop0 l i hi] at h2
    rw [w64 (by omega) (by omega)]
    refine ih _ (by omega) (by omega) (by omega) (fun a ha => ?_)
    rw [List.take_succ_eq_append_getElem hi, List.mem_append] at ha
    rcases ha with ha | ha
    · exact h3 a ha
    · rw [List.mem_singleton] at ha
      rw [ha, ← getD_eq 0 l i hi]; unfold sOk; omega
end Go.Proofs.Ytccbknhhgnefmaa.Pure
