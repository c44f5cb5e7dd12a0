/- For every drawn phase: it is ok just if the reference says so, a recipe of it alone is ok just if it is and goes on to ends alone, and its name is no end. No condition beyond the row's own. -/
import Derived.Test.YtccbknhhgnefmaaZFnRecPhase7
namespace Go.Proofs.Ytccbknhhgnefmaa.Pure
open Go.RowKit Go.Proofs.Ytccbknhhgnefmaa.QFnRecPhase Go.Proofs.YtccbknhhgnefmaaW.PrintWords Go.Proofs.YtccbknhhgnefmaaW.PrintLast Go.Proofs.YtccbknhhgnefmaaW.PrintMore
set_option linter.unusedVariables false
set_option linter.unusedSimpArgs false
/-! ### general words -/
theorem ev_pos {α : Type} {c : Prop} {d : Decidable c} {g f : Nat → Option α} {r : α} (h : c) (k : Ev g r) : Ev (fun n => @ite _ c d (g n) (f n)) r := Ev.congr (fun _ => if_pos h) k
theorem ev_neg {α : Type} {c : Prop} {d : Decidable c} {g f : Nat → Option α} {r : α} (h : ¬ c) (k : Ev f r) : Ev (fun n => @ite _ c d (g n) (f n)) r := Ev.congr (fun _ => if_neg h) k
theorem ev_ret {α : Type} {a r : α} (h : a = r) : Ev (fun _ => some a) r := h ▸ Ev.now a
theorem ev_let {α β : Type} {g : Option α} {a : α} {r : β} {f : Nat → α → Option β} (h : g = some a) (k : Ev (fun n => f n a) r) : Ev (fun n => g.bind (f n)) r := by
  subst h; exact k
theorem ev_eq {α : Type} {g : Nat → Option α} {a r : α} (k : Ev g a) (h : a = r) : Ev g r := h ▸ k
theorem down {P : Nat → Prop} (n : Nat) (h0 : P n) (hs : ∀ i, i < n → P (i + 1) → P i) (i : Nat) (h : i ≤ n) : P i := by
  obtain ⟨d, rfl⟩ : ∃ d, n = i + d := ⟨n - i, by omega⟩
  clear h
  induction d generalizing i with
  | zero => exact h0
  | succ d ih =>
    refine hs i (by omega) ?_
    have e : i + (d + 1) = (i + 1) + d := by omega
    rw [e] at h0 hs
    exact ih (i + 1) h0 hs
theorem w64 {x : Int} (h0 : -9223372036854775808 ≤ x) (h1 : x ≤ 9223372036854775807) : wrap64 x = x := by unfold wrap64; omega
theorem wsucc {i n : Nat} (h : i < n) (hn : n ≤ 9223372036854775807) : wrap64 ((i : Int) + 1) = ((i + 1 : Nat) : Int) := by unfold wrap64; omega
theorem rd_nat (xs : List Int) (i : Nat) : rd xs (i : Int) = xs.getD i 0 := by simp [rd]
theorem getD_eq {α : Type} (d : α) (xs : List α) (i : Nat) (h : i < xs.length) : xs.getD i d = xs[i] := by
  rw [List.getD_eq_getElem?_getD, List.getElem?_eq_getElem h]; rfl
theorem drop_cons {α : Type} (d : α) (xs : List α) (i : Nat) (h : i < xs.length) : xs.drop i = xs.getD i d :: xs.drop (i + 1) := by
  rw [List.drop_eq_getElem_cons h, getD_eq d xs i h]
theorem mem_getD {α : Type} (d : α) (xs : List α) (i : Nat) (h : i < xs.length) : xs.getD i d ∈ xs := by
  rw [getD_eq d xs i h]; exact List.getElem_mem h
/-! ### names -/
theorem ev_split {α : Type} {c : Prop} {d : Decidable c} {g f : Nat → Option α} {r : α} (h : c → Ev g r) (k : ¬ c → Ev f r) : Ev (fun n => @ite _ c d (g n) (f n)) r := by
  by_cases q : c
  · exact ev_pos q (h q)
  · exact ev_neg q (k q)
theorem ev_bool {a r : Bool} (h : a = true ↔ r = true) : Ev (fun _ => some a) r := ev_ret (Bool.eq_iff_iff.2 h)
def okc (c : Int) : Bool := (decide (97 ≤ c) && decide (c ≤ 122)) || ((decide (48 ≤ c) && decide (c ≤ 57)) || decide (c = 45))
def allFrom (s : ByteArray) (i : Nat) : Bool := decide (∀ j, j < s.size → i ≤ j → okc (bt s (j : Int)) = true)
theorem allFrom_step (s : ByteArray) (i : Nat) (h : i < s.size) : allFrom s i = (okc (bt s (i : Int)) && allFrom s (i + 1)) := by
  unfold allFrom
  rw [Bool.eq_iff_iff, Bool.and_eq_true, decide_eq_true_iff, decide_eq_true_iff]
  refine ⟨fun q => ⟨q i h (Nat.le_refl _), fun j hj hi => q j hj (by omega)⟩, fun q j hj hi => ?_⟩
  by_cases e : j = i
  · rw [e]; exact q.1
  · exact q.2 j hj (by omega)
theorem allFrom_end (s : ByteArray) : allFrom s s.size = true := by
  unfold allFrom
  rw [decide_eq_true_iff]
  intro j hj hi; omega
def nameB (s : ByteArray) : Bool := decide (1 ≤ s.size ∧ s.size ≤ 8) && allFrom s 0
theorem okc_of {c : Int} {b : Bool} (h : (97 ≤ c ∧ c ≤ 122 ∨ 48 ≤ c ∧ c ≤ 57 ∨ c = 45) ↔ b = true) : okc c = b := by
  rw [Bool.eq_iff_iff, ← h]; simp [okc]
theorem bits_xor_nat (a b : Nat) (ha : a < 2 ^ 62) (hb : b < 2 ^ 62) : Go.bits .xor .i64 (a : Int) (b : Int) = ((a ^^^ b : Nat) : Int) := by
  have hx : a ^^^ b < 2 ^ 62 := Nat.xor_lt_two_pow ha hb
  have ha' : a % 2 ^ IntKind.i64.bits = a := Nat.mod_eq_of_lt (Nat.lt_trans ha (by decide))
  have hb' : b % 2 ^ IntKind.i64.bits = b := Nat.mod_eq_of_lt (Nat.lt_trans hb (by decide))
  have e : Go.bits .xor .i64 (a : Int) (b : Int) = IntKind.i64.wrap ((a ^^^ b : Nat) : Int) := by
    simp only [Go.bits, BitVec.ofInt_natCast, BitVec.toNat_xor, BitVec.toNat_ofNat, ha', hb']
  rw [e, IntKind.wrap_i64]
  generalize a ^^^ b = n at hx ⊢
  have : (2 : Nat) ^ 62 = 4611686018427387904 := by decide
  omega
theorem xor_range {a b : Int} (h0 : 0 ≤ a) (h1 : a ≤ 1000000000000000) (h2 : 0 ≤ b) (h3 : b ≤ 1000000000000000) : 0 ≤ Go.bits .xor .i64 a b := by
  obtain ⟨m, rfl⟩ : ∃ m : Nat, a = (m : Int) := ⟨a.toNat, by omega⟩
  obtain ⟨n, rfl⟩ : ∃ n : Nat, b = (n : Int) := ⟨b.toNat, by omega⟩
  rw [bits_xor_nat m n (by have : (2 : Nat) ^ 62 = 4611686018427387904 := by decide
                           omega) (by have : (2 : Nat) ^ 62 = 4611686018427387904 := by decide
                                      omega)]
  omega
/-! ### numbers drawn -/
structure Bytes (b : List Int) : Prop where
  len : b.length ≤ 2000
  byte : ∀ i, i < b.length → 0 ≤ b.getD i 0 ∧ b.getD i 0 ≤ 255
theorem Bytes.rd {b : List Int} (h : Bytes b) (i : Int) (h0 : 0 ≤ i) (h1 : i < b.length) : 0 ≤ rd b i ∧ rd b i ≤ 255 := by
  obtain ⟨n, rfl⟩ : ∃ n : Nat, i = (n : Int) := ⟨i.toNat, by omega⟩
  rw [rd_nat]
  exact h.byte n (by omega)
theorem pick_ev (b : List Int) (hb : Bytes b) (p n : Int) (hp : 0 ≤ p) (hp1 : p ≤ 1000000000) (hn : n ≤ 1000000000) :
    ∃ v, (0 ≤ v ∧ (1 ≤ n → v < n) ∧ (n < 1 → v = 0)) ∧ Ev (fun k => spec_l41Rd_pick.f k b p n) (v, p + 1) := by
  unfold spec_l41Rd_pick.f
  rw [w64 (x := p + 1) (by omega) (by omega)]
  by_cases c : n < 1
  · exact ⟨0, ⟨by omega, by omega, by omega⟩, ev_pos c (Ev.step (fun k => by rw [spec_l41Rd_pick.j0]) (ev_pos rfl (ev_ret rfl)))⟩
  by_cases e : (b.length : Int) = 0
  · exact ⟨0, ⟨by omega, by omega, by omega⟩, ev_neg c (Ev.step (fun k => by rw [spec_l41Rd_pick.j0]) (ev_pos (by simpa using e) (ev_ret rfl)))⟩
  have hl := hb.len
  have key : ∃ v, (0 ≤ v ∧ (1 ≤ n → v < n) ∧ (n < 1 → v = 0)) ∧ Ev (fun k => spec_l41Rd_pick.j0 k n false b (p + 1)) (v, p + 1) := by
    have fin : ∀ x : Int, 0 ≤ x → (0 ≤ Int.tmod x n ∧ (1 ≤ n → Int.tmod x n < n) ∧ (n < 1 → Int.tmod x n = 0)) := fun x hx => by
      rw [Int.tmod_eq_emod_of_nonneg hx]
      exact ⟨Int.emod_nonneg _ (by omega), fun _ => Int.emod_lt_of_pos _ (by omega), fun q => by omega⟩
    have hw : wrap64 (p + 1 - 1) = p := by rw [w64 (by omega) (by omega)]; omega
    by_cases q : p < (b.length : Int)
    · have hr := hb.rd p hp q
      refine ⟨_, fin (wrap64 (rd b p)) (by rw [w64 (by omega) (by omega)]; omega), Ev.step (fun k => by rw [spec_l41Rd_pick.j0]) ?_⟩
      rw [hw]
      exact ev_neg (by simp) (ev_pos q (ev_pos hp (ev_neg (by omega) (ev_ret rfl))))
    · have h7 : wrap64 (wrap64 (p * 7) + 3) = p * 7 + 3 := by rw [w64 (x := p * 7) (by omega) (by omega), w64 (by omega) (by omega)]
      have m1 : Int.tmod p (b.length : Int) = p % (b.length : Int) := Int.tmod_eq_emod_of_nonneg hp
      have m2 : Int.tmod (p * 7 + 3) (b.length : Int) = (p * 7 + 3) % (b.length : Int) := Int.tmod_eq_emod_of_nonneg (by omega)
      have d1 : Int.tdiv p (b.length : Int) = p / (b.length : Int) := Int.tdiv_eq_ediv_of_nonneg hp
      have r1 := Int.emod_nonneg p e
      have r2 := Int.emod_lt_of_pos p (show (0 : Int) < (b.length : Int) by omega)
      have r3 := Int.emod_nonneg (p * 7 + 3) e
      have r4 := Int.emod_lt_of_pos (p * 7 + 3) (show (0 : Int) < (b.length : Int) by omega)
      have v1 := hb.rd _ r1 r2
      have v2 := hb.rd _ r3 r4
      have dv0 : 0 ≤ p / (b.length : Int) := Int.ediv_nonneg hp (by omega)
      have dv1 : p / (b.length : Int) ≤ p := Int.ediv_le_self _ hp
      have big : ∃ x : Int, 0 ≤ x ∧ Ev (fun k => spec_l41Rd_pick.j0 k n false b (p + 1)) (Int.tmod x n, p + 1) := by
        obtain ⟨u1, hu1⟩ : ∃ u, rd b (p % (b.length : Int)) = u := ⟨_, rfl⟩
        obtain ⟨u2, hu2⟩ : ∃ u, rd b ((p * 7 + 3) % (b.length : Int)) = u := ⟨_, rfl⟩
        obtain ⟨u3, hu3⟩ : ∃ u, p / (b.length : Int) = u := ⟨_, rfl⟩
        rw [hu1] at v1
        rw [hu2] at v2
        rw [hu3] at dv0 dv1
        obtain ⟨x, hx⟩ : ∃ x, u1 * 131 + u2 * 1117 + p * 29 + u3 * 53 = x := ⟨_, rfl⟩
        have x0 : 0 ≤ x := by omega
        have x1 : x ≤ 1000000000000 := by omega
        have y0 : 0 ≤ Int.tdiv x 64 ∧ Int.tdiv x 64 ≤ x := by rw [Int.tdiv_eq_ediv_of_nonneg x0]; exact ⟨Int.ediv_nonneg x0 (by omega), Int.ediv_le_self _ x0⟩
        refine ⟨Go.bits .xor .i64 x (Int.tdiv x 64), xor_range x0 (by omega) y0.1 (by omega), Ev.step (fun k => by rw [spec_l41Rd_pick.j0]) ?_⟩
        rw [hw, h7, m1, m2, d1]
        refine ev_neg (by simp) (ev_neg q (ev_neg e (ev_pos r1 (ev_pos r2 (ev_pos r3 (ev_pos r4 (ev_neg (by omega) (ev_ret ?_))))))))
        rw [hu1, hu2, hu3, w64 (x := u1) (by omega) (by omega), w64 (x := u2) (by omega) (by omega), w64 (x := u1 * 131) (by omega) (by omega), w64 (x := u2 * 1117) (by omega) (by omega), w64 (x := u1 * 131 + u2 * 1117) (by omega) (by omega), w64 (x := p * 29) (by omega) (by omega),
          w64 (x := u1 * 131 + u2 * 1117 + p * 29) (by omega) (by omega), w64 (x := u3) (by omega) (by omega), w64 (x := u3 * 53) (by omega) (by omega), w64 (x := u1 * 131 + u2 * 1117 + p * 29 + u3 * 53) (by omega) (by omega), hx, w64 (x := Int.tdiv x 64) (by omega) (by omega)]
      obtain ⟨x, hx, hev⟩ := big
      exact ⟨_, fin x hx, hev⟩
  obtain ⟨v, hv, hk⟩ := key
  refine ⟨v, hv, ev_neg c ?_⟩
  have e2 : ((b.length : Int) == 0) = false := by simpa using e
  rw [e2]; exact hk
/-- what is drawn from: at most 2000 bytes of it -/
theorem open_ev (l : List Int) (h : ∀ x ∈ l, 0 ≤ x ∧ x ≤ 255) : ∃ b, Bytes b ∧ spec_l41Open.f l = some (b, 0) := by
  unfold spec_l41Open.f
  by_cases c : (l.length : Int) > 2000
  · refine ⟨l.take 2000, ⟨by simp; omega, fun i hi => ?_⟩, by rw [if_pos c, if_pos (by omega)]⟩
    exact h _ (List.mem_of_mem_take (mem_getD 0 _ i hi))
  · exact ⟨l, ⟨by omega, fun i hi => h _ (mem_getD 0 _ i hi)⟩, by rw [if_neg c]⟩
theorem bytes_of {l : List Int} (h : ∀ x ∈ l, (Lit.int .u8 x).wf = true) : ∀ x ∈ l, 0 ≤ x ∧ x ≤ 255 := fun x hx => by
  have := h x hx
  simpa [Lit.wf, IntKind.min, IntKind.max, IntKind.signed, IntKind.bits] using this
/-! ### what is drawn: some answer of a kind -/
def EvS {α : Type} (g : Nat → Option α) (Q : α → Prop) : Prop := ∃ r, Q r ∧ Ev g r
theorem evs_bind {α β : Type} {g : Nat → Option α} {f : Nat → α → Option β} {A : α → Prop} {Q : β → Prop} (h : EvS g A) (k : ∀ a, A a → EvS (fun n => f n a) Q) : EvS (fun n => (g n).bind (f n)) Q := by
  obtain ⟨a, ha, hg⟩ := h
  obtain ⟨r, hr, hf⟩ := k a ha
  exact ⟨r, hr, Ev.bind hg hf⟩
theorem evs_let {α β : Type} {g : Option α} {a : α} {f : Nat → α → Option β} {Q : β → Prop} (h : g = some a) (k : EvS (fun n => f n a) Q) : EvS (fun n => g.bind (f n)) Q := by
  subst h; exact k
theorem evs_split {α : Type} {c : Prop} {d : Decidable c} {g f : Nat → Option α} {Q : α → Prop} (h : c → EvS g Q) (k : ¬ c → EvS f Q) : EvS (fun n => @ite _ c d (g n) (f n)) Q := by
  by_cases q : c
  · obtain ⟨r, hr, e⟩ := h q; exact ⟨r, hr, ev_pos q e⟩
  · obtain ⟨r, hr, e⟩ := k q; exact ⟨r, hr, ev_neg q e⟩
theorem evs_pos {α : Type} {c : Prop} {d : Decidable c} {g f : Nat → Option α} {Q : α → Prop} (q : c) (h : EvS g Q) : EvS (fun n => @ite _ c d (g n) (f n)) Q := by
  obtain ⟨r, hr, e⟩ := h; exact ⟨r, hr, ev_pos q e⟩
theorem evs_ret {α : Type} {a : α} {Q : α → Prop} (h : Q a) : EvS (fun _ => some a) Q := ⟨a, h, Ev.now a⟩
theorem evs_step {α : Type} {g f : Nat → Option α} {Q : α → Prop} (h : ∀ k, g (k + 1) = f k) (k : EvS f Q) : EvS g Q := by
  obtain ⟨r, hr, e⟩ := k; exact ⟨r, hr, Ev.step h e⟩
theorem evs_mono {α : Type} {g : Nat → Option α} {A Q : α → Prop} (h : EvS g A) (k : ∀ a, A a → Q a) : EvS g Q := by
  obtain ⟨r, hr, e⟩ := h; exact ⟨r, k r hr, e⟩
theorem rdOf_nat {α : Type} (d : α) (xs : List α) (i : Nat) : rdOf d xs (i : Int) = xs.getD i d := by simp [rdOf]
theorem pick_s (b : List Int) (hb : Bytes b) (p n : Int) (hp : 0 ≤ p) (hp1 : p ≤ 1000000000) (hn : n ≤ 1000000000) :
    EvS (fun k => spec_l41Rd_pick.f k b p n) (fun r => (0 ≤ r.1 ∧ (1 ≤ n → r.1 < n) ∧ (n < 1 → r.1 = 0)) ∧ r.2 = p + 1) := by
  obtain ⟨v, hv, e⟩ := pick_ev b hb p n hp hp1 hn
  exact ⟨(v, p + 1), ⟨hv, rfl⟩, e⟩
/-- a text out of some -/
theorem of_s (b : List Int) (hb : Bytes b) (p : Int) (l : List ByteArray) (hp : 0 ≤ p) (hp1 : p ≤ 1000000000) (h0 : 0 < l.length) (h1 : l.length ≤ 1000000) :
    EvS (fun k => spec_l41Rd_of.f k b p l) (fun r => r.1 ∈ l ∧ r.2 = p + 1) := by
  unfold spec_l41Rd_of.f
  refine evs_bind (pick_s b hb p _ hp hp1 (by omega)) (fun a ha => ?_)
  have h2 := ha.1.2.1 (by omega)
  refine evs_pos ha.1.1 (evs_pos h2 (evs_ret ⟨?_, ha.2⟩))
  obtain ⟨n, hn⟩ : ∃ n : Nat, a.1 = (n : Int) := ⟨a.1.toNat, by omega⟩
  show rdOf ByteArray.empty l a.1 ∈ l
  rw [hn, rdOf_nat]
  exact mem_getD _ l n (by omega)
theorem l41In_is (a b c : Int) : spec_l41In.f a b c = some (decide (b ≤ a ∧ a ≤ c)) := by
  unfold spec_l41In.f
  by_cases h : a ≥ b
  · rw [if_pos h]; congr 1; apply decide_eq_decide.2; omega
  · rw [if_neg h]; congr 1; symm; apply decide_eq_false; omega
theorem l41NameOk_ev (s : ByteArray) : Ev (fun k => spec_l41NameOk.f k s) (nameB s) := by
  unfold spec_l41NameOk.f
  refine ev_let (l41In_is _ _ _) (ev_split (fun h => ?_) (fun h => ev_ret ?_))
  · have hs : 1 ≤ s.size ∧ s.size ≤ 8 := by have := of_decide_eq_true h; omega
    have key := down (P := fun i => Ev (fun k => spec_l41NameOk.l0 k s (i : Int)) (allFrom s i)) s.size
      (by
        refine Ev.step (fun k => by rw [spec_l41NameOk.l0]) ?_
        exact ev_neg (by omega) (ev_ret (allFrom_end s).symm))
      (fun i hi ih => by
        refine Ev.step (fun k => by rw [spec_l41NameOk.l0]) ?_
        refine ev_pos (by omega) (ev_pos (by omega) ?_)
        rw [wsucc hi (by omega), allFrom_step s i hi]
        have yes : okc (bt s (i : Int)) = true → Ev (fun k => spec_l41NameOk.l0 k s ((i + 1 : Nat) : Int)) (okc (bt s (i : Int)) && allFrom s (i + 1)) := fun q => by rw [q]; exact ih
        have no : okc (bt s (i : Int)) = false → Ev (fun _ => some false) (okc (bt s (i : Int)) && allFrom s (i + 1)) := fun q => by rw [q]; exact ev_ret rfl
        repeat' (first | exact yes (okc_of (by simp; omega)) | exact no (okc_of (by simp; omega)) | (refine ev_split (fun _ => ?_) (fun _ => ?_)))) 0 (Nat.zero_le _)
    refine ev_eq key ?_
    unfold nameB; rw [decide_eq_true hs]; rfl
  · have hs : ¬ (1 ≤ s.size ∧ s.size ≤ 8) := fun q => h (decide_eq_true (by omega))
    unfold nameB; rw [decide_eq_false hs]; rfl
theorem isName_ev (s : ByteArray) (hn : s.size ≤ 140737488351232) : Ev (fun k => impl_isName.f k s) (nameB s) := by
  unfold impl_isName.f
  have key := down (P := fun i => Ev (fun k => impl_isName.l0 k s (s.size : Int) (i : Int)) (decide (1 ≤ s.size ∧ s.size ≤ 8) && allFrom s i)) s.size
    (by
      refine Ev.step (fun k => by rw [impl_isName.l0]) ?_
      refine ev_neg (by omega) ?_
      rw [allFrom_end, Bool.and_true]
      refine ev_split (fun h => ev_ret (decide_eq_decide.2 (by omega))) (fun h => ev_ret ?_)
      symm; apply decide_eq_false; omega)
    (fun i hi ih => by
      refine Ev.step (fun k => by rw [impl_isName.l0]) ?_
      refine ev_pos (by omega) (ev_pos (by omega) (ev_pos (by omega) ?_))
      rw [wsucc hi (by omega), allFrom_step s i hi]
      have yes : okc (bt s (i : Int)) = true → Ev (fun k => impl_isName.l0 k s (s.size : Int) ((i + 1 : Nat) : Int)) (decide (1 ≤ s.size ∧ s.size ≤ 8) && (okc (bt s (i : Int)) && allFrom s (i + 1))) := fun q => by rw [q]; exact ih
      have no : okc (bt s (i : Int)) = false → Ev (fun _ => some false) (decide (1 ≤ s.size ∧ s.size ≤ 8) && (okc (bt s (i : Int)) && allFrom s (i + 1))) := fun q => by rw [q]; exact ev_ret (by simp)
      repeat' (first | exact yes (okc_of (by simp; omega)) | exact no (okc_of (by simp; omega)) | (refine ev_split (fun _ => ?_) (fun _ => ?_)))) 0 (Nat.zero_le _)
  exact key
/-! ### a phase alone -/
def endI (s : ByteArray) : Int := if s.toList = ([103, 111, 111, 100] : List UInt8) then 1 else (if s.toList = ([115, 97, 118, 101, 100] : List UInt8) then 2 else (if s.toList = ([115, 99, 114, 97, 112, 112, 101, 100] : List UInt8) then 3 else 0))
theorem specEnd_is (s : ByteArray) : spec_RecEnd.f s = some (endI s) := by
  unfold spec_RecEnd.f endI
  split
  · rfl
  · split
    · rfl
    · split <;> rfl
theorem implEnd_is (s : ByteArray) : impl_RecEnd.f s = some (endI s) := by
  unfold impl_RecEnd.f endI
  split
  · rfl
  · split
    · rfl
    · split <;> rfl
def argsB (kind : Int) (a b : ByteArray) (n within : Int) : Bool :=
  nameB a && ((decide (kind = 1) && (nameB b && decide (1 ≤ n ∧ n ≤ 1000))) || ((decide (kind = 2) && (nameB b && (decide (¬ a.toList = b.toList) && decide (1 ≤ n ∧ n ≤ 1000)))) ||
    ((decide (kind = 3) && (decide (b.toList = []) && decide (1 ≤ n ∧ n ≤ within))) || (decide (kind = 4 ∨ kind = 5) && (decide (b.toList = []) && decide (n = 0))))))
def phaseB (name : ByteArray) (kind : Int) (a b : ByteArray) (n within : Int) (th el : ByteArray) : Bool :=
  nameB name && (decide (endI name = 0) && (decide (1 ≤ within ∧ within ≤ 1000) && (argsB kind a b n within && (nameB th && nameB el))))
theorem l41ArgsOk_ev (f0 : ByteArray) (kind : Int) (a b : ByteArray) (n within : Int) (th el : ByteArray) : Ev (fun k => spec_l41ArgsOk.f k f0 kind a b n within th el) (argsB kind a b n within) := by
  unfold spec_l41ArgsOk.f
  repeat' (first | (refine ev_bool ?_; simp_all [argsB]; done) | (refine ev_bool ?_; simp_all [argsB]; omega) | refine Ev.bind (l41NameOk_ev _) ?_ | refine ev_let (l41In_is _ _ _) ?_ | (refine ev_split (fun _ => ?_) (fun _ => ?_)))
theorem specPhase_ev (f0 : ByteArray) (kind : Int) (a b : ByteArray) (n within : Int) (th el : ByteArray) : Ev (fun k => spec_RecPhaseOk.f k f0 kind a b n within th el) (phaseB f0 kind a b n within th el) := by
  have h1 : Ev (fun k => spec_l41PlainOk.f k f0) (nameB f0 && decide (endI f0 = 0)) := by
    unfold spec_l41PlainOk.f
    repeat' (first | (refine ev_bool ?_; simp_all; done) | refine Ev.bind (l41NameOk_ev _) ?_ | refine ev_let (specEnd_is _) ?_ | (refine ev_split (fun _ => ?_) (fun _ => ?_)))
  unfold spec_RecPhaseOk.f phaseB
  rw [← Bool.and_assoc]
  generalize (nameB f0 && decide (endI f0 = 0)) = q at h1
  repeat' (first | (refine ev_bool ?_; clear h1; simp_all; done) | (refine ev_bool ?_; clear h1; simp_all; intros; omega) | refine Ev.bind h1 ?_ | refine Ev.bind (l41ArgsOk_ev _ _ _ _ _ _ _ _) ?_ | refine Ev.bind (l41NameOk_ev _) ?_ | refine ev_let (l41In_is _ _ _) ?_ | (refine ev_split (fun _ => ?_) (fun _ => ?_)))
theorem implPhase_ev (f0 : ByteArray) (kind : Int) (a b : ByteArray) (n within : Int) (th el : ByteArray) (h0 : f0.size ≤ 140737488351232) (h1 : a.size ≤ 140737488351232) (h2 : b.size ≤ 140737488351232) (h3 : th.size ≤ 140737488351232) (h4 : el.size ≤ 140737488351232) :
    Ev (fun k => impl_RecPhaseOk.f k f0 kind a b n within th el) (phaseB f0 kind a b n within th el) := by
  have e0 := isName_ev f0 h0
  have e1 := isName_ev a h1
  have e2 := isName_ev b h2
  have e3 := isName_ev th h3
  have e4 := isName_ev el h4
  clear h0 h1 h2 h3 h4
  unfold impl_RecPhaseOk.f
  generalize hb0 : nameB f0 = b0 at e0
  generalize hb1 : nameB a = b1 at e1
  generalize hb2 : nameB b = b2 at e2
  generalize hb3 : nameB th = b3 at e3
  generalize hb4 : nameB el = b4 at e4
  unfold phaseB argsB
  rw [hb0, hb1, hb2, hb3, hb4]
  clear hb0 hb1 hb2 hb3 hb4
  repeat' (first | (refine ev_bool ?_; clear e0 e1 e2 e3 e4; simp_all; done) | (refine ev_bool ?_; clear e0 e1 e2 e3 e4; simp_all; intros; omega) | refine Ev.bind e0 ?_ | refine Ev.bind e1 ?_ | refine Ev.bind e2 ?_ | refine Ev.bind e3 ?_ | refine Ev.bind e4 ?_ | refine ev_let (implEnd_is _) ?_ | (refine ev_split (fun _ => ?_) (fun _ => ?_)) | refine Ev.step (fun k => by rw [impl_RecPhaseOk.j0]) ?_ | refine Ev.step (fun k => by rw [impl_RecPhaseOk.j1]) ?_)
theorem rd_impl_RecPhase (xs : List S35) (i : Nat) : rd_T35 xs (i : Int) = xs.getD i z35 := by simp [rd_T35]
/-! ### all from a place on -/
def fromB (p : Nat → Bool) (n i : Nat) : Bool := decide (∀ j, j < n → i ≤ j → p j = true)
theorem fromB_end (p : Nat → Bool) (n : Nat) : fromB p n n = true := by
  unfold fromB; rw [decide_eq_true_iff]; intro j h1 h2; omega
theorem fromB_step (p : Nat → Bool) (n i : Nat) (h : i < n) : fromB p n i = (p i && fromB p n (i + 1)) := by
  unfold fromB
  rw [Bool.eq_iff_iff, Bool.and_eq_true, decide_eq_true_iff, decide_eq_true_iff]
  refine ⟨fun q => ⟨q i h (Nat.le_refl _), fun j hj hi => q j hj (by omega)⟩, fun q j hj hi => ?_⟩
  by_cases e : j = i
  · rw [e]; exact q.1
  · exact q.2 j hj (by omega)
/-! ### recipes -/
def szOk (x : S35) : Prop := x.f0.size ≤ 140737488351232 ∧ x.f2.size ≤ 140737488351232 ∧ x.f3.size ≤ 140737488351232 ∧ x.f6.size ≤ 140737488351232 ∧ x.f7.size ≤ 140737488351232
def phB (x : S35) : Bool := phaseB x.f0 x.f1 x.f2 x.f3 x.f4 x.f5 x.f6 x.f7
/-- the place of a phase, from place i on -/
def atI (r : List S35) (s : ByteArray) (i : Nat) : Int := match (r.drop i).findIdx? (fun x => decide (x.f0.toList = s.toList)) with
  | some j => ((i + j : Nat) : Int)
  | none => -1
theorem atI_end (r : List S35) (s : ByteArray) : atI r s r.length = -1 := by simp [atI]
theorem atI_step (r : List S35) (s : ByteArray) (i : Nat) (h : i < r.length) : atI r s i = if (r.getD i z35).f0.toList = s.toList then (i : Int) else atI r s (i + 1) := by
  unfold atI
  rw [drop_cons z35 r i h, List.findIdx?_cons]
  by_cases c : (r.getD i z35).f0.toList = s.toList
  · rw [if_pos c, if_pos (by simpa using c)]; simp
  · rw [if_neg c, if_neg (by simpa using c)]
    cases (r.drop (i + 1)).findIdx? (fun x => decide (x.f0.toList = s.toList)) with
    | none => rfl
    | some j => simp only [Option.map_some]; congr 1; omega
theorem l42At_ev (r : List S35) (s : ByteArray) (hn : r.length ≤ 140737488351232) : Ev (fun k => spec_l42At.f k r s) (atI r s 0) := by
  unfold spec_l42At.f
  have key := down (P := fun i => Ev (fun k => spec_l42At.l0 k r s (i : Int)) (atI r s i)) r.length
    (by
      refine Ev.step (fun k => by rw [spec_l42At.l0]) ?_
      exact ev_neg (by omega) (ev_ret (atI_end r s).symm))
    (fun i hi ih => by
      refine Ev.step (fun k => by rw [spec_l42At.l0]) ?_
      refine ev_pos (by omega) (ev_pos (by omega) ?_)
      rw [wsucc hi (by omega), rd_impl_RecPhase, atI_step r s i hi]
      refine ev_split (fun c => ev_ret ?_) (fun c => ?_)
      · rw [if_pos c]
      · rw [if_neg c]; exact ih) 0 (Nat.zero_le _)
  exact key
theorem phase_ev (r : List S35) (s : ByteArray) (hn : r.length ≤ 140737488351232) : Ev (fun k => impl_phase.f k r s) (atI r s 0) := by
  unfold impl_phase.f
  have key := down (P := fun i => Ev (fun k => impl_phase.l0 k s r (r.length : Int) (i : Int)) (atI r s i)) r.length
    (by
      refine Ev.step (fun k => by rw [impl_phase.l0]) ?_
      exact ev_neg (by omega) (ev_ret (atI_end r s).symm))
    (fun i hi ih => by
      refine Ev.step (fun k => by rw [impl_phase.l0]) ?_
      refine ev_pos (by omega) (ev_pos (by omega) (ev_pos (by omega) ?_))
      rw [wsucc hi (by omega), rd_impl_RecPhase, atI_step r s i hi]
      refine ev_split (fun c => ev_ret ?_) (fun c => ?_)
      · rw [if_pos c]
      · rw [if_neg c]; exact ih) 0 (Nat.zero_le _)
  exact key
/-- a text that may come behind place i -/
def onB (r : List S35) (i : Nat) (s : ByteArray) : Bool := !(decide (endI s = 0) && decide (atI r s 0 ≤ (i : Int)))
def okAt (r : List S35) (i : Nat) : Bool := (phB (r.getD i z35) && decide (atI r (r.getD i z35).f0 0 = (i : Int))) && (onB r i (r.getD i z35).f6 && onB r i (r.getD i z35).f7)
def recB (r : List S35) : Bool := decide (1 ≤ r.length ∧ r.length ≤ 12) && decide (∀ i, i < r.length → okAt r i = true)
theorem recB_from (r : List S35) : recB r = (decide (1 ≤ r.length ∧ r.length ≤ 12) && fromB (okAt r) r.length 0) := by
  unfold recB fromB; congr 1; apply decide_eq_decide.2
  exact ⟨fun h j hj _ => h j hj, fun h j hj => h j hj (Nat.zero_le _)⟩
theorem specRecOk_ev (r : List S35) : Ev (fun k => spec_RecOk.f k r) (recB r) := by
  unfold spec_RecOk.f
  rw [recB_from]
  refine ev_let (l41In_is _ _ _) (ev_split (fun h => ?_) (fun h => ev_ret ?_))
  · have hs : 1 ≤ r.length ∧ r.length ≤ 12 := by have := of_decide_eq_true h; omega
    rw [decide_eq_true hs, Bool.true_and]
    refine down (P := fun i => Ev (fun k => spec_RecOk.l0 k r (i : Int)) (fromB (okAt r) r.length i)) r.length
      (by
        refine Ev.step (fun k => by rw [spec_RecOk.l0]) ?_
        exact ev_neg (by omega) (ev_ret (fromB_end _ _).symm))
      (fun i hi ih => ?_) 0 (Nat.zero_le _)
    refine Ev.step (fun k => by rw [spec_RecOk.l0]) ?_
    refine ev_pos (by omega) (ev_pos (by omega) ?_)
    rw [rd_impl_RecPhase, fromB_step _ _ _ hi]
    have e1 := specPhase_ev (r.getD i z35).f0 (r.getD i z35).f1 (r.getD i z35).f2 (r.getD i z35).f3 (r.getD i z35).f4 (r.getD i z35).f5 (r.getD i z35).f6 (r.getD i z35).f7
    have no : okAt r i = false → ∀ b : Bool, b = true → Ev (fun k => spec_RecOk.j1 k r (i : Int) b) (okAt r i && fromB (okAt r) r.length (i + 1)) := fun q b hb => by
      refine Ev.step (fun k => by rw [spec_RecOk.j1]) (ev_pos hb (ev_ret ?_))
      rw [q]; rfl
    have yes : (phB (r.getD i z35) && decide (atI r (r.getD i z35).f0 0 = (i : Int))) = true → ∀ b : Bool, b = false → Ev (fun k => spec_RecOk.j1 k r (i : Int) b) (okAt r i && fromB (okAt r) r.length (i + 1)) := fun q b hb => by
      refine Ev.step (fun k => by rw [spec_RecOk.j1]) (ev_neg (by simp [hb]) (ev_pos (by omega) (ev_pos (by omega) ?_)))
      rw [wsucc hi (by omega), rd_impl_RecPhase]
      generalize fromB (okAt r) r.length (i + 1) = R at ih ⊢
      unfold okAt onB
      rw [q, Bool.true_and]
      have a6 := l42At_ev r (r.getD i z35).f6 (by omega)
      have a7 := l42At_ev r (r.getD i z35).f7 (by omega)
      clear q e1 no
      generalize atI r (r.getD i z35).f6 0 = v6 at a6
      generalize atI r (r.getD i z35).f7 0 = v7 at a7
      repeat' (first | (refine ev_eq ih ?_; simp_all; done) | (refine ev_bool ?_; clear a6 a7 ih; simp_all; done) | refine Ev.bind a6 ?_ | refine Ev.bind a7 ?_ | refine ev_let (specEnd_is _) ?_ | (refine ev_split (fun _ => ?_) (fun _ => ?_)))
    refine Ev.bind e1 (ev_split (fun c => ?_) (fun c => ?_))
    · refine Ev.bind (l42At_ev r _ (by omega)) ?_
      by_cases q : atI r (r.getD i z35).f0 0 = (i : Int)
      · exact yes (by unfold phB; rw [c, decide_eq_true q]; rfl) _ (by rw [q]; simp)
      · exact no (by unfold okAt; rw [decide_eq_false q]; simp) _ (by simpa using q)
    · exact no (by unfold okAt phB; simp_all) _ rfl
  · have hs : ¬ (1 ≤ r.length ∧ r.length ≤ 12) := fun q => h (decide_eq_true (by omega))
    rw [decide_eq_false hs]; rfl
theorem implRecOk_ev (r : List S35) (hn : r.length ≤ 140737488351232) (hx : ∀ x ∈ r, szOk x) : Ev (fun k => impl_RecOk.f k r) (recB r) := by
  unfold impl_RecOk.f
  have bad : ¬ (1 ≤ r.length ∧ r.length ≤ 12) → ∀ b : Bool, b = true → Ev (fun k => impl_RecOk.j0 k r b) (recB r) := fun q b hb => by
    refine Ev.step (fun k => by rw [impl_RecOk.j0]) (ev_pos hb (ev_ret ?_))
    unfold recB; rw [decide_eq_false q]; rfl
  by_cases c1 : (r.length : Int) < 1
  · exact ev_pos c1 (bad (by omega) _ rfl)
  refine ev_neg c1 ?_
  by_cases c2 : (r.length : Int) > 12
  · exact bad (by omega) _ (decide_eq_true c2)
  refine Ev.step (fun k => by rw [impl_RecOk.j0]) (ev_neg (by simpa using c2) ?_)
  have hs : 1 ≤ r.length ∧ r.length ≤ 12 := by omega
  -- the second loop: what comes then, or else
  have second : (∀ i, i < r.length → (phB (r.getD i z35) && decide (atI r (r.getD i z35).f0 0 = (i : Int))) = true) → Ev (fun k => impl_RecOk.l1 k r r (r.length : Int) 0) (recB r) := fun hall => by
    rw [recB_from, decide_eq_true hs, Bool.true_and]
    refine down (P := fun i => Ev (fun k => impl_RecOk.l1 k r r (r.length : Int) (i : Int)) (fromB (okAt r) r.length i)) r.length
      (by
        refine Ev.step (fun k => by rw [impl_RecOk.l1]) ?_
        exact ev_neg (by omega) (ev_ret (fromB_end _ _).symm))
      (fun i hi ih => ?_) 0 (Nat.zero_le _)
    refine Ev.step (fun k => by rw [impl_RecOk.l1]) ?_
    refine ev_pos (by omega) (ev_pos (by omega) (ev_pos (by omega) ?_))
    refine ev_let rfl ?_
    rw [rd_impl_RecPhase, fromB_step _ _ _ hi]
    have hq := hall i hi
    have a6 := phase_ev r (r.getD i z35).f6 (by omega)
    have a7 := phase_ev r (r.getD i z35).f7 (by omega)
    have e2 : okAt r i = (onB r i (r.getD i z35).f6 && onB r i (r.getD i z35).f7) := by unfold okAt; rw [hq]; rfl
    rw [e2]
    clear e2 hq
    have third : Ev (fun k => impl_RecOk.l2 k r (i : Int) r (r.length : Int) (i : Int) [(r.getD i z35).f6, (r.getD i z35).f7] 2 2) (fromB (okAt r) r.length (i + 1)) := by
      refine Ev.step (fun k => by rw [impl_RecOk.l2]) (ev_neg (by omega) ?_)
      rw [wsucc hi (by omega)]; exact ih
    have step2 : ∀ (a : ByteArray) (b : ByteArray) (j : Nat) (v : Int), j < 2 → rdOf ByteArray.empty [a, b] (j : Int) = (if j = 0 then a else b) := fun a b j v hj => by
      rcases (by omega : j = 0 ∨ j = 1) with rfl | rfl <;> rfl
    have second2 : Ev (fun k => impl_RecOk.l2 k r (i : Int) r (r.length : Int) (i : Int) [(r.getD i z35).f6, (r.getD i z35).f7] 2 1) (onB r i (r.getD i z35).f7 && fromB (okAt r) r.length (i + 1)) := by
      refine Ev.step (fun k => by rw [impl_RecOk.l2]) (ev_pos (by omega) (ev_pos (by omega) (ev_pos (by simp) ?_)))
      rw [show rdOf ByteArray.empty [(r.getD i z35).f6, (r.getD i z35).f7] 1 = (r.getD i z35).f7 from rfl, show wrap64 (1 + 1) = 2 by unfold wrap64; rfl]
      unfold onB
      generalize atI r (r.getD i z35).f7 0 = v7 at a7
      clear a6 step2
      repeat' (first | (refine ev_eq third ?_; simp_all; done) | (refine ev_bool ?_; clear a7 ih third; simp_all; done) | refine Ev.bind a7 ?_ | refine ev_let (implEnd_is _) ?_ | (refine ev_split (fun _ => ?_) (fun _ => ?_)))
    refine Ev.step (fun k => by rw [impl_RecOk.l2]) (ev_pos (by simp) (ev_pos (by omega) (ev_pos (by simp) ?_)))
    rw [show rdOf ByteArray.empty [(r.getD i z35).f6, (r.getD i z35).f7] 0 = (r.getD i z35).f6 from rfl, show wrap64 (0 + 1) = 1 by unfold wrap64; rfl, Bool.and_assoc]
    have h6 : onB r i (r.getD i z35).f6 = !(decide (endI (r.getD i z35).f6 = 0) && decide (atI r (r.getD i z35).f6 0 ≤ (i : Int))) := rfl
    rw [h6]
    clear h6 third a7 step2
    generalize atI r (r.getD i z35).f6 0 = v6 at a6
    repeat' (first | (refine ev_eq second2 ?_; simp_all; done) | (refine ev_bool ?_; clear a6 ih second2; simp_all; done) | refine Ev.bind a6 ?_ | refine ev_let (implEnd_is _) ?_ | (refine ev_split (fun _ => ?_) (fun _ => ?_)))
  -- the first loop
  refine down (P := fun i => (∀ j, j < i → (phB (r.getD j z35) && decide (atI r (r.getD j z35).f0 0 = (j : Int))) = true) → Ev (fun k => impl_RecOk.l0 k r r (r.length : Int) (i : Int)) (recB r)) r.length
    (fun h => by
      refine Ev.step (fun k => by rw [impl_RecOk.l0]) ?_
      exact ev_neg (by omega) (second h))
    (fun i hi ih h => ?_) 0 (Nat.zero_le _) (fun j hj => by omega)
  refine Ev.step (fun k => by rw [impl_RecOk.l0]) ?_
  refine ev_pos (by omega) (ev_pos (by omega) (ev_pos (by omega) ?_))
  rw [rd_impl_RecPhase, wsucc hi (by omega)]
  have hz := hx _ (mem_getD z35 r i hi)
  have bad2 : ¬ ((phB (r.getD i z35) && decide (atI r (r.getD i z35).f0 0 = (i : Int))) = true) → false = recB r := fun q => by
    symm
    rw [Bool.eq_false_iff]
    intro hr
    unfold recB at hr
    rw [Bool.and_eq_true, decide_eq_true_iff, decide_eq_true_iff] at hr
    have := hr.2 i hi
    unfold okAt at this
    rw [Bool.and_eq_true] at this
    exact q this.1
  refine Ev.bind (implPhase_ev _ _ _ _ _ _ _ _ hz.1 hz.2.1 hz.2.2.1 hz.2.2.2.1 hz.2.2.2.2) (ev_split (fun c => ?_) (fun c => ev_ret (bad2 (fun q => c (by unfold phB at q; simp at q; exact q.1)))))
  refine Ev.bind (phase_ev r _ (by omega)) (ev_split (fun c2 => ih (fun j hj => ?_)) (fun c2 => ev_ret (bad2 (fun q => c2 (by simp at q; exact q.2)))))
  by_cases e : j = i
  · rw [e]; unfold phB; rw [c, decide_eq_true c2]; rfl
  · exact h j (by omega)
theorem phB_parts {x : S35} (h : phB x = true) : endI x.f0 = 0 ∧ 1 ≤ x.f5 ∧ x.f5 ≤ 1000 := by
  unfold phB phaseB at h
  simp only [Bool.and_eq_true, decide_eq_true_iff] at h
  exact ⟨h.2.1, h.2.2.1.1, h.2.2.1.2⟩
/-! ### drawn phases -/
def sm (s : ByteArray) : Prop := s.size ≤ 100
def smPh (r : ByteArray × Int × ByteArray × ByteArray × Int × Int × ByteArray × ByteArray) : Prop := (sm r.1 ∧ sm r.2.2.1 ∧ sm r.2.2.2.1 ∧ sm r.2.2.2.2.2.2.1 ∧ sm r.2.2.2.2.2.2.2) ∧ -10 ≤ r.2.2.2.2.2.1 ∧ r.2.2.2.2.2.1 ≤ 2000
theorem slot_s (b : List Int) (hb : Bytes b) (p : Int) (hp : 0 ≤ p) (hp1 : p ≤ 1000000) : EvS (fun k => spec_l45Slot.f k b p) (fun r => sm r.1 ∧ r.2 = p + 1) := by
  unfold spec_l45Slot.f
  refine evs_bind (of_s b hb p _ hp (by omega) (by simp) (by simp)) (fun a ha => evs_ret ⟨?_, ha.2⟩)
  have h1 := ha.1
  simp only [List.mem_cons, List.not_mem_nil, or_false] at h1
  show a.1.size ≤ 100
  rcases h1 with h | h | h | h | h <;> rw [h] <;> decide
def smPh2 (m : Int) (r : ByteArray × Int × ByteArray × ByteArray × Int × Int × ByteArray × ByteArray × Int) : Prop := (sm r.1 ∧ sm r.2.2.1 ∧ sm r.2.2.2.1 ∧ sm r.2.2.2.2.2.2.1 ∧ sm r.2.2.2.2.2.2.2.1) ∧ (-10 ≤ r.2.2.2.2.2.1 ∧ r.2.2.2.2.2.1 ≤ 2000) ∧ 0 ≤ r.2.2.2.2.2.2.2.2 ∧ r.2.2.2.2.2.2.2.2 ≤ m
theorem phaseJ_s (l : List ByteArray) (hl : l.length ≤ 100) (hls : ∀ s ∈ l, sm s) (b : List Int) (hb : Bytes b) (p : Int) (hp : 0 ≤ p) (hp1 : p ≤ 1000000) (a0 : ByteArray) (a1 : Int) (a2 a3 : ByteArray) (a4 a5 : Int) (a6 a7 : ByteArray) (h0 : sm a0) (h2 : sm a2) (h3 : sm a3) (h5 : -10 ≤ a5 ∧ a5 ≤ 2000) :
    EvS (fun k => spec_l45Phase.j0 k l b p a0 a1 a2 a3 a4 a5 a6 a7) (smPh2 (p + 3)) := by
  have ends : ∀ s, s ∈ ([(⟨#[103, 111, 111, 100]⟩ : ByteArray), (⟨#[115, 97, 118, 101, 100]⟩ : ByteArray), (⟨#[115, 99, 114, 97, 112, 112, 101, 100]⟩ : ByteArray)] : List ByteArray) ++ l → sm s := fun s hs => by
    rcases List.mem_append.1 hs with h | h
    · simp only [List.mem_cons, List.not_mem_nil, or_false] at h
      rcases h with h | h | h <;> rw [h] <;> (unfold sm; decide)
    · exact hls s h
  refine evs_step (fun k => by rw [spec_l45Phase.j0]) ?_
  refine evs_let rfl ?_
  refine evs_pos (by simp; omega) ?_
  refine evs_let rfl ?_
  have hel : 0 < (([(⟨#[103, 111, 111, 100]⟩ : ByteArray), (⟨#[115, 97, 118, 101, 100]⟩ : ByteArray), (⟨#[115, 99, 114, 97, 112, 112, 101, 100]⟩ : ByteArray)] : List ByteArray) ++ l).length ∧ (([(⟨#[103, 111, 111, 100]⟩ : ByteArray), (⟨#[115, 97, 118, 101, 100]⟩ : ByteArray), (⟨#[115, 99, 114, 97, 112, 112, 101, 100]⟩ : ByteArray)] : List ByteArray) ++ l).length ≤ 1000000 := by simp; omega
  generalize ([(⟨#[103, 111, 111, 100]⟩ : ByteArray), (⟨#[115, 97, 118, 101, 100]⟩ : ByteArray), (⟨#[115, 99, 114, 97, 112, 112, 101, 100]⟩ : ByteArray)] : List ByteArray) ++ l = e at ends hel ⊢
  refine evs_bind (of_s b hb p e hp (by omega) hel.1 hel.2) (fun x hx => evs_bind (of_s b hb x.2 e (by omega) (by omega) hel.1 hel.2) (fun y hy => ?_))
  have sx := ends _ hx.1
  have sy := ends _ hy.1
  refine evs_split (fun c => ?_) (fun _ => evs_ret ⟨⟨h0, h2, h3, sx, sy⟩, h5, by show 0 ≤ y.2; omega, by show y.2 ≤ p + 3; omega⟩)
  refine evs_bind (pick_s b hb y.2 4 (by omega) (by omega) (by omega)) (fun z hz => ?_)
  have hr : sm (rdOf ByteArray.empty l 0) := by
    show sm (l.getD 0 ByteArray.empty)
    exact hls _ (mem_getD _ l 0 (by omega))
  refine evs_split (fun _ => evs_pos c (evs_ret ⟨⟨h0, h2, h3, hr, sy⟩, h5, by show 0 ≤ z.2; omega, by show z.2 ≤ p + 3; omega⟩)) (fun _ => evs_ret ⟨⟨h0, h2, h3, sx, sy⟩, h5, by show 0 ≤ z.2; omega, by show z.2 ≤ p + 3; omega⟩)
theorem phase_s (b : List Int) (hb : Bytes b) (p : Int) (hp : 0 ≤ p) (hp1 : p ≤ 100000) (name : ByteArray) (hn : sm name) (l : List ByteArray) (hl : l.length ≤ 100) (hls : ∀ s ∈ l, sm s) :
    EvS (fun k => spec_l45Phase.f k b p name l) (smPh2 (p + 8)) := by
  have two : ∀ s, s ∈ ([(⟨#[97, 108, 101]⟩ : ByteArray), (⟨#[109, 97, 108, 116]⟩ : ByteArray)] : List ByteArray) → sm s := fun s h => by
    simp only [List.mem_cons, List.not_mem_nil, or_false] at h
    rcases h with h | h <;> rw [h] <;> (unfold sm; decide)
  have mono : ∀ (q : Int) r, q ≤ p + 5 → smPh2 (q + 3) r → smPh2 (p + 8) r := fun q r hq h => ⟨h.1, h.2.1, h.2.2.1, by have := h.2.2.2; omega⟩
  unfold spec_l45Phase.f
  refine evs_bind (pick_s b hb p 5 hp (by omega) (by omega)) (fun x hx => evs_bind (slot_s b hb x.2 (by omega) (by omega)) (fun y hy => evs_bind (pick_s b hb y.2 20 (by omega) (by omega) (by omega)) (fun z hz => ?_)))
  have hz2 := hz.1.2.1 (by omega)
  have hw : wrap64 (1 + z.1) = 1 + z.1 := w64 (by omega) (by omega)
  have h5 : -10 ≤ wrap64 (1 + z.1) ∧ wrap64 (1 + z.1) ≤ 2000 := by rw [hw]; omega
  have e0 : sm (⟨#[]⟩ : ByteArray) := by unfold sm; decide
  have vat : sm (⟨#[118, 97, 116]⟩ : ByteArray) := by unfold sm; decide
  refine evs_split (fun _ => ?_) (fun _ => evs_split (fun _ => ?_) (fun _ => evs_split (fun _ => ?_) (fun _ => ?_)))
  · refine evs_bind (of_s b hb z.2 _ (by omega) (by omega) (by simp) (by simp)) (fun u hu => evs_bind (pick_s b hb u.2 30 (by omega) (by omega) (by omega)) (fun v hv => ?_))
    exact evs_mono (phaseJ_s l hl hls b hb v.2 (by omega) (by omega) _ _ _ _ _ _ _ _ hn hy.1 (two _ hu.1) h5) (fun r => mono _ r (by omega))
  · refine evs_bind (slot_s b hb z.2 (by omega) (by omega)) (fun u hu => evs_split (fun _ => ?_) (fun _ => ?_))
    · exact evs_bind (pick_s b hb u.2 30 (by omega) (by omega) (by omega)) (fun v hv => evs_mono (phaseJ_s l hl hls b hb v.2 (by omega) (by omega) _ _ _ _ _ _ _ _ hn hy.1 vat h5) (fun r => mono _ r (by omega)))
    · exact evs_bind (pick_s b hb u.2 30 (by omega) (by omega) (by omega)) (fun v hv => evs_mono (phaseJ_s l hl hls b hb v.2 (by omega) (by omega) _ _ _ _ _ _ _ _ hn hy.1 hu.1 h5) (fun r => mono _ r (by omega)))
  · exact evs_bind (pick_s b hb z.2 _ (by omega) (by omega) (by omega)) (fun v hv => evs_mono (phaseJ_s l hl hls b hb v.2 (by omega) (by omega) _ _ _ _ _ _ _ _ hn hy.1 e0 h5) (fun r => mono _ r (by omega)))
  · exact evs_mono (phaseJ_s l hl hls b hb z.2 (by omega) (by omega) _ _ _ _ _ _ _ _ hn hy.1 e0 h5) (fun r => mono _ r (by omega))
theorem spoilPhase_s (b : List Int) (hb : Bytes b) (p : Int) (hp : 0 ≤ p) (hp1 : p ≤ 1000000) (a0 : ByteArray) (a1 : Int) (a2 a3 : ByteArray) (a4 a5 : Int) (a6 a7 : ByteArray) (h0 : sm a0) (h2 : sm a2) (h3 : sm a3) (h6 : sm a6) (h7 : sm a7) (h5 : -10 ≤ a5 ∧ a5 ≤ 2000) :
    EvS (fun k => spec_l45SpoilPhase.f k b p a0 a1 a2 a3 a4 a5 a6 a7) (smPh2 (p + 2)) := by
  unfold spec_l45SpoilPhase.f
  refine evs_bind (pick_s b hb p 8 hp (by omega) (by omega)) (fun x hx => ?_)
  have lit : ∀ (n : Nat) (s : ByteArray), s.size ≤ n → n ≤ 100 → sm s := fun n s h k => Nat.le_trans h k
  have hof : ∀ l : List ByteArray, 0 < l.length → l.length ≤ 100 → (∀ s ∈ l, sm s) → EvS (fun k => spec_l41Rd_of.f k b x.2 l) (fun r => sm r.1 ∧ r.2 = p + 2) := fun l g0 g1 gs =>
    evs_mono (of_s b hb x.2 l (by omega) (by omega) g0 (by omega)) (fun a ha => ⟨gs _ ha.1, by omega⟩)
  refine evs_split (fun _ => ?_) (fun _ => evs_split (fun _ => ?_) (fun _ => evs_split (fun _ => ?_) (fun _ => evs_split (fun _ => ?_) (fun _ => evs_split (fun _ => ?_) (fun _ => evs_split (fun _ => ?_) (fun _ => evs_split (fun _ => ?_) (fun _ => ?_)))))))
  · refine evs_bind (hof _ (by simp) (by simp) (fun s hs => ?_)) (fun u hu => evs_ret ⟨⟨hu.1, h2, h3, h6, h7⟩, h5, by show 0 ≤ u.2; omega, by show u.2 ≤ p + 2; omega⟩)
    simp only [List.mem_cons, List.not_mem_nil, or_false] at hs
    rcases hs with h | h | h | h | h <;> rw [h] <;> (unfold sm; decide)
  · exact evs_bind (pick_s b hb x.2 8 (by omega) (by omega) (by omega)) (fun u hu => evs_ret ⟨⟨h0, h2, h3, h6, h7⟩, h5, by show 0 ≤ u.2; omega, by show u.2 ≤ p + 2; omega⟩)
  · refine evs_bind (hof _ (by simp) (by simp) (fun s hs => ?_)) (fun u hu => evs_ret ⟨⟨h0, hu.1, h3, h6, h7⟩, h5, by show 0 ≤ u.2; omega, by show u.2 ≤ p + 2; omega⟩)
    simp only [List.mem_cons, List.not_mem_nil, or_false] at hs
    rcases hs with h | h | h | h <;> rw [h] <;> first | exact h3 | (unfold sm; decide)
  · refine evs_bind (hof _ (by simp) (by simp) (fun s hs => ?_)) (fun u hu => evs_ret ⟨⟨h0, h2, hu.1, h6, h7⟩, h5, by show 0 ≤ u.2; omega, by show u.2 ≤ p + 2; omega⟩)
    simp only [List.mem_cons, List.not_mem_nil, or_false] at hs
    rcases hs with h | h | h | h <;> rw [h] <;> first | exact h2 | (unfold sm; decide)
  · refine evs_let rfl (evs_bind (pick_s b hb x.2 7 (by omega) (by omega) (by omega)) (fun u hu => evs_pos hu.1.1 (evs_pos ?_ (evs_ret ⟨⟨h0, h2, h3, h6, h7⟩, h5, by show 0 ≤ u.2; omega, by show u.2 ≤ p + 2; omega⟩))))
    have := hu.1.2.1 (by omega); simp; omega
  · refine evs_let rfl (evs_bind (pick_s b hb x.2 5 (by omega) (by omega) (by omega)) (fun u hu => ?_))
    have hu2 := hu.1.2.1 (by omega)
    refine evs_pos hu.1.1 (evs_pos (by simp; omega) (evs_ret ⟨⟨h0, h2, h3, h6, h7⟩, ?_, by show 0 ≤ u.2; omega, by show u.2 ≤ p + 2; omega⟩))
    show -10 ≤ rd [(-1), 0, 1, 1000, 1001] u.1 ∧ rd [(-1), 0, 1, 1000, 1001] u.1 ≤ 2000
    have hu1 := hu.1.1
    rcases (by omega : u.1 = 0 ∨ u.1 = 1 ∨ u.1 = 2 ∨ u.1 = 3 ∨ u.1 = 4) with h | h | h | h | h <;> rw [h] <;> decide
  · refine evs_bind (hof _ (by simp) (by simp) (fun s hs => ?_)) (fun u hu => evs_ret ⟨⟨h0, h2, h3, hu.1, h7⟩, h5, by show 0 ≤ u.2; omega, by show u.2 ≤ p + 2; omega⟩)
    simp only [List.mem_cons, List.not_mem_nil, or_false] at hs
    rcases hs with h | h | h | h | h <;> rw [h] <;> (unfold sm; decide)
  · refine evs_bind (hof _ (by simp) (by simp) (fun s hs => ?_)) (fun u hu => evs_ret ⟨⟨h0, h2, h3, h6, hu.1⟩, h5, by show 0 ≤ u.2; omega, by show u.2 ≤ p + 2; omega⟩)
    simp only [List.mem_cons, List.not_mem_nil, or_false] at hs
    rcases hs with h | h | h | h | h <;> rw [h] <;> (unfold sm; decide)
theorem drawPhase_s (l : List Int) (h : ∀ x ∈ l, 0 ≤ x ∧ x ≤ 255) : EvS (fun k => spec_DrawRecPhaseOk.f k l) smPh := by
  obtain ⟨b, hb, ho⟩ := open_ev l h
  unfold spec_DrawRecPhaseOk.f
  have nm : ∀ s, s ∈ ([(⟨#[98, 114, 101, 119]⟩ : ByteArray), (⟨#[102, 49]⟩ : ByteArray), (⟨#[102, 50]⟩ : ByteArray), (⟨#[103]⟩ : ByteArray), (⟨#[104]⟩ : ByteArray), (⟨#[109, 97, 115, 104]⟩ : ByteArray), (⟨#[114, 101, 115, 116]⟩ : ByteArray), (⟨#[120, 45, 57]⟩ : ByteArray)] : List ByteArray) → sm s := fun s hs => by
    simp only [List.mem_cons, List.not_mem_nil, or_false] at hs
    rcases hs with h | h | h | h | h | h | h | h <;> rw [h] <;> (unfold sm; decide)
  refine evs_let ho (evs_let rfl (evs_bind (of_s b hb 0 _ (by omega) (by omega) (by simp) (by simp)) (fun x hx => ?_)))
  refine evs_bind (phase_s b hb x.2 (by omega) (by omega) _ (nm _ hx.1) _ (by simp) (fun s hs => ?_)) (fun y hy => ?_)
  · simp only [List.mem_cons, List.not_mem_nil, or_false] at hs
    rw [hs]; unfold sm; decide
  obtain ⟨⟨s0, s2, s3, s6, s7⟩, s5, p0, p1⟩ := hy
  refine evs_bind (pick_s b hb _ 2 p0 (by omega) (by omega)) (fun z hz => evs_split (fun _ => ?_) (fun _ => evs_ret ⟨⟨s0, s2, s3, s6, s7⟩, s5⟩))
  exact evs_bind (spoilPhase_s b hb z.2 (by omega) (by omega) _ _ _ _ _ _ _ _ s0 s2 s3 s6 s7 s5) (fun u hu => evs_ret ⟨hu.1, hu.2.1⟩)
theorem recB_one (x : S35) : recB [x] = (phB x && (decide (¬ endI x.f6 = 0) && decide (¬ endI x.f7 = 0))) := by
  have at0 : ∀ s : ByteArray, atI [x] s 0 = if x.f0.toList = s.toList then 0 else -1 := fun s => by
    rw [atI_step [x] s 0 (by simp)]
    rfl
  have e : recB [x] = okAt [x] 0 := by
    rw [Bool.eq_iff_iff]
    unfold recB
    rw [Bool.and_eq_true, decide_eq_true_iff, decide_eq_true_iff]
    refine ⟨fun h => h.2 0 (by simp), fun h => ⟨by simp, fun i hi => ?_⟩⟩
    obtain rfl : i = 0 := by simpa using hi
    exact h
  rw [e]
  have on : ∀ s : ByteArray, phB x = true → onB [x] 0 s = decide (¬ endI s = 0) := fun s hp => by
    unfold onB
    rw [at0]
    have : (if x.f0.toList = s.toList then (0 : Int) else -1) ≤ ((0 : Nat) : Int) := by split <;> omega
    rw [decide_eq_true this, Bool.and_true]
    simp
  unfold okAt
  show ((phB x && decide (atI [x] x.f0 0 = ((0 : Nat) : Int))) && (onB [x] 0 x.f6 && onB [x] 0 x.f7)) = (phB x && (decide (¬ endI x.f6 = 0) && decide (¬ endI x.f7 = 0)))
  rw [at0, if_pos rfl]
  cases hp : phB x
  · rfl
  · rw [on _ hp, on _ hp]; rfl
theorem FnRecPhase : laws_FnRecPhase.Pure := by
  intro code _ hc hw
  refine Ev.rounds ?_
  unfold laws_FnRecPhase.f
  refine ev_split (fun _ => ev_ret rfl) (fun _ => ?_)
  obtain ⟨⟨f0, kind, a, b, n, w, th, el⟩, ⟨⟨h0, h2, h3, h6, h7⟩, _⟩, hd⟩ := drawPhase_s code (bytes_of hw)
  have h0' : f0.size ≤ 100 := h0
  have h2' : a.size ≤ 100 := h2
  have h3' : b.size ≤ 100 := h3
  have h6' : th.size ≤ 100 := h6
  have h7' : el.size ≤ 100 := h7
  refine Ev.bind hd ?_
  show Ev (fun k => (impl_RecPhaseOk.f k f0 kind a b n w th el).bind _) true
  have hsz : ∀ x ∈ [(⟨f0, kind, a, b, n, w, th, el⟩ : S35)], szOk x := fun x hx => by
    rw [List.mem_singleton] at hx
    subst hx
    exact ⟨by show f0.size ≤ _; omega, by show a.size ≤ _; omega, by show b.size ≤ _; omega, by show th.size ≤ _; omega, by show el.size ≤ _; omega⟩
  have e1 := implRecOk_ev [(⟨f0, kind, a, b, n, w, th, el⟩ : S35)] (by simp) hsz
  have e2 := specRecOk_ev [(⟨f0, kind, a, b, n, w, th, el⟩ : S35)]
  rw [recB_one] at e1 e2
  have e3 := implPhase_ev f0 kind a b n w th el (by omega) (by omega) (by omega) (by omega) (by omega)
  have e4 := specPhase_ev f0 kind a b n w th el
  have hph : phB (⟨f0, kind, a, b, n, w, th, el⟩ : S35) = phaseB f0 kind a b n w th el := rfl
  rw [hph] at e1 e2
  have hend : phaseB f0 kind a b n w th el = true → endI f0 = 0 := fun h => (phB_parts (x := ⟨f0, kind, a, b, n, w, th, el⟩) h).1
  refine Ev.bind e3 (Ev.bind e1 (Ev.bind e4 (ev_pos (by simp) (Ev.bind e2 (ev_pos (by simp) ?_)))))
  have pos : ∀ s : ByteArray, (endI s > 0 ↔ ¬ endI s = 0) := fun s => by
    unfold endI
    split
    · omega
    · split
      · omega
      · split <;> omega
  generalize phaseB f0 kind a b n w th el = P at hend ⊢
  cases P
  · exact ev_neg (by simp) (ev_pos (by simp) (ev_ret rfl))
  refine ev_pos rfl (ev_let (implEnd_is _) (ev_split (fun c => ?_) (fun c => ?_)))
  · refine ev_let (implEnd_is _) ?_
    have c' : endI th > 0 := c
    have c1 : ¬ endI th = 0 := (pos th).1 c'
    refine ev_pos ?_ (ev_let (implEnd_is _) (ev_ret ?_))
    · show ((true && (decide (¬ endI th = 0) && decide (¬ endI el = 0))) == decide (endI el > 0)) = true
      rw [decide_eq_true c1, decide_eq_decide.2 (pos el)]
      generalize decide (¬ endI el = 0) = q
      cases q <;> rfl
    · show (endI f0 == 0) = true
      rw [hend rfl]; rfl
  · have c1 : endI th = 0 := by
      have c' : ¬ endI th > 0 := c
      have := pos th; omega
    refine ev_pos ?_ (ev_let (implEnd_is _) (ev_ret ?_))
    · show ((true && (decide (¬ endI th = 0) && decide (¬ endI el = 0))) == false) = true
      rw [decide_eq_false (fun q => q c1)]; rfl
    · show (endI f0 == 0) = true
      rw [hend rfl]; rfl
end Go.Proofs.Ytccbknhhgnefmaa.Pure
