import Derived.Test.YtnobkcplpbkigaaGreatDoorZFnPlantText1
namespace Go.Proofs.YtnobkcplpbkigaaGreatDoor.Pure
open Go Go.RowKit Go.Aw Go.Proofs.YtnobkcplpbkigaaGreatDoor.PT
set_option linter.unusedVariables false
set_option linter.unusedSimpArgs false
def tot : List ByteArray → Nat
  | [] => 0
  | x :: r => x.size + 1 + tot r
theorem lN : ∀ a b : List ByteArray, tot (a ++ b) = tot a + tot b
  | [], b => by simp [tot]
  | x :: a, b => by rw [List.cons_append, tot, lN a b, tot]; omega
theorem wN (l : List ByteArray) (n : Nat) : tot (l.take n) + tot (l.drop n) = tot l := by rw [← lN, List.take_append_drop]
theorem aDB (x : ByteArray) : tot [x] = x.size + 1 := rfl
theorem lI : ∀ l : List ByteArray, l.length ≤ tot l
  | [] => Nat.le_refl _
  | x :: r => by have := lI r; simp only [tot, List.length_cons]; omega
theorem aCB : ∀ (l : List ByteArray), ∀ x ∈ l, x.size + 1 ≤ tot l
  | y :: r, x, hx => by
    simp only [tot]
    rcases List.mem_cons.1 hx with rfl | hx
    · omega
    · have := aCB r x hx; omega
theorem aCG : ∀ (l : List ByteArray) (i : Nat) (x : ByteArray), tot (l.set i x) ≤ tot l + x.size
  | [], i, x => by simp [tot]
  | y :: r, 0, x => by simp only [List.set_cons_zero, tot]; omega
  | y :: r, i + 1, x => by have := aCG r i x; simp only [List.set_cons_succ, tot]; omega
theorem qJ : ∀ (l cur : List UInt8), tot (hU cur l) ≤ cur.length + l.length + 1
  | [], cur => by
    unfold hU
    split
    · simp [tot]
    · simp [tot, gM]
  | b :: l, cur => by
    unfold hU
    split
    · have := qJ l []
      simp only [tot, gM, List.length_cons, List.length_nil] at this ⊢; omega
    · have := qJ l (cur ++ [b])
      simp only [List.length_append, List.length_cons, List.length_nil] at this ⊢; omega
abbrev TT := List ByteArray × List Int × Int
def QT (b : List Int) (M : Nat) (lo hi : Int) (t : TT) : Prop := tot t.1 ≤ M ∧ t.2.1 = b ∧ lo ≤ t.2.2 ∧ t.2.2 ≤ hi
theorem qI {b : List Int} {M M' : Nat} {lo lo' hi hi' : Int} {t : TT} (h : QT b M lo hi t) (hM : M ≤ M') (h1 : lo' ≤ lo) (h2 : hi ≤ hi') : QT b M' lo' hi' t := ⟨by have := h.1; omega, h.2.1, by have := h.2.2.1; omega, by have := h.2.2.2; omega⟩
theorem tX (d : ByteArray) : ∀ (l : List ByteArray) (i : Nat) (x : ByteArray), i < l.length → tot (l.set i x) + (l.getD i d).size = tot l + x.size
  | [], i, x, h => by simp at h
  | y :: r, 0, x, h => by simp only [List.set_cons_zero, tot, List.getD_cons_zero]; omega
  | y :: r, i + 1, x, h => by
    have := tX d r i x (by simpa using h)
    simp only [List.set_cons_succ, tot, List.getD_cons_succ]; omega
theorem aHY (d : ByteArray) (l : List ByteArray) (i : Nat) (h : i + 1 < l.length) : tot ((l.set i (l.getD (i + 1) d)).set (i + 1) (l.getD i d)) = tot l := by
  have h1 := tX d l i (l.getD (i + 1) d) (by omega)
  have h2 := tX d (l.set i (l.getD (i + 1) d)) (i + 1) (l.getD i d) (by simpa using h)
  rw [sT d l i (i + 1) _ (by omega), if_neg (by omega)] at h2
  omega
theorem aFN {s : List ByteArray} {f : List aD} {p : List aB} {v : List aA} : (kZ s f p v).size ≤ 6552 := by
  unfold kZ
  split
  · rename_i h
    have h := wW.1 h
    have hd : (kT s f p v).data.toList = lnL (s.map iK ++ (f.map iG ++ (p.map iL ++ v.map hQ))) := by
      unfold kT
      rw [kC iH hQ zG, kC iN iL yF, kC jO iG yY, kC kJ iK zS, oU, oU, oU]
      simp
    have hok : ∀ ws ∈ s.map iK ++ (f.map iG ++ (p.map iL ++ v.map hQ)), mQ ws := fun ws hw => by
      simp only [List.mem_append, List.mem_map] at hw
      rcases hw with ⟨x, hx, rfl⟩ | ⟨x, hx, rfl⟩ | ⟨x, hx, rfl⟩ | ⟨x, hx, rfl⟩
      · exact okS h x hx
      · exact okF h x hx
      · exact okP h x hx
      · exact okV h x hx
    have hlen : (s.map iK ++ (f.map iG ++ (p.map iL ++ v.map hQ))).length ≤ 52 := by
      have := h.ls; have := h.lf; have := h.lp; have := h.lv
      simp only [List.length_append, List.length_map]; omega
    have hsz := wZ _ hok
    rw [← hd, iB] at hsz
    omega
  · show 0 ≤ 6552; omega
theorem wF {m : Nat} (hm : m ≤ 100) {s : List ByteArray} {f : List aD} {p : List aB} {v : List aA} (h : PD m s f p v) : Ev (fun k => aS.f k s f p v) (kZ s f p v) := by
  have hS := wQ s f p v (by have := h.ls; omega) (by have := h.lf; omega) (by have := h.lp; omega) (by have := h.lv; omega)
  have hv := @aBR s f p v
  unfold aS.f kZ
  generalize lE s f p v = b at *
  refine Ev.bind hS ?_
  cases b
  · exact bT (by simp) (aX rfl)
  · exact aO rfl (aMY _ _ _ _ (hv rfl) _ (by rw [z0]; omega))
theorem tM {b : List Int} (hb : iE b) : ∀ (m : Nat) (l : List ByteArray) (p : Int), m ≤ 10 → tot l ≤ 100000 → 0 ≤ p → p + m ≤ 1000000 → ExP (fun k => cC.l1 k l (m : Int) b p) (QT b (tot l) p (p + m))
  | 0, l, p, hm, hl, h0, hp => by
    refine bU (fun k => by rw [cC.l1]) (dP (by omega) (dF ⟨by dsimp only; omega, rfl, by dsimp only; omega, by dsimp only; omega⟩))
  | m + 1, l, p, hm, hl, h0, hp => by
    have hll := lI l
    refine bU (fun k => by rw [cC.l1]) (bA (by omega) (cO (fun c => ?_) (fun _ => dF ⟨by dsimp only; omega, rfl, by dsimp only; omega, by dsimp only; omega⟩)))
    rw [show wrap64 ((l.length : Int) - 1) = (l.length : Int) - 1 from w64 (by omega) (by omega)]
    obtain ⟨u, ⟨v0, v1, _⟩, e⟩ := eY hb p ((l.length : Int) - 1) (by omega) (by omega) (by omega)
    have v1 := v1 (by omega)
    obtain ⟨n, rfl⟩ : ∃ n : Nat, u = (n : Int) := ⟨u.toNat, by omega⟩
    refine cU e ?_
    dsimp only
    rw [show wrap64 ((n : Int) + 1) = ((n + 1 : Nat) : Int) by unfold wrap64; omega, show wrap64 (((m + 1 : Nat) : Int) - 1) = (m : Int) by unfold wrap64; omega, eZ, eZ, Int.toNat_natCast, Int.toNat_natCast]
    have same := lW (tM hb m l (p + 1) (by omega) (by omega) (by omega) (by omega)) (fun q hq => qI (lo' := p) (hi' := p + ((m + 1 : Nat) : Int)) hq (Nat.le_refl _) (by omega) (by omega))
    have ht := aHY ByteArray.empty l n (by omega)
    have sw := tM hb m ((l.set n (l.getD (n + 1) ByteArray.empty)).set (n + 1) (l.getD n ByteArray.empty)) (p + 1) (by omega) (by rw [ht]; omega) (by omega) (by omega)
    rw [ht] at sw
    have sw := lW sw (fun q hq => qI (lo' := p) (hi' := p + ((m + 1 : Nat) : Int)) hq (Nat.le_refl _) (by omega) (by omega))
    exact bA (by omega) (bA (by omega) (cO (fun z1 => bA (by omega) (bA (by omega) (cO (fun z2 => bA (by omega) (bA (by omega) (cO (fun _ => sw) (fun _ => same)))) (fun _ => same)))) (fun _ => same)))
theorem yM {b : List Int} (hb : iE b) : ∀ (m : Nat) (l : List ByteArray) (p : Int), m ≤ 10 → tot l + 20 * m ≤ 100000 → 0 ≤ p → p + 2 * m + 9 ≤ 1000000 → ExP (fun k => cC.l0 k l (m : Int) b p) (QT b (tot l + 20 * m) p (p + 2 * m + 9))
  | 0, l, p, hm, hl, h0, hp => by
    refine bU (fun k => by rw [cC.l0]) (dP (by omega) ?_)
    obtain ⟨v, ⟨v0, v1, _⟩, e⟩ := eY hb p 9 (by omega) (by omega) (by omega)
    have v1 := v1 (by omega)
    obtain ⟨n, rfl⟩ : ∃ n : Nat, v = (n : Int) := ⟨v.toNat, by omega⟩
    refine cU e ?_
    dsimp only
    exact lW (tM hb n l (p + 1) (by omega) (by omega) (by omega) (by omega)) (fun q hq => qI hq (by omega) (by omega) (by omega))
  | m + 1, l, p, hm, hl, h0, hp => by
    have hll := lI l
    refine bU (fun k => by rw [cC.l0]) (bA (by omega) ?_)
    rw [show wrap64 ((l.length : Int) + 1) = (l.length : Int) + 1 from w64 (by omega) (by omega)]
    obtain ⟨v, ⟨v0, v1, _⟩, e⟩ := eY hb p ((l.length : Int) + 1) (by omega) (by omega) (by omega)
    have v1 := v1 (by omega)
    obtain ⟨n, rfl⟩ : ∃ n : Nat, v = (n : Int) := ⟨v.toNat, by omega⟩
    refine cU e ?_
    dsimp only
    rw [Int.toNat_natCast]
    refine bA (by omega) (bA (by omega) (bA (by omega) ?_))
    obtain ⟨s, hs, e2⟩ := kK hb (p + 1) (by omega) (by omega) ([(⟨#[]⟩ : ByteArray), (⟨#[32, 32]⟩ : ByteArray), (⟨#[35, 32, 110, 111, 116, 104, 105, 110, 103]⟩ : ByteArray)] : List ByteArray) (by decide) (by decide)
    have hsz : s.size ≤ 9 := by
      simp only [List.mem_cons, List.mem_nil_iff, or_false] at hs
      rcases hs with rfl | rfl | rfl <;> decide
    refine cU e2 ?_
    dsimp only
    refine bA (by omega) (bA (by omega) ?_)
    rw [show wrap64 (((m + 1 : Nat) : Int) - 1) = (m : Int) by unfold wrap64; omega]
    have ht : tot ((([] ++ l.take n) ++ [s]) ++ l.drop n) ≤ tot l + 10 := by
      have := wN l n
      rw [List.nil_append, lN, lN]; simp only [tot]; omega
    refine lW (yM hb m _ (p + 1 + 1) (by omega) (by omega) (by omega) (by omega)) (fun q hq => qI hq (by omega) (by omega) (by omega))
theorem aFK {b : List Int} (hb : iE b) : ExP (fun k => cC.f k b 0) (QT b 7000 0 110000) := by
  unfold cC.f
  refine eD (aDX hb) (fun t ht => ?_)
  obtain ⟨a1, a4, a5, a6⟩ := ht
  refine fM (wF (by omega) a1) ?_
  have hsz := @aFN t.1 t.2.1 t.2.2.1 t.2.2.2.1
  generalize kZ t.1 t.2.1 t.2.2.1 t.2.2.2.1 = T at *
  refine fM (tT T (by omega)) ?_
  have htot := qJ T.data.toList []
  rw [iB] at htot
  rw [a4]
  obtain ⟨v, ⟨v0, v1, _⟩, e⟩ := eY hb t.2.2.2.2.2 3 (by omega) (by omega) (by omega)
  have v1 := v1 (by omega)
  obtain ⟨n, rfl⟩ : ∃ n : Nat, v = (n : Int) := ⟨v.toNat, by omega⟩
  refine cU e ?_
  dsimp only
  simp only [List.length_nil] at htot
  refine lW (yM hb n _ (t.2.2.2.2.2 + 1) (by omega) (by omega) (by omega) (by omega)) (fun q hq => qI hq (by omega) (by omega) (by omega))
theorem qH (b : List Int) (l : List ByteArray) (p : Int) (M : Nat) (lo hi : Int) (h : tot l ≤ M) (h1 : lo ≤ p) (h2 : p ≤ hi) : ExP (fun k => bD.j0 k l b p) (QT b M lo hi) :=
  bU (fun k => by rw [bD.j0]) (dF ⟨h, rfl, h1, h2⟩)
theorem aKB (t : Int × List Int × Int) (M : Nat) (lo hi : Int) (h1 : lo ≤ t.2.2) (h2 : t.2.2 ≤ hi) : ∀ (m : Nat) (l : List ByteArray) (i : Nat), i + m = 16 → tot l + 200 * m ≤ M → M ≤ 1000000 → ExP (fun k => bD.l0 k l (i : Int) t) (QT t.2.1 M lo hi)
  | 0, l, i, hi', hM, hM2 => by
    refine bU (fun k => by rw [bD.l0]) (dP (by omega) (qH _ l _ M lo hi (by omega) h1 h2))
  | m + 1, l, i, hi', hM, hM2 => by
    have hll := lI l
    refine bU (fun k => by rw [bD.l0]) (bA (by omega) ?_)
    refine fM (gN i (i : Int) (by omega) (by omega) (by omega)) ?_
    have hds := pY (n := (i : Int)) (by omega) (by omega)
    have z1 : (⟨#[106, 111, 105, 110, 116, 32, 121]⟩ : ByteArray).size = 7 := rfl
    have z2 : (⟨#[32, 115]⟩ : ByteArray).size = 2 := rfl
    refine bA (by omega) (bA (by rw [ByteArray.size_append]; omega) (bA (by omega) ?_))
    rw [dN (n := 100) (by omega) (by omega)]
    refine aKB t M lo hi h1 h2 m _ (i + 1) (by omega) ?_ hM2
    rw [lN, aDB, ByteArray.size_append, ByteArray.size_append]; omega
theorem aKJ (l1 : List ByteArray) (t : Int × List Int × Int) (M : Nat) (lo hi : Int) (h1 : lo ≤ t.2.2) (h2 : t.2.2 ≤ hi) : ∀ (m : Nat) (l : List ByteArray) (i : Nat), i + m = 9 → tot l + 200 * m ≤ M → M ≤ 1000000 → ExP (fun k => bD.l1 k l1 l (i : Int) t) (QT t.2.1 M lo hi)
  | 0, l, i, hi', hM, hM2 => by
    refine bU (fun k => by rw [bD.l1]) (dP (by omega) (qH _ l _ M lo hi (by omega) h1 h2))
  | m + 1, l, i, hi', hM, hM2 => by
    have hll := lI l
    refine bU (fun k => by rw [bD.l1]) (bA (by omega) ?_)
    refine fM (gN i (i : Int) (by omega) (by omega) (by omega)) ?_
    have hds := pY (n := (i : Int)) (by omega) (by omega)
    have z1 : (⟨#[115, 116, 117, 102, 102, 32, 121]⟩ : ByteArray).size = 7 := rfl
    refine bA (by omega) (bA (by omega) ?_)
    rw [dN (n := 100) (by omega) (by omega)]
    refine aKJ l1 t M lo hi h1 h2 m _ (i + 1) (by omega) ?_ hM2
    rw [lN, aDB, ByteArray.size_append]; omega
theorem aKQ (t : Int × List Int × Int) (v : Int) (hv : t.1 = v) (v0 : 0 ≤ v) (v1 : v < 2) (M : Nat) (lo hi : Int) (h1 : lo ≤ t.2.2) (h2 : t.2.2 ≤ hi) : ∀ (m : Nat) (l : List ByteArray), (200 + v).toNat - l.length ≤ m → tot l + 2 * m ≤ M → M ≤ 1000000 → ExP (fun k => bD.l2 k l t) (QT t.2.1 M lo hi)
  | 0, l, hm, hM, hM2 => by
    have hw : wrap64 (200 + t.1) = 200 + v := by rw [hv]; exact w64 (by omega) (by omega)
    refine bU (fun k => by rw [bD.l2]) ?_
    rw [hw]
    exact dP (by omega) (qH _ l _ M lo hi (by omega) h1 h2)
  | m + 1, l, hm, hM, hM2 => by
    have hll := lI l
    have hw : wrap64 (200 + t.1) = 200 + v := by rw [hv]; exact w64 (by omega) (by omega)
    refine bU (fun k => by rw [bD.l2]) ?_
    rw [hw]
    refine cO (fun c => bA (by omega) ?_) (fun c => qH _ l _ M lo hi (by omega) h1 h2)
    refine aKQ t v hv v0 v1 M lo hi h1 h2 m _ (by simp; omega) ?_ hM2
    have z1 : (⟨#[35]⟩ : ByteArray).size = 1 := rfl
    rw [lN]; simp only [tot]; omega
theorem aIE {b : List Int} (hb : iE b) (p : Int) (h0 : 0 ≤ p) (hp : p ≤ 200000) (l : List ByteArray) (hl : tot l ≤ 7000) : ExP (fun k => bD.f k b p l) (QT b 30000 p (p + 10)) := by
  unfold bD.f
  have hll := lI l
  have hnil : ([] : List ByteArray) ++ l = l := rfl
  rw [hnil]
  refine bA (by omega) (cO (fun c => dF ⟨by dsimp only; decide, rfl, by dsimp only; omega, by dsimp only; omega⟩) (fun c => ?_))
  obtain ⟨v, ⟨v0, v1, _⟩, e1⟩ := eY hb p (0 + l.length : Int) (by omega) (by omega) (by omega)
  have v1 := v1 (by omega)
  obtain ⟨n, rfl⟩ : ∃ n : Nat, v = (n : Int) := ⟨v.toNat, by omega⟩
  refine cU e1 ?_
  dsimp only
  obtain ⟨u, _, e2⟩ := eY hb (p + 1) 8 (by omega) (by omega) (by omega)
  refine cU e2 ?_
  dsimp only
  rw [Int.toNat_natCast, eZ]
  have hx := aCB l _ (kY ByteArray.empty l n (by omega))
  have hset := aCG l n
  generalize l.getD n ByteArray.empty = x at *
  refine cO (fun _ => ?_) (fun _ => cO (fun _ => ?_) (fun _ => cO (fun _ => ?_) (fun _ => cO (fun _ => ?_) (fun _ => cO (fun _ => ?_) (fun _ => cO (fun _ => ?_) (fun _ => cO (fun _ => ?_) (fun _ => ?_)))))))
  · refine bA v0 (bA v1 ?_)
    obtain ⟨s, hs, e3⟩ := kK hb (p + 1 + 1) (by omega) (by omega) ([(⟨#[32, 120]⟩ : ByteArray), (⟨#[32, 49]⟩ : ByteArray), (⟨#[32, 35, 32, 121]⟩ : ByteArray), (⟨#[127]⟩ : ByteArray), (⟨#[48]⟩ : ByteArray)] : List ByteArray) (by decide) (by decide)
    have hsz : s.size ≤ 9 := by
      simp only [List.mem_cons, List.mem_nil_iff, or_false] at hs
      rcases hs with rfl | rfl | rfl | rfl | rfl <;> decide
    refine cU e3 ?_
    dsimp only
    have := hset (x ++ s)
    rw [ByteArray.size_append] at this
    exact bA (by omega) (qH b _ _ _ _ _ (by omega) (by omega) (by omega))
  · have hw : wrap64 ((n : Int) + 1) = ((n + 1 : Nat) : Int) := by unfold wrap64; omega
    rw [hw, Int.toNat_natCast]
    refine bA v0 (bA (by omega) (bA (by omega) (bA (by omega) (bA (by omega) (bA (by omega) (qH b _ _ _ _ _ ?_ (by omega) (by omega)))))))
    have q1 := wN l n
    have q2 := wN l (n + 1)
    rw [List.nil_append, lN]; omega
  · refine bA v0 (bA v1 (bA (by omega) (qH b _ _ _ _ _ ?_ (by omega) (by omega))))
    rw [lN]; simp only [tot]; omega
  · obtain ⟨s, hs, e3⟩ := kK hb (p + 1 + 1) (by omega) (by omega) ([(⟨#[115, 116, 117, 102, 102]⟩ : ByteArray), (⟨#[115, 116, 117, 102, 102, 32, 65]⟩ : ByteArray), (⟨#[102, 111, 101, 32, 97, 108, 101, 32, 97, 108, 101]⟩ : ByteArray), (⟨#[102, 111, 101, 32, 97, 108, 101, 32, 110, 111, 110, 101]⟩ : ByteArray), (⟨#[118, 101, 115, 115, 101, 108, 32, 113, 32, 48, 32, 115]⟩ : ByteArray), (⟨#[118, 101, 115, 115, 101, 108, 32, 113, 32, 49, 48, 48, 49, 32, 115]⟩ : ByteArray), (⟨#[118, 101, 115, 115, 101, 108, 32, 113, 32, 48, 49, 32, 115]⟩ : ByteArray), (⟨#[106, 111, 105, 110, 116, 32, 97, 32, 115]⟩ : ByteArray), (⟨#[106, 111, 105, 110, 116, 32, 113]⟩ : ByteArray), (⟨#[118, 97, 108, 118, 101, 32, 120, 32, 113, 32, 114, 32, 115]⟩ : ByteArray), (⟨#[118, 97, 108, 118, 101, 32, 120, 32, 97, 32, 97, 32, 115]⟩ : ByteArray), (⟨#[118, 97, 108, 118, 101, 32, 120, 49, 32, 97, 32, 98, 32, 101, 97, 115, 116]⟩ : ByteArray), (⟨#[119, 104, 97, 116]⟩ : ByteArray)] : List ByteArray) (by decide) (by decide)
    refine cU e3 ?_
    have hsz : s.size ≤ 100 := of_decide_eq_true (List.all_eq_true.1 (show (([(⟨#[115, 116, 117, 102, 102]⟩ : ByteArray), (⟨#[115, 116, 117, 102, 102, 32, 65]⟩ : ByteArray), (⟨#[102, 111, 101, 32, 97, 108, 101, 32, 97, 108, 101]⟩ : ByteArray), (⟨#[102, 111, 101, 32, 97, 108, 101, 32, 110, 111, 110, 101]⟩ : ByteArray), (⟨#[118, 101, 115, 115, 101, 108, 32, 113, 32, 48, 32, 115]⟩ : ByteArray), (⟨#[118, 101, 115, 115, 101, 108, 32, 113, 32, 49, 48, 48, 49, 32, 115]⟩ : ByteArray), (⟨#[118, 101, 115, 115, 101, 108, 32, 113, 32, 48, 49, 32, 115]⟩ : ByteArray), (⟨#[106, 111, 105, 110, 116, 32, 97, 32, 115]⟩ : ByteArray), (⟨#[106, 111, 105, 110, 116, 32, 113]⟩ : ByteArray), (⟨#[118, 97, 108, 118, 101, 32, 120, 32, 113, 32, 114, 32, 115]⟩ : ByteArray), (⟨#[118, 97, 108, 118, 101, 32, 120, 32, 97, 32, 97, 32, 115]⟩ : ByteArray), (⟨#[118, 97, 108, 118, 101, 32, 120, 49, 32, 97, 32, 98, 32, 101, 97, 115, 116]⟩ : ByteArray), (⟨#[119, 104, 97, 116]⟩ : ByteArray)] : List ByteArray).all fun w => decide (w.size ≤ 100)) = true by decide) s hs)
    dsimp only
    have := hset s
    exact bA v0 (bA v1 (qH b _ _ _ _ _ (by omega) (by omega) (by omega)))
  · exact aKB (u, b, p + 1 + 1) 30000 p (p + 10) (by dsimp only; omega) (by dsimp only; omega) 16 l 0 (by omega) (by omega) (by omega)
  · exact aKJ l (u, b, p + 1 + 1) 30000 p (p + 10) (by dsimp only; omega) (by dsimp only; omega) 9 l 0 (by omega) (by omega) (by omega)
  · obtain ⟨w, ⟨w0, w1, _⟩, e3⟩ := eY hb (p + 1 + 1) 2 (by omega) (by omega) (by omega)
    have w1 := w1 (by omega)
    refine cU e3 ?_
    exact aKQ (w, b, p + 1 + 1 + 1) w rfl w0 w1 30000 p (p + 10) (by dsimp only; omega) (by dsimp only; omega) 202 l (by omega) (by omega) (by omega)
  · refine bA v0 (bA v1 ?_)
    rw [show wrap64 ((x.size : Int) + 1) = (x.size : Int) + 1 from w64 (by omega) (by omega)]
    obtain ⟨w, ⟨w0, w1, _⟩, e3⟩ := eY hb (p + 1 + 1) ((x.size : Int) + 1) (by omega) (by omega) (by omega)
    have w1 := w1 (by omega)
    refine cU e3 ?_
    dsimp only
    refine bA w0 (bA (by omega) ?_)
    obtain ⟨s, hs, e4⟩ := kK hb (p + 1 + 1 + 1) (by omega) (by omega) ([(⟨#[32]⟩ : ByteArray), (⟨#[57]⟩ : ByteArray), (⟨#[45]⟩ : ByteArray), (⟨#[35]⟩ : ByteArray), (⟨#[97]⟩ : ByteArray)] : List ByteArray) (by decide) (by decide)
    have hsz : s.size ≤ 9 := by
      simp only [List.mem_cons, List.mem_nil_iff, or_false] at hs
      rcases hs with rfl | rfl | rfl | rfl | rfl <;> decide
    refine cU e4 ?_
    dsimp only
    have z1 : (x.extract 0 w.toNat).size ≤ x.size := by rw [ByteArray.size_extract]; omega
    have z2 : (x.extract w.toNat x.size).size ≤ x.size := by rw [ByteArray.size_extract]; omega
    have := hset ((x.extract 0 w.toNat ++ s) ++ x.extract w.toNat x.size)
    simp only [ByteArray.size_append] at this
    exact bA (by omega) (bA (by rw [ByteArray.size_append]; omega) (qH b _ _ _ _ _ (by omega) (by omega) (by omega)))
theorem aLL (l : List ByteArray) (hl : tot l ≤ 1000000) : ExP (fun k => dS.f k l) (fun s => s.size ≤ tot l) := by
  unfold dS.f
  have hll := lI l
  have key := eO ByteArray.empty l (P := fun i r => ∀ acc : ByteArray, acc.size + tot r ≤ tot l → ExP (fun k => dS.l0 k l acc (i : Int)) (fun s => s.size ≤ tot l))
    (fun acc ha => by refine bU (fun k => by rw [dS.l0]) ?_; exact dP (by omega) (dF (by simp only [tot] at ha; omega))) (fun i x r hi hx hm _ ih acc ha => ?_)
  · exact key _ (by show 0 + tot l ≤ tot l; omega)
  simp only [tot] at ha
  have zn : (⟨#[10]⟩ : ByteArray).size = 1 := rfl
  refine bU (fun k => by rw [dS.l0]) (bA (by omega) (bA (by omega) ?_))
  rw [eZ, hx, dN hi (by omega)]
  refine bA (by omega) (bA (by rw [ByteArray.size_append]; omega) (ih _ ?_))
  rw [ByteArray.size_append, ByteArray.size_append]; omega
theorem aGK {b : List Int} (hb : iE b) (l : List ByteArray) (p : Int) (h0 : 0 ≤ p) (hp : p ≤ 300000) (hl : tot l ≤ 50000) : ExP (fun k => cP.j0 k l b p) (fun s => s.size ≤ 1048576) := by
  refine bU (fun k => by rw [cP.j0]) (eD (aLL l (by omega)) (fun s hs => ?_))
  obtain ⟨v, _, e1⟩ := eY hb p 30 (by omega) (by omega) (by omega)
  refine cU e1 ?_
  dsimp only
  have tl : ExP (fun k => (aW.f b (p + 1) 12).bind fun t => if t.1 = 0 then (if (s.size : Int) > 0 then (if 0 ≤ wrap64 ((s.size : Int) - 1) then (if wrap64 ((s.size : Int) - 1) ≤ (s.size : Int) then some (s.extract 0 (wrap64 ((s.size : Int) - 1)).toNat) else none) else none) else some s) else some s) (fun s => s.size ≤ 1048576) := by
    obtain ⟨u, _, e2⟩ := eY hb (p + 1) 12 (by omega) (by omega) (by omega)
    refine cU e2 ?_
    dsimp only
    refine cO (fun _ => cO (fun c => ?_) (fun _ => dF (by omega))) (fun _ => dF (by omega))
    rw [show wrap64 ((s.size : Int) - 1) = (s.size : Int) - 1 from w64 (by omega) (by omega)]
    exact bA (by omega) (bA (by omega) (dF (by rw [ByteArray.size_extract]; omega)))
  refine cO (fun _ => cO (fun c => ?_) (fun _ => tl)) (fun _ => tl)
  have z35 : (⟨#[35]⟩ : ByteArray).size = 1 := rfl
  have zx : (⟨#[120]⟩ : ByteArray).size = 1 := rfl
  refine bA (by omega) ?_
  obtain ⟨u, ⟨u0, u1, _⟩, e2⟩ := eY hb (p + 1) 2 (by omega) (by omega) (by omega)
  have u1 := u1 (by omega)
  refine cU e2 ?_
  dsimp only
  have hw : wrap64 (wrap64 (wrap64 (10000 - (s.size : Int)) - 1) + u) = ((10000 - s.size - 1 + u.toNat : Nat) : Int) := by unfold wrap64; omega
  rw [hw]
  unfold eG.f
  refine eD (wB (10000 - s.size - 1 + u.toNat) (⟨#[120]⟩ : ByteArray) (⟨#[]⟩ : ByteArray) _ (Nat.le_refl _) (by omega) (by rw [zx]; omega) (by rw [zx]; show 0 + _ ≤ _; omega)) (fun r hr => ?_)
  rw [zx] at hr
  have ze : (⟨#[]⟩ : ByteArray).size = 0 := rfl
  refine bA (by rw [ByteArray.size_append]; omega) (dF ?_)
  rw [ByteArray.size_append, ByteArray.size_append]; omega
theorem wU (x : List Int) (h : ∀ z ∈ x, (Lit.int .u8 z).wf = true) : ExP (fun k => cP.f k x) (fun s => s.size ≤ 1048576) := by
  unfold cP.f
  obtain ⟨b, hb, e⟩ := aJR x (aFU h)
  refine cU e ?_
  dsimp only
  refine eD (aFK hb) (fun t ht => ?_)
  obtain ⟨t1, t2, t3, t4⟩ := ht
  rw [t2]
  obtain ⟨v, _, e2⟩ := eY hb t.2.2 2 (by omega) (by omega) (by omega)
  refine cU e2 ?_
  dsimp only
  refine cO (fun _ => ?_) (fun _ => aGK hb _ _ (by omega) (by omega) (by omega))
  refine eD (aIE hb (t.2.2 + 1) (by omega) (by omega) t.1 (by omega)) (fun q hq => ?_)
  obtain ⟨q1, q2, q3, q4⟩ := hq
  rw [q2]
  exact aGK hb _ _ (by omega) (by omega) (by omega)
theorem nL : ∀ (ls : List ByteArray) (i : Int) (t : PS), ¬ (gD ls i t).2.2.2.2.2 = 0 → ∃ m : Nat, (gD ls i t).2.2.2.2.1 = i + (m : Int) + 1 ∧ (∀ j, j ≤ m → (gD (ls.take j) i t).2.2.2.2.2 = 0) ∧ ((gD ls i t).1, (gD ls i t).2.1, (gD ls i t).2.2.1, (gD ls i t).2.2.2.1) = (([], [], [], []) : PS)
  | [], i, t, h => absurd rfl h
  | l :: r, i, t, h => by
    have z : ∀ j, j ≤ 0 → (gD ((l :: r).take j) i t).2.2.2.2.2 = 0 := fun j hj => by
      have : j = 0 := by omega
      subst this; rfl
    rw [gD] at h ⊢
    by_cases c1 : (jC l).2 = true
    · rw [if_pos c1] at h ⊢
      by_cases c2 : 0 < (jC l).1.length
      · rw [if_pos c2] at h ⊢
        by_cases c3 : (jY t (jC l).1).2.2.2.2 = 0
        · rw [if_pos c3] at h ⊢
          obtain ⟨m, h1, h2, h3⟩ := nL r (i + 1) _ h
          refine ⟨m + 1, by rw [h1]; push_cast; omega, fun j hj => ?_, h3⟩
          cases j with
          | zero => rfl
          | succ j => rw [List.take_succ_cons, gD, if_pos c1, if_pos c2, if_pos c3]; exact h2 j (by omega)
        · rw [if_neg c3]
          exact ⟨0, by simp, fun j hj => by have : j = 0 := by omega
                                            subst this; rfl, rfl⟩
      · rw [if_neg c2] at h ⊢
        obtain ⟨m, h1, h2, h3⟩ := nL r (i + 1) _ h
        refine ⟨m + 1, by rw [h1]; push_cast; omega, fun j hj => ?_, h3⟩
        cases j with
        | zero => rfl
        | succ j => rw [List.take_succ_cons, gD, if_pos c1, if_neg c2]; exact h2 j (by omega)
    · rw [if_neg c1]
      exact ⟨0, by simp, fun j hj => by have : j = 0 := by omega
                                        subst this; rfl, rfl⟩
def Cl (H : List UInt8) : Prop := ∀ Y, hU [] (H ++ Y) = hU [] H ++ hU [] Y
theorem aLE : Cl [] := fun Y => rfl
theorem aIY {H seg : List UInt8} (h : Cl H) (hs : ∀ x ∈ seg, x ≠ 10) : Cl (H ++ (seg ++ [10])) ∧ (hU [] (H ++ (seg ++ [10]))).length = (hU [] H).length + 1 := by
  have e : ∀ Y, hU [] (H ++ (seg ++ 10 :: Y)) = hU [] H ++ (mkB seg :: hU [] Y) := fun Y => by rw [h, rO seg [] Y hs]; rfl
  have e0 : hU [] (H ++ (seg ++ [10])) = hU [] H ++ [mkB seg] := e []
  refine ⟨fun Y => ?_, by rw [e0]; simp⟩
  have : H ++ (seg ++ [10]) ++ Y = H ++ (seg ++ 10 :: Y) := by simp
  rw [this, e, e0]; simp
theorem qY {T : ByteArray} (hc : ¬ (gI T).2.2.2.2.2 = 0) :
    ((gI T).1, (gI T).2.1, (gI T).2.2.1, (gI T).2.2.2.1) = (([], [], [], []) : PS) ∧ ((gI T).2.2.2.2.1 = 0 ∨ (1 ≤ (gI T).2.2.2.2.1 ∧
      ∀ H Y, T.data.toList = H ++ Y → Cl H → ((hU [] H).length + 1 : Int) ≤ (gI T).2.2.2.2.1 → (gI (mkB H)).2.2.2.2.2 = 0)) := by
  unfold gI at hc ⊢
  by_cases c1 : 10000 < T.size
  · rw [if_pos c1]; exact ⟨rfl, .inl rfl⟩
  rw [if_neg c1] at hc ⊢
  by_cases c2 : 200 < (hU [] T.data.toList).length
  · rw [if_pos c2]; exact ⟨rfl, .inl rfl⟩
  rw [if_neg c2] at hc ⊢
  obtain ⟨m, h1, h2, h3⟩ := nL _ _ _ hc
  refine ⟨h3, .inr ⟨by rw [h1]; omega, fun H Y hT hCl hl => ?_⟩⟩
  have hT2 := congrArg List.length hT
  rw [iB, List.length_append] at hT2
  have hf := hCl Y
  rw [← hT] at hf
  have hf2 := congrArg List.length hf
  rw [List.length_append] at hf2
  rw [gM, if_neg (by omega), qP, if_neg (by omega)]
  have := h2 (hU [] H).length (by omega)
  rwa [hf, List.take_left'] at this
  rfl
theorem FnPlantText : ∀ (x0 : List Int), ((x0.length ≤ 9223372036854775807 ∧ x0.length * 1 ≤ 140737488351232) ∧ ∀ z ∈ x0, (Lit.int .u8 z).wf = true) → ∃ k, cT.f k x0 = some true := by
  intro x hx
  obtain ⟨_, xk⟩ := hx
  obtain ⟨T, hd, hT⟩ := wU x xk
  have eI := nF T hT
  have eS := wV T hT
  have hv := aDJ T
  have hh := @qY T
  generalize gI T = R at *
  obtain ⟨s, f, p, v, n, c⟩ := R
  dsimp only at hv hh
  have := hv.ls; have := hv.lf; have := hv.lp; have := hv.lv
  have eW := tV s f p v (by omega) (by omega) (by omega) (by omega)
  have hb := wW.2 hv
  have hpr := aBR hb
  have z : SzP s f p v := ⟨by omega, by omega, by omega, by omega, fun x hx => by have := hpr.s x hx; omega, fun x hx => by have := hpr.f x hx; omega, fun x hx => by have := (hpr.p x hx).a0; have := (hpr.p x hx).a2; omega, fun x hx => by have := (hpr.v x hx).a0; have := (hpr.v x hx).a3; omega⟩
  have eV := pX _ _ _ _ z
  rw [hb] at eV
  refine Ev.rounds ?_
  unfold cT.f
  refine aY (fun _ => aX rfl) (fun _ => Ev.bind hd (Ev.bind eI (Ev.bind eS (aO (by simp) (Ev.bind eW (aO rfl ?_))))))
  refine aY (fun c0 => ?_) (fun c0 => ?_)
  · refine Ev.bind (wT z) (Ev.bind (nF (kZ s f p v) aAF) (Ev.bind eV (aO rfl ?_)))
    have hE : gI (kZ s f p v) = (s, f, p, v, 0, 0) := by unfold kZ; rw [if_pos hb]; exact aAT hv
    rw [hE]
    exact aO rfl (Ev.bind eW (aX rfl))
  obtain ⟨hnil, hn⟩ := hh c0
  injection hnil with i1 hnil
  injection hnil with i2 hnil
  injection hnil with i3 i4
  subst i1; subst i2; subst i3; subst i4
  have eN := tV [] [] [] [] (by simp) (by simp) (by simp) (by simp)
  have E : ∀ H : List UInt8, H.length ≤ 1048576 → (n = 0 ∨ (gI (mkB H)).2.2.2.2.2 = 0) → Ev (fun k => (cB.f k (mkB H)).bind fun t => (bE.f k [] [] [] [] [] [] [] []).bind fun u => if u = true then (if n = 0 then some true else some (decide (t.2.2.2.2.2 = 0))) else some false) true := fun H hH hz => by
    refine Ev.bind (nF (mkB H) (by rw [gM]; exact hH)) (Ev.bind eN (aO rfl ?_))
    refine aY (fun _ => aX rfl) (fun q => aX ?_)
    exact decide_eq_true (hz.resolve_left q)
  have main : ∀ (rest seg H : List UInt8) (m : Nat), T.data.toList = H ++ (seg ++ rest) → (∀ x ∈ seg, x ≠ 10) → Cl H → m = (hU [] H).length + 1 → (n = 0 ∨ (m : Int) ≤ n) → Ev (fun k => cT.l0 k x (m : Int) (mkB H) ((H.length + seg.length : Nat) : Int) T ([], [], [], [], n, c)) true := fun rest => by
    induction rest with
    | nil =>
      intro seg H m hT1 hseg hCl hm hmn
      have hTl := congrArg List.length hT1
      rw [iB, List.length_append, List.append_nil] at hTl
      refine Ev.step (fun k => by rw [cT.l0]) (bT (by omega) ?_)
      refine E H (by omega) ?_
      rcases hn with hn | hn
      · exact .inl hn
      · rcases hmn with hmn | hmn
        · exact .inl hmn
        · exact .inr (hn.2 H _ hT1 hCl (by omega))
    | cons b rest ih =>
      intro seg H m hT1 hseg hCl hm hmn
      have hTl := congrArg List.length hT1
      rw [iB, List.length_append, List.length_append, List.length_cons] at hTl
      have hEnd : n = 0 ∨ (gI (mkB H)).2.2.2.2.2 = 0 := by
        rcases hn with hn | hn
        · exact .inl hn
        · rcases hmn with hmn | hmn
          · exact .inl hmn
          · exact .inr (hn.2 H _ hT1 hCl (by omega))
      have hfl : (hU [] H).length ≤ H.length + 1 := by
        have h1 := lI (hU [] H)
        have h2 := qJ H []
        simp only [List.length_nil] at h2; omega
      have hget : T.data.toList.getD (H.length + seg.length) 0 = b := by
        rw [hT1, ← List.append_assoc, List.getD_eq_getElem?_getD, List.getElem?_append_right (by simp)]
        simp
      refine Ev.step (fun k => by rw [cT.l0]) (aO (by omega) ?_)
      refine aY (fun d => aO (by omega) ?_) (fun _ => E H (by omega) hEnd)
      have d : (m : Int) < n := d
      have hb8 := tQ b
      rw [jQ T (H.length + seg.length) (by omega), hget, dN (n := T.size) (i := H.length + seg.length) (by omega) (by omega)]
      refine aY (fun e => ?_) (fun e => ?_)
      · have hb10 : b = 10 := UInt8.toNat_inj.1 (by show b.toNat = 10; omega)
        subst hb10
        obtain ⟨g1, g2⟩ := aIY hCl hseg
        refine aO (by omega) (aO (by omega) ?_)
        have hx : T.extract 0 (((H.length + seg.length + 1 : Nat) : Int)).toNat = mkB (H ++ (seg ++ [10])) := by
          rw [Int.toNat_natCast, tJ, hT1]
          congr 1
          have e2 : H ++ (seg ++ 10 :: rest) = (H ++ (seg ++ [10])) ++ rest := by simp
          rw [e2, List.take_left' (by simp; omega)]
        rw [hx, dN (n := 2000000) (by omega) (by omega)]
        have := ih [] (H ++ (seg ++ [10])) (m + 1) (by rw [hT1]; simp) (fun x hx => by cases hx) g1 (by omega) (.inr (by push_cast; omega))
        have e3 : (H ++ (seg ++ [10])).length + ([] : List UInt8).length = H.length + seg.length + 1 := by simp; omega
        rw [e3] at this
        exact this
      · have hb10 : ∀ y ∈ seg ++ [b], y ≠ 10 := fun y hy => by
          rcases List.mem_append.1 hy with hy | hy
          · exact hseg y hy
          · rw [List.mem_singleton] at hy; subst hy; intro q; subst q; exact e rfl
        have := ih (seg ++ [b]) H m (by rw [hT1]; simp) hb10 hCl hm hmn
        have e3 : H.length + (seg ++ [b]).length = H.length + seg.length + 1 := by simp; omega
        rw [e3] at this
        exact this
  exact main T.data.toList [] [] 1 rfl (fun x hx => by cases hx) aLE (by simp [hU]) (by rcases hn with hn | hn; exact .inl hn; exact .inr (by have := hn.1; omega))
end Go.Proofs.YtnobkcplpbkigaaGreatDoor.Pure
