/- The program's RecPhaseOk answers what the reference's RecPhaseOk answers, for every phase. No condition beyond the row's own. -/
import Derived.Test.YtccbknhhgnefmaaQFnExactRecPhaseOkx4
import Derived.Test.YtccbknhhgnefmaaQFnExactRecPhaseOkxOpen
namespace Go.Proofs.Ytccbknhhgnefmaa.Pure
open Go.RowKit Go.Proofs.Ytccbknhhgnefmaa.QFnExactRecPhaseOk Go.Proofs.YtccbknhhgnefmaaW.PrintWords Go.Proofs.YtccbknhhgnefmaaW.PrintLast Go.Proofs.YtccbknhhgnefmaaW.PrintMore
set_option linter.unusedVariables false
set_option linter.unusedSimpArgs false
/-! ### general words -/
theorem ev_pos {α : Type} {c : Prop} {d : Decidable c} {g f : Nat → Option α} {r : α} (h : c) (k : Ev g r) : Ev (fun n => @ite _ c d (g n) (f n)) r := Ev.congr (fun _ => if_pos h) k
theorem ev_neg {α : Type} {c : Prop} {d : Decidable c} {g f : Nat → Option α} {r : α} (h : ¬ c) (k : Ev f r) : Ev (fun n => @ite _ c d (g n) (f n)) r := Ev.congr (fun _ => if_neg h) k
theorem ev_ret {α : Type} {a r : α} (h : a = r) : Ev (fun _ => some a) r := h ▸ Ev.now a
theorem ev_let {α β : Type} {g : Option α} {a : α} {r : β} {f : Nat → α → Option β} (h : g = some a) (k : Ev (fun n => f n a) r) : Ev (fun n => g.bind (f n)) r := by
  subst h; exact k
theorem ev_eq {α : Type} {g : Nat → Option α} {a r : α} (k : Ev g a) (h : a = r) : Ev g r := h ▸ k
theorem down {P : Nat → Prop} (n : Nat) (h0 : P n) (hs : ∀ i, i < n → P (i + 1) → P i) (i : Nat) (h : i ≤ n) : P i := by
  obtain ⟨d, rfl⟩ : ∃ d, n = i + d := ⟨n - i, by omega⟩
  clear h
  induction d generalizing i with
  | zero => exact h0
  | succ d ih =>
    refine hs i (by omega) ?_
    have e : i + (d + 1) = (i + 1) + d := by omega
    rw [e] at h0 hs
    exact ih (i + 1) h0 hs
theorem w64 {x : Int} (h0 : -9223372036854775808 ≤ x) (h1 : x ≤ 9223372036854775807) : wrap64 x = x := by unfold wrap64; omega
theorem wsucc {i n : Nat} (h : i < n) (hn : n ≤ 9223372036854775807) : wrap64 ((i : Int) + 1) = ((i + 1 : Nat) : Int) := by unfold wrap64; omega
theorem rd_nat (xs : List Int) (i : Nat) : rd xs (i : Int) = xs.getD i 0 := by simp [rd]
theorem getD_eq {α : Type} (d : α) (xs : List α) (i : Nat) (h : i < xs.length) : xs.getD i d = xs[i] := by
  rw [List.getD_eq_getElem?_getD, List.getElem?_eq_getElem h]; rfl
theorem drop_cons {α : Type} (d : α) (xs : List α) (i : Nat) (h : i < xs.length) : xs.drop i = xs.getD i d :: xs.drop (i + 1) := by
  rw [List.drop_eq_getElem_cons h, getD_eq d xs i h]
theorem getD_set {α : Type} (d : α) (xs : List α) (i j : Nat) (v : α) (h : i < xs.length) : (xs.set i v).getD j d = if j = i then v else xs.getD j d := by
  rw [List.getD_eq_getElem?_getD, List.getD_eq_getElem?_getD, List.getElem?_set]
  by_cases e : i = j
  · subst e; simp [h]
  · rw [if_neg e, if_neg (fun q => e q.symm)]
theorem fill_end {α : Type} (d : α) (z y : List α) (hl : y.length = z.length) (h : ∀ j, j < z.length → y.getD j d = z.getD j d) : y = z := by
  apply List.ext_getElem hl
  intro j h1 h2
  have e := h j h2
  rwa [getD_eq d y j h1, getD_eq d z j h2] at e
theorem fill_step {α : Type} (d : α) (z y : List α) (i : Nat) (hl : y.length = z.length) (hi : i < z.length) (h : ∀ j, j < i → y.getD j d = z.getD j d) (v : α) (hv : v = z.getD i d) :
    (y.set i v).length = z.length ∧ ∀ j, j < i + 1 → (y.set i v).getD j d = z.getD j d := by
  refine ⟨by simpa using hl, fun j hj => ?_⟩
  rw [getD_set d y i j v (by omega)]
  by_cases e : j = i
  · rw [if_pos e, e, hv]
  · rw [if_neg e]; exact h j (by omega)
theorem mem_getD {α : Type} (d : α) (xs : List α) (i : Nat) (h : i < xs.length) : xs.getD i d ∈ xs := by
  rw [getD_eq d xs i h]; exact List.getElem_mem h
theorem maxl : maxLen = 9223372036854775807 := rfl
/-! ### names -/
theorem ev_split {α : Type} {c : Prop} {d : Decidable c} {g f : Nat → Option α} {r : α} (h : c → Ev g r) (k : ¬ c → Ev f r) : Ev (fun n => @ite _ c d (g n) (f n)) r := by
  by_cases q : c
  · exact ev_pos q (h q)
  · exact ev_neg q (k q)
theorem ev_bool {a r : Bool} (h : a = true ↔ r = true) : Ev (fun _ => some a) r := ev_ret (Bool.eq_iff_iff.2 h)
def okc (c : Int) : Bool := (decide (97 ≤ c) && decide (c ≤ 122)) || ((decide (48 ≤ c) && decide (c ≤ 57)) || decide (c = 45))
def allFrom (s : ByteArray) (i : Nat) : Bool := decide (∀ j, j < s.size → i ≤ j → okc (bt s (j : Int)) = true)
theorem allFrom_step (s : ByteArray) (i : Nat) (h : i < s.size) : allFrom s i = (okc (bt s (i : Int)) && allFrom s (i + 1)) := by
  unfold allFrom
  rw [Bool.eq_iff_iff, Bool.and_eq_true, decide_eq_true_iff, decide_eq_true_iff]
  refine ⟨fun q => ⟨q i h (Nat.le_refl _), fun j hj hi => q j hj (by omega)⟩, fun q j hj hi => ?_⟩
  by_cases e : j = i
  · rw [e]; exact q.1
  · exact q.2 j hj (by omega)
theorem allFrom_end (s : ByteArray) : allFrom s s.size = true := by
  unfold allFrom
  rw [decide_eq_true_iff]
  intro j hj hi; omega
def nameB (s : ByteArray) : Bool := decide (1 ≤ s.size ∧ s.size ≤ 8) && allFrom s 0
theorem okc_of {c : Int} {b : Bool} (h : (97 ≤ c ∧ c ≤ 122 ∨ 48 ≤ c ∧ c ≤ 57 ∨ c = 45) ↔ b = true) : okc c = b := by
  rw [Bool.eq_iff_iff, ← h]; simp [okc]
theorem l41In_is (a b c : Int) : spec_l41In.f a b c = some (decide (b ≤ a ∧ a ≤ c)) := by
  unfold spec_l41In.f
  by_cases h : a ≥ b
  · rw [if_pos h]; congr 1; apply decide_eq_decide.2; omega
  · rw [if_neg h]; congr 1; symm; apply decide_eq_false; omega
theorem l41NameOk_ev (s : ByteArray) : Ev (fun k => spec_l41NameOk.f k s) (nameB s) := by
  unfold spec_l41NameOk.f
  refine ev_let (l41In_is _ _ _) (ev_split (fun h => ?_) (fun h => ev_ret ?_))
  · have hs : 1 ≤ s.size ∧ s.size ≤ 8 := by have := of_decide_eq_true h; omega
    have key := down (P := fun i => Ev (fun k => spec_l41NameOk.l0 k s (i : Int)) (allFrom s i)) s.size
      (by
        refine Ev.step (fun k => by rw [spec_l41NameOk.l0]) ?_
        exact ev_neg (by omega) (ev_ret (allFrom_end s).symm))
      (fun i hi ih => by
        refine Ev.step (fun k => by rw [spec_l41NameOk.l0]) ?_
        refine ev_pos (by omega) (ev_pos (by omega) ?_)
        rw [wsucc hi (by omega), allFrom_step s i hi]
        have yes : okc (bt s (i : Int)) = true → Ev (fun k => spec_l41NameOk.l0 k s ((i + 1 : Nat) : Int)) (okc (bt s (i : Int)) && allFrom s (i + 1)) := fun q => by rw [q]; exact ih
        have no : okc (bt s (i : Int)) = false → Ev (fun _ => some false) (okc (bt s (i : Int)) && allFrom s (i + 1)) := fun q => by rw [q]; exact ev_ret rfl
        repeat' (first | exact yes (okc_of (by simp; omega)) | exact no (okc_of (by simp; omega)) | (refine ev_split (fun _ => ?_) (fun _ => ?_)))) 0 (Nat.zero_le _)
    refine ev_eq key ?_
    unfold nameB; rw [decide_eq_true hs]; rfl
  · have hs : ¬ (1 ≤ s.size ∧ s.size ≤ 8) := fun q => h (decide_eq_true (by omega))
    unfold nameB; rw [decide_eq_false hs]; rfl
theorem isName_ev (s : ByteArray) (hn : s.size ≤ 140737488351232) : Ev (fun k => impl_isName.f k s) (nameB s) := by
  unfold impl_isName.f
  have key := down (P := fun i => Ev (fun k => impl_isName.l0 k s (s.size : Int) (i : Int)) (decide (1 ≤ s.size ∧ s.size ≤ 8) && allFrom s i)) s.size
    (by
      refine Ev.step (fun k => by rw [impl_isName.l0]) ?_
      refine ev_neg (by omega) ?_
      rw [allFrom_end, Bool.and_true]
      refine ev_split (fun h => ev_ret (decide_eq_decide.2 (by omega))) (fun h => ev_ret ?_)
      symm; apply decide_eq_false; omega)
    (fun i hi ih => by
      refine Ev.step (fun k => by rw [impl_isName.l0]) ?_
      refine ev_pos (by omega) (ev_pos (by omega) (ev_pos (by omega) ?_))
      rw [wsucc hi (by omega), allFrom_step s i hi]
      have yes : okc (bt s (i : Int)) = true → Ev (fun k => impl_isName.l0 k s (s.size : Int) ((i + 1 : Nat) : Int)) (decide (1 ≤ s.size ∧ s.size ≤ 8) && (okc (bt s (i : Int)) && allFrom s (i + 1))) := fun q => by rw [q]; exact ih
      have no : okc (bt s (i : Int)) = false → Ev (fun _ => some false) (decide (1 ≤ s.size ∧ s.size ≤ 8) && (okc (bt s (i : Int)) && allFrom s (i + 1))) := fun q => by rw [q]; exact ev_ret (by simp)
      repeat' (first | exact yes (okc_of (by simp; omega)) | exact no (okc_of (by simp; omega)) | (refine ev_split (fun _ => ?_) (fun _ => ?_)))) 0 (Nat.zero_le _)
  exact key
/-! ### a phase alone -/
def endI (s : ByteArray) : Int := if s.toList = ([103, 111, 111, 100] : List UInt8) then 1 else (if s.toList = ([115, 97, 118, 101, 100] : List UInt8) then 2 else (if s.toList = ([115, 99, 114, 97, 112, 112, 101, 100] : List UInt8) then 3 else 0))
theorem specEnd_is (s : ByteArray) : spec_RecEnd.f s = some (endI s) := by
  unfold spec_RecEnd.f endI
  split
  · rfl
  · split
    · rfl
    · split <;> rfl
theorem implEnd_is (s : ByteArray) : impl_RecEnd.f s = some (endI s) := by
  unfold impl_RecEnd.f endI
  split
  · rfl
  · split
    · rfl
    · split <;> rfl
def argsB (kind : Int) (a b : ByteArray) (n within : Int) : Bool :=
  nameB a && ((decide (kind = 1) && (nameB b && decide (1 ≤ n ∧ n ≤ 1000))) || ((decide (kind = 2) && (nameB b && (decide (¬ a.toList = b.toList) && decide (1 ≤ n ∧ n ≤ 1000)))) ||
    ((decide (kind = 3) && (decide (b.toList = []) && decide (1 ≤ n ∧ n ≤ within))) || (decide (kind = 4 ∨ kind = 5) && (decide (b.toList = []) && decide (n = 0))))))
def phaseB (name : ByteArray) (kind : Int) (a b : ByteArray) (n within : Int) (th el : ByteArray) : Bool :=
  nameB name && (decide (endI name = 0) && (decide (1 ≤ within ∧ within ≤ 1000) && (argsB kind a b n within && (nameB th && nameB el))))
theorem l41ArgsOk_ev (f0 : ByteArray) (kind : Int) (a b : ByteArray) (n within : Int) (th el : ByteArray) : Ev (fun k => spec_l41ArgsOk.f k f0 kind a b n within th el) (argsB kind a b n within) := by
  unfold spec_l41ArgsOk.f
  repeat' (first | (refine ev_bool ?_; simp_all [argsB]; done) | (refine ev_bool ?_; simp_all [argsB]; omega) | refine Ev.bind (l41NameOk_ev _) ?_ | refine ev_let (l41In_is _ _ _) ?_ | (refine ev_split (fun _ => ?_) (fun _ => ?_)))
theorem specPhase_ev (f0 : ByteArray) (kind : Int) (a b : ByteArray) (n within : Int) (th el : ByteArray) : Ev (fun k => spec_RecPhaseOk.f k f0 kind a b n within th el) (phaseB f0 kind a b n within th el) := by
  have h1 : Ev (fun k => spec_l41PlainOk.f k f0) (nameB f0 && decide (endI f0 = 0)) := by
    unfold spec_l41PlainOk.f
    repeat' (first | (refine ev_bool ?_; simp_all; done) | refine Ev.bind (l41NameOk_ev _) ?_ | refine ev_let (specEnd_is _) ?_ | (refine ev_split (fun _ => ?_) (fun _ => ?_)))
  unfold spec_RecPhaseOk.f phaseB
  rw [← Bool.and_assoc]
  generalize (nameB f0 && decide (endI f0 = 0)) = q at h1
  repeat' (first | (refine ev_bool ?_; clear h1; simp_all; done) | (refine ev_bool ?_; clear h1; simp_all; intros; omega) | refine Ev.bind h1 ?_ | refine Ev.bind (l41ArgsOk_ev _ _ _ _ _ _ _ _) ?_ | refine Ev.bind (l41NameOk_ev _) ?_ | refine ev_let (l41In_is _ _ _) ?_ | (refine ev_split (fun _ => ?_) (fun _ => ?_)))
theorem implPhase_ev (f0 : ByteArray) (kind : Int) (a b : ByteArray) (n within : Int) (th el : ByteArray) (h0 : f0.size ≤ 140737488351232) (h1 : a.size ≤ 140737488351232) (h2 : b.size ≤ 140737488351232) (h3 : th.size ≤ 140737488351232) (h4 : el.size ≤ 140737488351232) :
    Ev (fun k => impl_RecPhaseOk.f k f0 kind a b n within th el) (phaseB f0 kind a b n within th el) := by
  have e0 := isName_ev f0 h0
  have e1 := isName_ev a h1
  have e2 := isName_ev b h2
  have e3 := isName_ev th h3
  have e4 := isName_ev el h4
  clear h0 h1 h2 h3 h4
  unfold impl_RecPhaseOk.f
  generalize hb0 : nameB f0 = b0 at e0
  generalize hb1 : nameB a = b1 at e1
  generalize hb2 : nameB b = b2 at e2
  generalize hb3 : nameB th = b3 at e3
  generalize hb4 : nameB el = b4 at e4
  unfold phaseB argsB
  rw [hb0, hb1, hb2, hb3, hb4]
  clear hb0 hb1 hb2 hb3 hb4
  repeat' (first | (refine ev_bool ?_; clear e0 e1 e2 e3 e4; simp_all; done) | (refine ev_bool ?_; clear e0 e1 e2 e3 e4; simp_all; intros; omega) | refine Ev.bind e0 ?_ | refine Ev.bind e1 ?_ | refine Ev.bind e2 ?_ | refine Ev.bind e3 ?_ | refine Ev.bind e4 ?_ | refine ev_let (implEnd_is _) ?_ | (refine ev_split (fun _ => ?_) (fun _ => ?_)) | refine Ev.step (fun k => by rw [impl_RecPhaseOk.j0]) ?_ | refine Ev.step (fun k => by rw [impl_RecPhaseOk.j1]) ?_)
theorem some_of_ite {α : Type} {c : Prop} [Decidable c] {a b : Option α} (ha : ∃ x, a = some x) (hb : ∃ x, b = some x) : ∃ x, (if c then a else b) = some x := by
  split
  · exact ha
  · exact hb
theorem szRecPhase_some (a : ByteArray) (b : Int) (c d : ByteArray) (e f : Int) (g h : ByteArray) (l : Int) : ∃ q, laws_szRecPhase.f a b c d e f g h l = some q := by
  unfold laws_szRecPhase.f
  repeat' (first | exact ⟨_, rfl⟩ | refine some_of_ite ?_ ?_)
theorem FnExactRecPhaseOk : ∀ (x0 : S32), (ok32 x0) → ∃ k, laws_FnExactRecPhaseOk.f k x0.f0 x0.f1 x0.f2 x0.f3 x0.f4 x0.f5 x0.f6 x0.f7 = some true := by
  intro x hx
  unfold ok32 at hx
  obtain ⟨h0, _, h2, h3, _, _, h6, h7⟩ := hx
  refine Ev.rounds ?_
  unfold laws_FnExactRecPhaseOk.f
  obtain ⟨q, hq⟩ := szRecPhase_some x.f0 x.f1 x.f2 x.f3 x.f4 x.f5 x.f6 x.f7 1048576
  refine ev_let hq (ev_split (fun _ => ev_ret rfl) (fun _ => ?_))
  refine ev_let rfl (Ev.bind (specPhase_ev _ _ _ _ _ _ _ _) (ev_let rfl (Ev.bind (implPhase_ev _ _ _ _ _ _ _ _ h0 h2 h3 h6 h7) (ev_neg (by simp) (ev_ret rfl)))))
end Go.Proofs.Ytccbknhhgnefmaa.Pure
