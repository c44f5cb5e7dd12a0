/- The program's RecGo answers what the reference's RecGo answers, for every recipe, state and say, and writes into no argument. No condition beyond the row's own. -/
import Derived.Test.YtpihcdbkdldbcaaZFnExactRecGo8
namespace Go.Proofs.Ytpihcdbkdldbcaa.Pure
open Go.RowKit Go.Proofs.Ytpihcdbkdldbcaa.QFnExactRecGo Go.Proofs.YtpihcdbkdldbcaaW.PrintWords Go.Proofs.YtpihcdbkdldbcaaW.PrintLast Go.Proofs.YtpihcdbkdldbcaaW.PrintMore
set_option linter.unusedVariables false
set_option linter.unusedSimpArgs false
/-! ### general words -/
theorem ev_pos {α : Type} {c : Prop} {d : Decidable c} {g f : Nat → Option α} {r : α} (h : c) (k : Ev g r) : Ev (fun n => @ite _ c d (g n) (f n)) r := Ev.congr (fun _ => if_pos h) k
theorem ev_neg {α : Type} {c : Prop} {d : Decidable c} {g f : Nat → Option α} {r : α} (h : ¬ c) (k : Ev f r) : Ev (fun n => @ite _ c d (g n) (f n)) r := Ev.congr (fun _ => if_neg h) k
theorem ev_ret {α : Type} {a r : α} (h : a = r) : Ev (fun _ => some a) r := h ▸ Ev.now a
theorem ev_let {α β : Type} {g : Option α} {a : α} {r : β} {f : Nat → α → Option β} (h : g = some a) (k : Ev (fun n => f n a) r) : Ev (fun n => g.bind (f n)) r := by
  subst h; exact k
theorem ev_eq {α : Type} {g : Nat → Option α} {a r : α} (k : Ev g a) (h : a = r) : Ev g r := h ▸ k
theorem down {P : Nat → Prop} (n : Nat) (h0 : P n) (hs : ∀ i, i < n → P (i + 1) → P i) (i : Nat) (h : i ≤ n) : P i := by
  obtain ⟨d, rfl⟩ : ∃ d, n = i + d := ⟨n - i, by omega⟩
  clear h
  induction d generalizing i with
  | zero => exact h0
  | succ d ih =>
    refine hs i (by omega) ?_
    have e : i + (d + 1) = (i + 1) + d := by omega
    rw [e] at h0 hs
    exact ih (i + 1) h0 hs
theorem w64 {x : Int} (h0 : -9223372036854775808 ≤ x) (h1 : x ≤ 9223372036854775807) : wrap64 x = x := by unfold wrap64; omega
theorem wsucc {i n : Nat} (h : i < n) (hn : n ≤ 9223372036854775807) : wrap64 ((i : Int) + 1) = ((i + 1 : Nat) : Int) := by unfold wrap64; omega
theorem getD_eq {α : Type} (d : α) (xs : List α) (i : Nat) (h : i < xs.length) : xs.getD i d = xs[i] := by
  rw [List.getD_eq_getElem?_getD, List.getElem?_eq_getElem h]; rfl
theorem drop_cons {α : Type} (d : α) (xs : List α) (i : Nat) (h : i < xs.length) : xs.drop i = xs.getD i d :: xs.drop (i + 1) := by
  rw [List.drop_eq_getElem_cons h, getD_eq d xs i h]
theorem getD_set {α : Type} (d : α) (xs : List α) (i j : Nat) (v : α) (h : i < xs.length) : (xs.set i v).getD j d = if j = i then v else xs.getD j d := by
  rw [List.getD_eq_getElem?_getD, List.getD_eq_getElem?_getD, List.getElem?_set]
  by_cases e : i = j
  · subst e; simp [h]
  · rw [if_neg e, if_neg (fun q => e q.symm)]
theorem fill_end {α : Type} (d : α) (z y : List α) (hl : y.length = z.length) (h : ∀ j, j < z.length → y.getD j d = z.getD j d) : y = z := by
  apply List.ext_getElem hl
  intro j h1 h2
  have e := h j h2
  rwa [getD_eq d y j h1, getD_eq d z j h2] at e
theorem fill_step {α : Type} (d : α) (z y : List α) (i : Nat) (hl : y.length = z.length) (hi : i < z.length) (h : ∀ j, j < i → y.getD j d = z.getD j d) (v : α) (hv : v = z.getD i d) :
    (y.set i v).length = z.length ∧ ∀ j, j < i + 1 → (y.set i v).getD j d = z.getD j d := by
  refine ⟨by simpa using hl, fun j hj => ?_⟩
  rw [getD_set d y i j v (by omega)]
  by_cases e : j = i
  · rw [if_pos e, e, hv]
  · rw [if_neg e]; exact h j (by omega)
theorem mem_getD {α : Type} (d : α) (xs : List α) (i : Nat) (h : i < xs.length) : xs.getD i d ∈ xs := by
  rw [getD_eq d xs i h]; exact List.getElem_mem h
/-! ### names -/
theorem ev_split {α : Type} {c : Prop} {d : Decidable c} {g f : Nat → Option α} {r : α} (h : c → Ev g r) (k : ¬ c → Ev f r) : Ev (fun n => @ite _ c d (g n) (f n)) r := by
  by_cases q : c
  · exact ev_pos q (h q)
  · exact ev_neg q (k q)
theorem ev_bool {a r : Bool} (h : a = true ↔ r = true) : Ev (fun _ => some a) r := ev_ret (Bool.eq_iff_iff.2 h)
def okc (c : Int) : Bool := (decide (97 ≤ c) && decide (c ≤ 122)) || ((decide (48 ≤ c) && decide (c ≤ 57)) || decide (c = 45))
def allFrom (s : ByteArray) (i : Nat) : Bool := decide (∀ j, j < s.size → i ≤ j → okc (bt s (j : Int)) = true)
theorem allFrom_step (s : ByteArray) (i : Nat) (h : i < s.size) : allFrom s i = (okc (bt s (i : Int)) && allFrom s (i + 1)) := by
  unfold allFrom
  rw [Bool.eq_iff_iff, Bool.and_eq_true, decide_eq_true_iff, decide_eq_true_iff]
  refine ⟨fun q => ⟨q i h (Nat.le_refl _), fun j hj hi => q j hj (by omega)⟩, fun q j hj hi => ?_⟩
  by_cases e : j = i
  · rw [e]; exact q.1
  · exact q.2 j hj (by omega)
theorem allFrom_end (s : ByteArray) : allFrom s s.size = true := by
  unfold allFrom
  rw [decide_eq_true_iff]
  intro j hj hi; omega
def nameB (s : ByteArray) : Bool := decide (1 ≤ s.size ∧ s.size ≤ 8) && allFrom s 0
theorem okc_of {c : Int} {b : Bool} (h : (97 ≤ c ∧ c ≤ 122 ∨ 48 ≤ c ∧ c ≤ 57 ∨ c = 45) ↔ b = true) : okc c = b := by
  rw [Bool.eq_iff_iff, ← h]; simp [okc]
theorem l41In_is (a b c : Int) : spec_l41In.f a b c = some (decide (b ≤ a ∧ a ≤ c)) := by
  unfold spec_l41In.f
  by_cases h : a ≥ b
  · rw [if_pos h]; congr 1; apply decide_eq_decide.2; omega
  · rw [if_neg h]; congr 1; symm; apply decide_eq_false; omega
theorem l41NameOk_ev (s : ByteArray) : Ev (fun k => spec_l41NameOk.f k s) (nameB s) := by
  unfold spec_l41NameOk.f
  refine ev_let (l41In_is _ _ _) (ev_split (fun h => ?_) (fun h => ev_ret ?_))
  · have hs : 1 ≤ s.size ∧ s.size ≤ 8 := by have := of_decide_eq_true h; omega
    have key := down (P := fun i => Ev (fun k => spec_l41NameOk.l0 k s (i : Int)) (allFrom s i)) s.size
      (by
        refine Ev.step (fun k => by rw [spec_l41NameOk.l0]) ?_
        exact ev_neg (by omega) (ev_ret (allFrom_end s).symm))
      (fun i hi ih => by
        refine Ev.step (fun k => by rw [spec_l41NameOk.l0]) ?_
        refine ev_pos (by omega) (ev_pos (by omega) ?_)
        rw [wsucc hi (by omega), allFrom_step s i hi]
        have yes : okc (bt s (i : Int)) = true → Ev (fun k => spec_l41NameOk.l0 k s ((i + 1 : Nat) : Int)) (okc (bt s (i : Int)) && allFrom s (i + 1)) := fun q => by rw [q]; exact ih
        have no : okc (bt s (i : Int)) = false → Ev (fun _ => some false) (okc (bt s (i : Int)) && allFrom s (i + 1)) := fun q => by rw [q]; exact ev_ret rfl
        repeat' (first | exact yes (okc_of (by simp; omega)) | exact no (okc_of (by simp; omega)) | (refine ev_split (fun _ => ?_) (fun _ => ?_)))) 0 (Nat.zero_le _)
    refine ev_eq key ?_
    unfold nameB; rw [decide_eq_true hs]; rfl
  · have hs : ¬ (1 ≤ s.size ∧ s.size ≤ 8) := fun q => h (decide_eq_true (by omega))
    unfold nameB; rw [decide_eq_false hs]; rfl
theorem isName_ev (s : ByteArray) (hn : s.size ≤ 140737488351232) : Ev (fun k => impl_isName.f k s) (nameB s) := by
  unfold impl_isName.f
  have key := down (P := fun i => Ev (fun k => impl_isName.l0 k s (s.size : Int) (i : Int)) (decide (1 ≤ s.size ∧ s.size ≤ 8) && allFrom s i)) s.size
    (by
      refine Ev.step (fun k => by rw [impl_isName.l0]) ?_
      refine ev_neg (by omega) ?_
      rw [allFrom_end, Bool.and_true]
      refine ev_split (fun h => ev_ret (decide_eq_decide.2 (by omega))) (fun h => ev_ret ?_)
      symm; apply decide_eq_false; omega)
    (fun i hi ih => by
      refine Ev.step (fun k => by rw [impl_isName.l0]) ?_
      refine ev_pos (by omega) (ev_pos (by omega) (ev_pos (by omega) ?_))
      rw [wsucc hi (by omega), allFrom_step s i hi]
      have yes : okc (bt s (i : Int)) = true → Ev (fun k => impl_isName.l0 k s (s.size : Int) ((i + 1 : Nat) : Int)) (decide (1 ≤ s.size ∧ s.size ≤ 8) && (okc (bt s (i : Int)) && allFrom s (i + 1))) := fun q => by rw [q]; exact ih
      have no : okc (bt s (i : Int)) = false → Ev (fun _ => some false) (decide (1 ≤ s.size ∧ s.size ≤ 8) && (okc (bt s (i : Int)) && allFrom s (i + 1))) := fun q => by rw [q]; exact ev_ret (by simp)
      repeat' (first | exact yes (okc_of (by simp; omega)) | exact no (okc_of (by simp; omega)) | (refine ev_split (fun _ => ?_) (fun _ => ?_)))) 0 (Nat.zero_le _)
  exact key
/-! ### a phase alone -/
def endI (s : ByteArray) : Int := if s.toList = ([103, 111, 111, 100] : List UInt8) then 1 else (if s.toList = ([115, 97, 118, 101, 100] : List UInt8) then 2 else (if s.toList = ([115, 99, 114, 97, 112, 112, 101, 100] : List UInt8) then 3 else 0))
theorem specEnd_is (s : ByteArray) : spec_RecEnd.f s = some (endI s) := by
  unfold spec_RecEnd.f endI
  split
  · rfl
  · split
    · rfl
    · split <;> rfl
theorem implEnd_is (s : ByteArray) : impl_RecEnd.f s = some (endI s) := by
  unfold impl_RecEnd.f endI
  split
  · rfl
  · split
    · rfl
    · split <;> rfl
def argsB (kind : Int) (a b : ByteArray) (n within : Int) : Bool :=
  nameB a && ((decide (kind = 1) && (nameB b && decide (1 ≤ n ∧ n ≤ 1000))) || ((decide (kind = 2) && (nameB b && (decide (¬ a.toList = b.toList) && decide (1 ≤ n ∧ n ≤ 1000)))) ||
    ((decide (kind = 3) && (decide (b.toList = []) && decide (1 ≤ n ∧ n ≤ within))) || (decide (kind = 4 ∨ kind = 5) && (decide (b.toList = []) && decide (n = 0))))))
def phaseB (name : ByteArray) (kind : Int) (a b : ByteArray) (n within : Int) (th el : ByteArray) : Bool :=
  nameB name && (decide (endI name = 0) && (decide (1 ≤ within ∧ within ≤ 1000) && (argsB kind a b n within && (nameB th && nameB el))))
theorem l41ArgsOk_ev (f0 : ByteArray) (kind : Int) (a b : ByteArray) (n within : Int) (th el : ByteArray) : Ev (fun k => spec_l41ArgsOk.f k f0 kind a b n within th el) (argsB kind a b n within) := by
  unfold spec_l41ArgsOk.f
  repeat' (first | (refine ev_bool ?_; simp_all [argsB]; done) | (refine ev_bool ?_; simp_all [argsB]; omega) | refine Ev.bind (l41NameOk_ev _) ?_ | refine ev_let (l41In_is _ _ _) ?_ | (refine ev_split (fun _ => ?_) (fun _ => ?_)))
theorem specPhase_ev (f0 : ByteArray) (kind : Int) (a b : ByteArray) (n within : Int) (th el : ByteArray) : Ev (fun k => spec_RecPhaseOk.f k f0 kind a b n within th el) (phaseB f0 kind a b n within th el) := by
  have h1 : Ev (fun k => spec_l41PlainOk.f k f0) (nameB f0 && decide (endI f0 = 0)) := by
    unfold spec_l41PlainOk.f
    repeat' (first | (refine ev_bool ?_; simp_all; done) | refine Ev.bind (l41NameOk_ev _) ?_ | refine ev_let (specEnd_is _) ?_ | (refine ev_split (fun _ => ?_) (fun _ => ?_)))
  unfold spec_RecPhaseOk.f phaseB
  rw [← Bool.and_assoc]
  generalize (nameB f0 && decide (endI f0 = 0)) = q at h1
  repeat' (first | (refine ev_bool ?_; clear h1; simp_all; done) | (refine ev_bool ?_; clear h1; simp_all; intros; omega) | refine Ev.bind h1 ?_ | refine Ev.bind (l41ArgsOk_ev _ _ _ _ _ _ _ _) ?_ | refine Ev.bind (l41NameOk_ev _) ?_ | refine ev_let (l41In_is _ _ _) ?_ | (refine ev_split (fun _ => ?_) (fun _ => ?_)))
theorem implPhase_ev (f0 : ByteArray) (kind : Int) (a b : ByteArray) (n within : Int) (th el : ByteArray) (h0 : f0.size ≤ 140737488351232) (h1 : a.size ≤ 140737488351232) (h2 : b.size ≤ 140737488351232) (h3 : th.size ≤ 140737488351232) (h4 : el.size ≤ 140737488351232) :
    Ev (fun k => impl_RecPhaseOk.f k f0 kind a b n within th el) (phaseB f0 kind a b n within th el) := by
  have e0 := isName_ev f0 h0
  have e1 := isName_ev a h1
  have e2 := isName_ev b h2
  have e3 := isName_ev th h3
  have e4 := isName_ev el h4
  clear h0 h1 h2 h3 h4
  unfold impl_RecPhaseOk.f
  generalize hb0 : nameB f0 = b0 at e0
  generalize hb1 : nameB a = b1 at e1
  generalize hb2 : nameB b = b2 at e2
  generalize hb3 : nameB th = b3 at e3
  generalize hb4 : nameB el = b4 at e4
  unfold phaseB argsB
  rw [hb0, hb1, hb2, hb3, hb4]
  clear hb0 hb1 hb2 hb3 hb4
  repeat' (first | (refine ev_bool ?_; clear e0 e1 e2 e3 e4; simp_all; done) | (refine ev_bool ?_; clear e0 e1 e2 e3 e4; simp_all; intros; omega) | refine Ev.bind e0 ?_ | refine Ev.bind e1 ?_ | refine Ev.bind e2 ?_ | refine Ev.bind e3 ?_ | refine Ev.bind e4 ?_ | refine ev_let (implEnd_is _) ?_ | (refine ev_split (fun _ => ?_) (fun _ => ?_)) | refine Ev.step (fun k => by rw [impl_RecPhaseOk.j0]) ?_ | refine Ev.step (fun k => by rw [impl_RecPhaseOk.j1]) ?_)
theorem some_of_ite {α : Type} {c : Prop} [Decidable c] {a b : Option α} (ha : ∃ x, a = some x) (hb : ∃ x, b = some x) : ∃ x, (if c then a else b) = some x := by
  split
  · exact ha
  · exact hb
theorem map_getD {α β : Type} (e : β) (d : α) (f : α → β) (l : List α) (i : Nat) (h : i < l.length) : (l.map f).getD i e = f (l.getD i d) := by
  rw [getD_eq e _ i (by simpa using h), getD_eq d l i h, List.getElem_map]
def cvRecPhase (x : S58) : S44 := ⟨x.f0, x.f1, x.f2, x.f3, x.f4, x.f5, x.f6, x.f7⟩
theorem szRecPhase_some (a0 : ByteArray) (a1 : Int) (a2 : ByteArray) (a3 : ByteArray) (a4 : Int) (a5 : Int) (a6 : ByteArray) (a7 : ByteArray) (l : Int) : ∃ q, laws_szRecPhase.f a0 a1 a2 a3 a4 a5 a6 a7 l = some q := by
  unfold laws_szRecPhase.f
  repeat' (first | exact ⟨_, rfl⟩ | refine some_of_ite ?_ ?_)
theorem eqRecPhase_is (a0 : ByteArray) (a1 : Int) (a2 : ByteArray) (a3 : ByteArray) (a4 : Int) (a5 : Int) (a6 : ByteArray) (a7 : ByteArray) : laws_eqRecPhase.f a0 a1 a2 a3 a4 a5 a6 a7 a0 a1 a2 a3 a4 a5 a6 a7 = some true := by
  unfold laws_eqRecPhase.f
  repeat (first | rfl | rw [if_pos rfl])
theorem rd_laws_RecPhase (xs : List S58) (i : Nat) : rd_T58 xs (i : Int) = xs.getD i z58 := by simp [rd_T58]
theorem rd_impl_RecPhase (xs : List S44) (i : Nat) : rd_T44 xs (i : Int) = xs.getD i z44 := by simp [rd_T44]
theorem szRecPhaseS_ev (l : List S58) (hn : l.length ≤ 140737488351232) (a : Int) : ∃ q, Ev (fun k => laws_szRecPhaseS.f k l a) q := by
  have key := down (P := fun i => ∀ a : Int, ∃ q, Ev (fun k => laws_szRecPhaseS.l0 k l a (i : Int)) q) l.length
    (fun a => ⟨a, by
      refine Ev.step (fun k => by rw [laws_szRecPhaseS.l0]) ?_
      exact ev_neg (by omega) (ev_ret rfl)⟩)
    (fun i hi ih a => by
      obtain ⟨e, he⟩ := szRecPhase_some (rd_T58 l (i : Int)).f0 (rd_T58 l (i : Int)).f1 (rd_T58 l (i : Int)).f2 (rd_T58 l (i : Int)).f3 (rd_T58 l (i : Int)).f4 (rd_T58 l (i : Int)).f5 (rd_T58 l (i : Int)).f6 (rd_T58 l (i : Int)).f7 a
      by_cases c : e < 0
      · exact ⟨-1, by
          refine Ev.step (fun k => by rw [laws_szRecPhaseS.l0]) ?_
          exact ev_pos (by omega) (ev_pos (by omega) (ev_let he (ev_pos c (ev_ret rfl))))⟩
      · obtain ⟨q, hq⟩ := ih e
        exact ⟨q, by
          refine Ev.step (fun k => by rw [laws_szRecPhaseS.l0]) ?_
          refine ev_pos (by omega) (ev_pos (by omega) (ev_let he (ev_neg c ?_)))
          rw [wsucc hi (by omega)]
          exact hq⟩) 0 (Nat.zero_le _)
  unfold laws_szRecPhaseS.f
  by_cases c : wrap64 (a - (l.length : Int)) < 0
  · exact ⟨-1, ev_pos c (ev_ret rfl)⟩
  · obtain ⟨q, hq⟩ := key (wrap64 (a - (l.length : Int)))
    exact ⟨q, ev_neg c hq⟩
theorem toRecPhaseS_ev (l : List S58) (hn : l.length ≤ 2706490160679) : Ev (fun k => laws_toRecPhaseS.f k l) (l.map cvRecPhase) := by
  unfold laws_toRecPhaseS.f
  refine ev_pos (by omega) (ev_pos (by omega) ?_)
  have hm : ((l.map cvRecPhase)).length = l.length := by simp
  have key := down (P := fun i => ∀ y : List S44, y.length = ((l.map cvRecPhase)).length → (∀ j, j < i → y.getD j z44 = ((l.map cvRecPhase)).getD j z44) → Ev (fun k => laws_toRecPhaseS.l0 k l y (i : Int)) (l.map cvRecPhase)) l.length
    (fun y hl hy => by
      obtain rfl := fill_end z44 _ y hl (fun j hj => hy j (by omega))
      refine Ev.step (fun k => by rw [laws_toRecPhaseS.l0]) ?_
      exact ev_neg (by omega) (ev_ret rfl))
    (fun i hi ih y hl hy => by
      refine Ev.step (fun k => by rw [laws_toRecPhaseS.l0]) ?_
      refine ev_pos (by omega) (ev_pos (by omega) ?_)
      refine ev_let rfl ?_
      refine ev_pos (by omega) ?_
      rw [wsucc hi (by omega), rd_laws_RecPhase, Int.toNat_natCast]
      obtain ⟨h1, h2⟩ := fill_step z44 (l.map cvRecPhase) y i hl (by omega) hy (cvRecPhase (l.getD i z58)) (map_getD z44 z58 cvRecPhase l i hi).symm
      exact ih _ h1 h2) 0 (Nat.zero_le _)
  exact key _ (by simp) (fun j hj => by omega)
theorem eqRecPhaseS_ev (l : List S44) (hn : l.length ≤ 140737488351232) : Ev (fun k => laws_eqRecPhaseS.f k l l) true := by
  unfold laws_eqRecPhaseS.f
  refine ev_pos rfl ?_
  have key := down (P := fun i => Ev (fun k => laws_eqRecPhaseS.l0 k l l (i : Int)) true) l.length
    (by
      refine Ev.step (fun k => by rw [laws_eqRecPhaseS.l0]) ?_
      exact ev_neg (by omega) (ev_ret rfl))
    (fun i hi ih => by
      refine Ev.step (fun k => by rw [laws_eqRecPhaseS.l0]) ?_
      refine ev_pos (by omega) (ev_pos (by omega) (ev_pos (by omega) ?_))
      rw [wsucc hi (by omega)]
      exact ev_let (eqRecPhase_is _ _ _ _ _ _ _ _) (ev_pos rfl ih)) 0 (Nat.zero_le _)
  exact key
/-! ### all from a place on -/
def fromB (p : Nat → Bool) (n i : Nat) : Bool := decide (∀ j, j < n → i ≤ j → p j = true)
theorem fromB_end (p : Nat → Bool) (n : Nat) : fromB p n n = true := by
  unfold fromB; rw [decide_eq_true_iff]; intro j h1 h2; omega
theorem fromB_step (p : Nat → Bool) (n i : Nat) (h : i < n) : fromB p n i = (p i && fromB p n (i + 1)) := by
  unfold fromB
  rw [Bool.eq_iff_iff, Bool.and_eq_true, decide_eq_true_iff, decide_eq_true_iff]
  refine ⟨fun q => ⟨q i h (Nat.le_refl _), fun j hj hi => q j hj (by omega)⟩, fun q j hj hi => ?_⟩
  by_cases e : j = i
  · rw [e]; exact q.1
  · exact q.2 j hj (by omega)
/-! ### recipes -/
def szOk (x : S44) : Prop := x.f0.size ≤ 140737488351232 ∧ x.f2.size ≤ 140737488351232 ∧ x.f3.size ≤ 140737488351232 ∧ x.f6.size ≤ 140737488351232 ∧ x.f7.size ≤ 140737488351232
def phB (x : S44) : Bool := phaseB x.f0 x.f1 x.f2 x.f3 x.f4 x.f5 x.f6 x.f7
/-- the place of a phase, from place i on -/
def atI (r : List S44) (s : ByteArray) (i : Nat) : Int := match (r.drop i).findIdx? (fun x => decide (x.f0.toList = s.toList)) with
  | some j => ((i + j : Nat) : Int)
  | none => -1
theorem atI_end (r : List S44) (s : ByteArray) : atI r s r.length = -1 := by simp [atI]
theorem atI_step (r : List S44) (s : ByteArray) (i : Nat) (h : i < r.length) : atI r s i = if (r.getD i z44).f0.toList = s.toList then (i : Int) else atI r s (i + 1) := by
  unfold atI
  rw [drop_cons z44 r i h, List.findIdx?_cons]
  by_cases c : (r.getD i z44).f0.toList = s.toList
  · rw [if_pos c, if_pos (by simpa using c)]; simp
  · rw [if_neg c, if_neg (by simpa using c)]
    cases (r.drop (i + 1)).findIdx? (fun x => decide (x.f0.toList = s.toList)) with
    | none => rfl
    | some j => simp only [Option.map_some]; congr 1; omega
theorem atI_lt (r : List S44) (s : ByteArray) : atI r s 0 < (r.length : Int) ∧ -1 ≤ atI r s 0 := by
  unfold atI
  rw [List.drop_zero]
  split
  · rename_i j h
    have := List.findIdx?_eq_some_iff_findIdx_eq.1 h
    omega
  · omega
theorem l42At_ev (r : List S44) (s : ByteArray) (hn : r.length ≤ 140737488351232) : Ev (fun k => spec_l42At.f k r s) (atI r s 0) := by
  unfold spec_l42At.f
  have key := down (P := fun i => Ev (fun k => spec_l42At.l0 k r s (i : Int)) (atI r s i)) r.length
    (by
      refine Ev.step (fun k => by rw [spec_l42At.l0]) ?_
      exact ev_neg (by omega) (ev_ret (atI_end r s).symm))
    (fun i hi ih => by
      refine Ev.step (fun k => by rw [spec_l42At.l0]) ?_
      refine ev_pos (by omega) (ev_pos (by omega) ?_)
      rw [wsucc hi (by omega), rd_impl_RecPhase, atI_step r s i hi]
      refine ev_split (fun c => ev_ret ?_) (fun c => ?_)
      · rw [if_pos c]
      · rw [if_neg c]; exact ih) 0 (Nat.zero_le _)
  exact key
theorem phase_ev (r : List S44) (s : ByteArray) (hn : r.length ≤ 140737488351232) : Ev (fun k => impl_phase.f k r s) (atI r s 0) := by
  unfold impl_phase.f
  have key := down (P := fun i => Ev (fun k => impl_phase.l0 k s r (r.length : Int) (i : Int)) (atI r s i)) r.length
    (by
      refine Ev.step (fun k => by rw [impl_phase.l0]) ?_
      exact ev_neg (by omega) (ev_ret (atI_end r s).symm))
    (fun i hi ih => by
      refine Ev.step (fun k => by rw [impl_phase.l0]) ?_
      refine ev_pos (by omega) (ev_pos (by omega) (ev_pos (by omega) ?_))
      rw [wsucc hi (by omega), rd_impl_RecPhase, atI_step r s i hi]
      refine ev_split (fun c => ev_ret ?_) (fun c => ?_)
      · rw [if_pos c]
      · rw [if_neg c]; exact ih) 0 (Nat.zero_le _)
  exact key
/-- a text that may come behind place i -/
def onB (r : List S44) (i : Nat) (s : ByteArray) : Bool := !(decide (endI s = 0) && decide (atI r s 0 ≤ (i : Int)))
def okAt (r : List S44) (i : Nat) : Bool := (phB (r.getD i z44) && decide (atI r (r.getD i z44).f0 0 = (i : Int))) && (onB r i (r.getD i z44).f6 && onB r i (r.getD i z44).f7)
def recB (r : List S44) : Bool := decide (1 ≤ r.length ∧ r.length ≤ 12) && decide (∀ i, i < r.length → okAt r i = true)
theorem recB_from (r : List S44) : recB r = (decide (1 ≤ r.length ∧ r.length ≤ 12) && fromB (okAt r) r.length 0) := by
  unfold recB fromB; congr 1; apply decide_eq_decide.2
  exact ⟨fun h j hj _ => h j hj, fun h j hj => h j hj (Nat.zero_le _)⟩
theorem specRecOk_ev (r : List S44) : Ev (fun k => spec_RecOk.f k r) (recB r) := by
  unfold spec_RecOk.f
  rw [recB_from]
  refine ev_let (l41In_is _ _ _) (ev_split (fun h => ?_) (fun h => ev_ret ?_))
  · have hs : 1 ≤ r.length ∧ r.length ≤ 12 := by have := of_decide_eq_true h; omega
    rw [decide_eq_true hs, Bool.true_and]
    refine down (P := fun i => Ev (fun k => spec_RecOk.l0 k r (i : Int)) (fromB (okAt r) r.length i)) r.length
      (by
        refine Ev.step (fun k => by rw [spec_RecOk.l0]) ?_
        exact ev_neg (by omega) (ev_ret (fromB_end _ _).symm))
      (fun i hi ih => ?_) 0 (Nat.zero_le _)
    refine Ev.step (fun k => by rw [spec_RecOk.l0]) ?_
    refine ev_pos (by omega) (ev_pos (by omega) ?_)
    rw [rd_impl_RecPhase, fromB_step _ _ _ hi]
    have e1 := specPhase_ev (r.getD i z44).f0 (r.getD i z44).f1 (r.getD i z44).f2 (r.getD i z44).f3 (r.getD i z44).f4 (r.getD i z44).f5 (r.getD i z44).f6 (r.getD i z44).f7
    have no : okAt r i = false → ∀ b : Bool, b = true → Ev (fun k => spec_RecOk.j1 k r (i : Int) b) (okAt r i && fromB (okAt r) r.length (i + 1)) := fun q b hb => by
      refine Ev.step (fun k => by rw [spec_RecOk.j1]) (ev_pos hb (ev_ret ?_))
      rw [q]; rfl
    have yes : (phB (r.getD i z44) && decide (atI r (r.getD i z44).f0 0 = (i : Int))) = true → ∀ b : Bool, b = false → Ev (fun k => spec_RecOk.j1 k r (i : Int) b) (okAt r i && fromB (okAt r) r.length (i + 1)) := fun q b hb => by
      refine Ev.step (fun k => by rw [spec_RecOk.j1]) (ev_neg (by simp [hb]) (ev_pos (by omega) (ev_pos (by omega) ?_)))
      rw [wsucc hi (by omega), rd_impl_RecPhase]
      generalize fromB (okAt r) r.length (i + 1) = R at ih ⊢
      unfold okAt onB
      rw [q, Bool.true_and]
      have a6 := l42At_ev r (r.getD i z44).f6 (by omega)
      have a7 := l42At_ev r (r.getD i z44).f7 (by omega)
      clear q e1 no
      generalize atI r (r.getD i z44).f6 0 = v6 at a6
      generalize atI r (r.getD i z44).f7 0 = v7 at a7
      repeat' (first | (refine ev_eq ih ?_; simp_all; done) | (refine ev_bool ?_; clear a6 a7 ih; simp_all; done) | refine Ev.bind a6 ?_ | refine Ev.bind a7 ?_ | refine ev_let (specEnd_is _) ?_ | (refine ev_split (fun _ => ?_) (fun _ => ?_)))
    refine Ev.bind e1 (ev_split (fun c => ?_) (fun c => ?_))
    · refine Ev.bind (l42At_ev r _ (by omega)) ?_
      by_cases q : atI r (r.getD i z44).f0 0 = (i : Int)
      · exact yes (by unfold phB; rw [c, decide_eq_true q]; rfl) _ (by rw [q]; simp)
      · exact no (by unfold okAt; rw [decide_eq_false q]; simp) _ (by simpa using q)
    · exact no (by unfold okAt phB; simp_all) _ rfl
  · have hs : ¬ (1 ≤ r.length ∧ r.length ≤ 12) := fun q => h (decide_eq_true (by omega))
    rw [decide_eq_false hs]; rfl
theorem implRecOk_ev (r : List S44) (hn : r.length ≤ 140737488351232) (hx : ∀ x ∈ r, szOk x) : Ev (fun k => impl_RecOk.f k r) (recB r) := by
  unfold impl_RecOk.f
  have bad : ¬ (1 ≤ r.length ∧ r.length ≤ 12) → ∀ b : Bool, b = true → Ev (fun k => impl_RecOk.j0 k r b) (recB r) := fun q b hb => by
    refine Ev.step (fun k => by rw [impl_RecOk.j0]) (ev_pos hb (ev_ret ?_))
    unfold recB; rw [decide_eq_false q]; rfl
  by_cases c1 : (r.length : Int) < 1
  · exact ev_pos c1 (bad (by omega) _ rfl)
  refine ev_neg c1 ?_
  by_cases c2 : (r.length : Int) > 12
  · exact bad (by omega) _ (decide_eq_true c2)
  refine Ev.step (fun k => by rw [impl_RecOk.j0]) (ev_neg (by simpa using c2) ?_)
  have hs : 1 ≤ r.length ∧ r.length ≤ 12 := by omega
  -- the second loop: what comes then, or else
  have second : (∀ i, i < r.length → (phB (r.getD i z44) && decide (atI r (r.getD i z44).f0 0 = (i : Int))) = true) → Ev (fun k => impl_RecOk.l1 k r r (r.length : Int) 0) (recB r) := fun hall => by
    rw [recB_from, decide_eq_true hs, Bool.true_and]
    refine down (P := fun i => Ev (fun k => impl_RecOk.l1 k r r (r.length : Int) (i : Int)) (fromB (okAt r) r.length i)) r.length
      (by
        refine Ev.step (fun k => by rw [impl_RecOk.l1]) ?_
        exact ev_neg (by omega) (ev_ret (fromB_end _ _).symm))
      (fun i hi ih => ?_) 0 (Nat.zero_le _)
    refine Ev.step (fun k => by rw [impl_RecOk.l1]) ?_
    refine ev_pos (by omega) (ev_pos (by omega) (ev_pos (by omega) ?_))
    refine ev_let rfl ?_
    rw [rd_impl_RecPhase, fromB_step _ _ _ hi]
    have hq := hall i hi
    have a6 := phase_ev r (r.getD i z44).f6 (by omega)
    have a7 := phase_ev r (r.getD i z44).f7 (by omega)
    have e2 : okAt r i = (onB r i (r.getD i z44).f6 && onB r i (r.getD i z44).f7) := by unfold okAt; rw [hq]; rfl
    rw [e2]
    clear e2 hq
    have third : Ev (fun k => impl_RecOk.l2 k r (i : Int) r (r.length : Int) (i : Int) [(r.getD i z44).f6, (r.getD i z44).f7] 2 2) (fromB (okAt r) r.length (i + 1)) := by
      refine Ev.step (fun k => by rw [impl_RecOk.l2]) (ev_neg (by omega) ?_)
      rw [wsucc hi (by omega)]; exact ih
    have step2 : ∀ (a : ByteArray) (b : ByteArray) (j : Nat) (v : Int), j < 2 → rdOf ByteArray.empty [a, b] (j : Int) = (if j = 0 then a else b) := fun a b j v hj => by
      rcases (by omega : j = 0 ∨ j = 1) with rfl | rfl <;> rfl
    have second2 : Ev (fun k => impl_RecOk.l2 k r (i : Int) r (r.length : Int) (i : Int) [(r.getD i z44).f6, (r.getD i z44).f7] 2 1) (onB r i (r.getD i z44).f7 && fromB (okAt r) r.length (i + 1)) := by
      refine Ev.step (fun k => by rw [impl_RecOk.l2]) (ev_pos (by omega) (ev_pos (by omega) (ev_pos (by simp) ?_)))
      rw [show rdOf ByteArray.empty [(r.getD i z44).f6, (r.getD i z44).f7] 1 = (r.getD i z44).f7 from rfl, show wrap64 (1 + 1) = 2 by unfold wrap64; rfl]
      unfold onB
      generalize atI r (r.getD i z44).f7 0 = v7 at a7
      clear a6 step2
      repeat' (first | (refine ev_eq third ?_; simp_all; done) | (refine ev_bool ?_; clear a7 ih third; simp_all; done) | refine Ev.bind a7 ?_ | refine ev_let (implEnd_is _) ?_ | (refine ev_split (fun _ => ?_) (fun _ => ?_)))
    refine Ev.step (fun k => by rw [impl_RecOk.l2]) (ev_pos (by simp) (ev_pos (by omega) (ev_pos (by simp) ?_)))
    rw [show rdOf ByteArray.empty [(r.getD i z44).f6, (r.getD i z44).f7] 0 = (r.getD i z44).f6 from rfl, show wrap64 (0 + 1) = 1 by unfold wrap64; rfl, Bool.and_assoc]
    have h6 : onB r i (r.getD i z44).f6 = !(decide (endI (r.getD i z44).f6 = 0) && decide (atI r (r.getD i z44).f6 0 ≤ (i : Int))) := rfl
    rw [h6]
    clear h6 third a7 step2
    generalize atI r (r.getD i z44).f6 0 = v6 at a6
    repeat' (first | (refine ev_eq second2 ?_; simp_all; done) | (refine ev_bool ?_; clear a6 ih second2; simp_all; done) | refine Ev.bind a6 ?_ | refine ev_let (implEnd_is _) ?_ | (refine ev_split (fun _ => ?_) (fun _ => ?_)))
  -- the first loop
  refine down (P := fun i => (∀ j, j < i → (phB (r.getD j z44) && decide (atI r (r.getD j z44).f0 0 = (j : Int))) = true) → Ev (fun k => impl_RecOk.l0 k r r (r.length : Int) (i : Int)) (recB r)) r.length
    (fun h => by
      refine Ev.step (fun k => by rw [impl_RecOk.l0]) ?_
      exact ev_neg (by omega) (second h))
    (fun i hi ih h => ?_) 0 (Nat.zero_le _) (fun j hj => by omega)
  refine Ev.step (fun k => by rw [impl_RecOk.l0]) ?_
  refine ev_pos (by omega) (ev_pos (by omega) (ev_pos (by omega) ?_))
  rw [rd_impl_RecPhase, wsucc hi (by omega)]
  have hz := hx _ (mem_getD z44 r i hi)
  have bad2 : ¬ ((phB (r.getD i z44) && decide (atI r (r.getD i z44).f0 0 = (i : Int))) = true) → false = recB r := fun q => by
    symm
    rw [Bool.eq_false_iff]
    intro hr
    unfold recB at hr
    rw [Bool.and_eq_true, decide_eq_true_iff, decide_eq_true_iff] at hr
    have := hr.2 i hi
    unfold okAt at this
    rw [Bool.and_eq_true] at this
    exact q this.1
  refine Ev.bind (implPhase_ev _ _ _ _ _ _ _ _ hz.1 hz.2.1 hz.2.2.1 hz.2.2.2.1 hz.2.2.2.2) (ev_split (fun c => ?_) (fun c => ev_ret (bad2 (fun q => c (by unfold phB at q; simp at q; exact q.1)))))
  refine Ev.bind (phase_ev r _ (by omega)) (ev_split (fun c2 => ih (fun j hj => ?_)) (fun c2 => ev_ret (bad2 (fun q => c2 (by simp at q; exact q.2)))))
  by_cases e : j = i
  · rw [e]; unfold phB; rw [c, decide_eq_true c2]; rfl
  · exact h j (by omega)
theorem szOk_cv (l : List S58) (h : ∀ z ∈ l, ok58 z) : ∀ x ∈ l.map cvRecPhase, szOk x := fun x hx => by
  obtain ⟨z, hz, rfl⟩ := List.mem_map.1 hx
  obtain ⟨h0, _, h2, h3, _, _, h6, h7⟩ := h z hz
  exact ⟨h0, h2, h3, h6, h7⟩
/-! ### the bound -/
theorem atI_hit (r : List S44) (s : ByteArray) (h : 0 ≤ atI r s 0) : (atI r s 0).toNat < r.length ∧ (r.getD (atI r s 0).toNat z44).f0.toList = s.toList := by
  unfold atI at h ⊢
  rw [List.drop_zero] at h ⊢
  split
  · rename_i j hj
    have hl := (List.findIdx?_eq_some_iff_findIdx_eq.1 hj).1
    have := List.of_findIdx?_eq_some hj
    rw [List.getElem?_eq_getElem hl] at this
    refine ⟨by omega, ?_⟩
    rw [show ((0 + j : Nat) : Int).toNat = j by omega, getD_eq _ r j hl]
    simpa using this
  · rename_i hj
    rw [hj] at h
    simp at h
theorem endI_congr {a b : ByteArray} (h : a.toList = b.toList) : endI a = endI b := by unfold endI; rw [h]
theorem recB_at (r : List S44) (hr : recB r = true) : (1 ≤ r.length ∧ r.length ≤ 12) ∧ ∀ i, i < r.length → okAt r i = true := by
  unfold recB at hr
  rw [Bool.and_eq_true, decide_eq_true_iff, decide_eq_true_iff] at hr
  exact hr
theorem okAt_parts {r : List S44} {i : Nat} (h : okAt r i = true) : phB (r.getD i z44) = true ∧ atI r (r.getD i z44).f0 0 = (i : Int) ∧ onB r i (r.getD i z44).f6 = true ∧ onB r i (r.getD i z44).f7 = true := by
  unfold okAt at h
  simp only [Bool.and_eq_true, decide_eq_true_iff] at h
  exact ⟨h.1.1, h.1.2, h.2.1, h.2.2⟩
theorem phB_parts {x : S44} (h : phB x = true) : endI x.f0 = 0 ∧ 1 ≤ x.f5 ∧ x.f5 ≤ 1000 := by
  unfold phB phaseB at h
  simp only [Bool.and_eq_true, decide_eq_true_iff] at h
  exact ⟨h.2.1, h.2.2.1.1, h.2.2.1.2⟩
theorem at_end (r : List S44) (hr : recB r = true) (s : ByteArray) (h : 0 ≤ atI r s 0) : endI s = 0 := by
  obtain ⟨h1, h2⟩ := atI_hit r s h
  have := okAt_parts ((recB_at r hr).2 _ h1)
  rw [← endI_congr h2]
  exact (phB_parts this.1).1
theorem at_next (r : List S44) (hr : recB r = true) (i : Nat) (s : ByteArray) (h : onB r i s = true) : atI r s 0 < 0 ∨ (i : Int) < atI r s 0 := by
  by_cases c : atI r s 0 < 0
  · exact .inl c
  · right
    have := at_end r hr s (by omega)
    unfold onB at h
    simp [this] at h
    exact h
theorem bound_both (r : List S44) (hr : recB r = true) (n : Nat) : n ≤ 12 → ∀ s : ByteArray, (atI r s 0 < 0 ∨ r.length ≤ (atI r s 0).toNat + n) →
    ∃ v : Int, 0 ≤ v ∧ v ≤ 1000 * (n : Int) ∧ Ev (fun k => spec_l42Bound.f k r s) v ∧ Ev (fun k => impl_bound.f k r s) v := by
  have hlen := (recB_at r hr).1
  have zero : ∀ s : ByteArray, atI r s 0 < 0 → Ev (fun k => spec_l42Bound.f k r s) 0 ∧ Ev (fun k => impl_bound.f k r s) 0 := fun s hs =>
    ⟨Ev.step (fun k => by rw [spec_l42Bound.f]) (Ev.bind (l42At_ev r s (by omega)) (ev_pos hs (ev_ret rfl))), Ev.step (fun k => by rw [impl_bound.f]) (Ev.bind (phase_ev r s (by omega)) (ev_pos hs (ev_ret rfl)))⟩
  induction n with
  | zero =>
    intro _ s hs
    have hl := atI_lt r s
    exact ⟨0, by omega, by omega, zero s (by omega)⟩
  | succ n ih =>
    intro hn s hs
    by_cases c : atI r s 0 < 0
    · exact ⟨0, by omega, by omega, zero s c⟩
    obtain ⟨h1, _⟩ := atI_hit r s (by omega)
    have hok := okAt_parts ((recB_at r hr).2 _ h1)
    have hp := phB_parts hok.1
    have hl := atI_lt r s
    obtain ⟨i, hi⟩ : ∃ i : Nat, atI r s 0 = (i : Int) := ⟨(atI r s 0).toNat, by omega⟩
    rw [hi, Int.toNat_natCast] at h1 hok hp
    obtain ⟨a, a0, a1, av, ai⟩ := ih (by omega) (r.getD i z44).f6 (by have := at_next r hr i _ hok.2.2.1; omega)
    obtain ⟨b, b0, b1, bv, bi⟩ := ih (by omega) (r.getD i z44).f7 (by have := at_next r hr i _ hok.2.2.2; omega)
    refine ⟨(r.getD i z44).f5 + mx a b, ?_, ?_, ?_, ?_⟩
    · unfold mx; split <;> omega
    · unfold mx; split <;> omega
    · refine Ev.step (fun k => by rw [spec_l42Bound.f]) (Ev.bind (l42At_ev r s (by omega)) (ev_neg c ?_))
      rw [hi]
      refine ev_pos (by omega) (ev_pos (by omega) ?_)
      rw [rd_impl_RecPhase]
      refine Ev.bind av (Ev.bind bv ?_)
      by_cases q : a < b
      · refine ev_pos q (ev_ret ?_)
        unfold mx; rw [if_pos q, w64 (by omega) (by omega)]; omega
      · refine ev_neg q (ev_ret ?_)
        unfold mx; rw [if_neg q, w64 (by omega) (by omega)]; omega
    · refine Ev.step (fun k => by rw [impl_bound.f]) (Ev.bind (phase_ev r s (by omega)) (ev_neg c ?_))
      rw [hi]
      refine ev_pos (by omega) (ev_pos (by omega) ?_)
      rw [rd_impl_RecPhase]
      refine Ev.bind ai (Ev.bind bi (ev_ret ?_))
      unfold mx
      split <;> exact w64 (by omega) (by omega)
/-- the bound from a text on, in both -/
theorem bound_ex (r : List S44) (hr : recB r = true) (s : ByteArray) : ∃ v : Int, (0 ≤ v ∧ v ≤ 12000) ∧ Ev (fun k => spec_l42Bound.f k r s) v ∧ Ev (fun k => impl_bound.f k r s) v := by
  obtain ⟨v, h0, h1, h2, h3⟩ := bound_both r hr 12 (Nat.le_refl _) s (by have := (recB_at r hr).1; omega)
  exact ⟨v, ⟨h0, by omega⟩, h2, h3⟩
/-! ### how a phase goes -/
def goT (p : S44) (t : Int) (w : Bool) : Int := if p.f1 = 3 ∧ w = true then mx (mx 0 t) p.f4 else mx 0 t
def goN (p : S44) (t : Int) (w : Bool) : Int := if goT p t w > p.f5 then p.f5 else goT p t w
def goW (p : S44) (t : Int) (w : Bool) : Bool := if goT p t w > p.f5 then false else w
theorem l44At_ev (r : List S44) (s : ByteArray) (n v : Int) (h : Ev (fun k => spec_l42Bound.f k r s) v) : Ev (fun k => spec_l44At.f k r s n) (s, n, v) := by
  unfold spec_l44At.f; exact Ev.bind h (ev_ret rfl)
theorem go_end (r : List S44) (p : S44) (s1 t x v6 v7 : Int) (w y : Bool) (h6 : Ev (fun k => spec_l42Bound.f k r p.f6) v6) (h7 : Ev (fun k => spec_l42Bound.f k r p.f7) v7) (s0 : ByteArray) (s2 : Int) (hx : x = goN p t w) (hy : y = goW p t w) :
    Ev (fun k => spec_l44Go.j3 k r x y s0 s1 s2 p.f0 p.f1 p.f2 p.f3 p.f4 p.f5 p.f6 p.f7) ((if goW p t w = true then p.f6 else p.f7), wrap64 (s1 + goN p t w), (if goW p t w = true then v6 else v7)) := by
  subst hx; subst hy
  refine Ev.step (fun k => by rw [spec_l44Go.j3]) ?_
  by_cases c : goW p t w = true
  · rw [if_pos c, if_pos c]; exact ev_pos c (Ev.bind (l44At_ev r _ _ _ h6) (ev_ret rfl))
  · rw [if_neg c, if_neg c]; exact ev_neg c (Ev.bind (l44At_ev r _ _ _ h7) (ev_ret rfl))
theorem go_low (r : List S44) (p : S44) (s1 t v6 v7 : Int) (w : Bool) (hp : 1 ≤ p.f5) (h6 : Ev (fun k => spec_l42Bound.f k r p.f6) v6) (h7 : Ev (fun k => spec_l42Bound.f k r p.f7) v7) (s0 : ByteArray) (s2 : Int) (z : Bool) (hz : z = true ↔ (p.f1 = 3 ∧ w = true) ∧ t < p.f4) :
    Ev (fun k => spec_l44Go.j0 k r t w z s0 s1 s2 p.f0 p.f1 p.f2 p.f3 p.f4 p.f5 p.f6 p.f7) ((if goW p t w = true then p.f6 else p.f7), wrap64 (s1 + goN p t w), (if goW p t w = true then v6 else v7)) := by
  refine Ev.step (fun k => by rw [spec_l44Go.j0]) (ev_split (fun c => ?_) (fun c => ?_)) <;> refine Ev.step (fun k => by rw [spec_l44Go.j1]) (ev_split (fun c1 => ?_) (fun c1 => ?_)) <;>
    refine Ev.step (fun k => by rw [spec_l44Go.j2]) (ev_split (fun c2 => ?_) (fun c2 => ?_)) <;> refine go_end r p s1 t _ v6 v7 w _ h6 h7 s0 s2 ?_ ?_
  all_goals (rw [hz] at c; simp only [goN, goW, goT, mx]; by_cases q : p.f1 = 3 ∧ w = true <;> simp only [q, and_self, if_true, if_false, true_and, false_and, not_true, not_false_eq_true] at c ⊢ <;> (repeat' split) <;> first | rfl | omega | (exfalso; omega))
theorem specGo_ev (r : List S44) (i : Nat) (hi : i < r.length) (s0 : ByteArray) (s1 s2 t v6 v7 : Int) (w : Bool) (hp : 1 ≤ (r.getD i z44).f5)
    (h6 : Ev (fun k => spec_l42Bound.f k r (r.getD i z44).f6) v6) (h7 : Ev (fun k => spec_l42Bound.f k r (r.getD i z44).f7) v7) :
    Ev (fun k => spec_l44Go.f k r s0 s1 s2 (i : Int) t w) ((if goW (r.getD i z44) t w = true then (r.getD i z44).f6 else (r.getD i z44).f7), wrap64 (s1 + goN (r.getD i z44) t w), (if goW (r.getD i z44) t w = true then v6 else v7)) := by
  unfold spec_l44Go.f
  refine ev_pos (by omega) (ev_pos (by omega) ?_)
  rw [rd_impl_RecPhase]
  refine ev_split (fun c => ev_split (fun c1 => ?_) (fun c1 => ?_)) (fun c => ?_) <;> refine go_low r _ s1 t v6 v7 w hp h6 h7 s0 s2 _ ?_ <;> simp_all
theorem implGo_ev (r : List S44) (hn : r.length ≤ 140737488351232) (s0 : ByteArray) (s1 s2 t v6 v7 : Int) (w : Bool) (i : Nat) (hi : i < r.length) (ha : atI r s0 0 = (i : Int))
    (h6 : Ev (fun k => impl_bound.f k r (r.getD i z44).f6) v6) (h7 : Ev (fun k => impl_bound.f k r (r.getD i z44).f7) v7) (b : Bool) (hb : b = false) :
    Ev (fun k => impl_RecGo.j0 k r b s0 s1 s2 t w) ((if goW (r.getD i z44) t w = true then (r.getD i z44).f6 else (r.getD i z44).f7), wrap64 (s1 + goN (r.getD i z44) t w), (if goW (r.getD i z44) t w = true then v6 else v7), true) := by
  have a := phase_ev r s0 hn
  rw [ha] at a
  refine Ev.step (fun k => by rw [impl_RecGo.j0]) (ev_neg (by simp [hb]) ?_)
  refine Ev.bind a ?_
  refine ev_pos (by omega) (ev_pos (by omega) ?_)
  rw [rd_impl_RecPhase]
  generalize r.getD i z44 = p at h6 h7
  have mid : ∀ x : Int, x = goT p t w → Ev (fun k => impl_RecGo.j2 k r x w s0 s1 s2 p.f0 p.f1 p.f2 p.f3 p.f4 p.f5 p.f6 p.f7) ((if goW p t w = true then p.f6 else p.f7), wrap64 (s1 + goN p t w), (if goW p t w = true then v6 else v7), true) := fun x hx => by
    subst hx
    refine Ev.step (fun k => by rw [impl_RecGo.j2]) (ev_split (fun c => ?_) (fun c => ?_))
    · simp only [goN, goW, c, if_true, Bool.false_eq_true, if_false]
      exact Ev.bind h7 (ev_ret rfl)
    · simp only [goN, goW, c, if_false]
      refine ev_split (fun d => ?_) (fun d => ?_)
      · simp only [d, if_true]; exact Ev.bind h6 (ev_ret rfl)
      · simp only [d, if_false]; exact Ev.bind h7 (ev_ret rfl)
  have low : ∀ z : Bool, (z = true ↔ (p.f1 = 3 ∧ w = true)) → Ev (fun k => impl_RecGo.j1 k r (mx 0 t) w z s0 s1 s2 p.f0 p.f1 p.f2 p.f3 p.f4 p.f5 p.f6 p.f7) ((if goW p t w = true then p.f6 else p.f7), wrap64 (s1 + goN p t w), (if goW p t w = true then v6 else v7), true) := fun z hz => by
    refine Ev.step (fun k => by rw [impl_RecGo.j1]) (ev_split (fun c => mid _ ?_) (fun c => mid _ ?_)) <;> rw [hz] at c <;> simp only [goT, c, and_self, if_true, if_false]
  refine ev_split (fun c => ?_) (fun c => ?_) <;> refine low _ ?_ <;> simp_all
theorem go_both (r : List S44) (hn : r.length ≤ 140737488351232) (hx : ∀ x ∈ r, szOk x) (s0 : ByteArray) (s1 s2 t : Int) (w : Bool) :
    ∃ v : ByteArray × Int × Int × Bool, Ev (fun k => spec_RecGo.f k r s0 s1 s2 t w) v ∧ Ev (fun k => impl_RecGo.f k r s0 s1 s2 t w) v := by
  unfold spec_RecGo.f impl_RecGo.f
  have h1 : ∀ b : Bool, b = true → Ev (fun k => impl_RecGo.j0 k r b s0 s1 s2 t w) (s0, s1, s2, false) := fun b hb => Ev.step (fun k => by rw [impl_RecGo.j0]) (ev_pos hb (ev_ret rfl))
  by_cases c : recB r = true
  · by_cases d : atI r s0 0 < 0
    · exact ⟨_, Ev.bind (l42At_ev r s0 hn) (Ev.bind (specRecOk_ev r) (ev_pos c (ev_pos d (ev_ret rfl)))), Ev.bind (implRecOk_ev r hn hx) (ev_pos c (Ev.bind (phase_ev r s0 hn) (ev_pos d (h1 _ rfl))))⟩
    · by_cases e : 0 ≤ s1 ∧ s1 ≤ 12000
      · obtain ⟨i, hi⟩ : ∃ i : Nat, atI r s0 0 = (i : Int) := ⟨(atI r s0 0).toNat, by omega⟩
        have hl := atI_lt r s0
        have hil : i < r.length := by omega
        have hp := (phB_parts (okAt_parts ((recB_at r c).2 _ hil)).1).2.1
        obtain ⟨v6, _, a6, b6⟩ := bound_ex r c (r.getD i z44).f6
        obtain ⟨v7, _, a7, b7⟩ := bound_ex r c (r.getD i z44).f7
        refine ⟨((if goW (r.getD i z44) t w = true then (r.getD i z44).f6 else (r.getD i z44).f7), wrap64 (s1 + goN (r.getD i z44) t w), (if goW (r.getD i z44) t w = true then v6 else v7), true), ?_, ?_⟩
        · refine Ev.bind (l42At_ev r s0 hn) (Ev.bind (specRecOk_ev r) (ev_pos c (ev_neg d (ev_let (l41In_is _ _ _) (ev_pos (by simp; omega) ?_)))))
          rw [hi]
          exact Ev.bind (specGo_ev r i hil s0 s1 s2 t v6 v7 w hp a6 a7) (ev_ret rfl)
        · refine Ev.bind (implRecOk_ev r hn hx) (ev_pos c (Ev.bind (phase_ev r s0 hn) (ev_neg d (ev_neg (by omega) ?_))))
          exact implGo_ev r hn s0 s1 s2 t v6 v7 w i hil hi b6 b7 _ (decide_eq_false (by omega))
      · refine ⟨(s0, s1, s2, false), ?_, ?_⟩
        · exact Ev.bind (l42At_ev r s0 hn) (Ev.bind (specRecOk_ev r) (ev_pos c (ev_neg d (ev_let (l41In_is _ _ _) (ev_neg (by simp; omega) (ev_ret rfl))))))
        · refine Ev.bind (implRecOk_ev r hn hx) (ev_pos c (Ev.bind (phase_ev r s0 hn) (ev_neg d (ev_split (fun _ => h1 _ rfl) (fun q => h1 _ (decide_eq_true (by omega)))))))
  · exact ⟨_, Ev.bind (l42At_ev r s0 hn) (Ev.bind (specRecOk_ev r) (ev_neg c (ev_ret rfl))), Ev.bind (implRecOk_ev r hn hx) (ev_neg c (h1 _ rfl))⟩
theorem FnExactRecGo : ∀ (x0 : List (S58)) (x1 : S24) (x2 : S26), ((x0.length ≤ 9223372036854775807 ∧ x0.length * 104 ≤ 140737488351232) ∧ ∀ z ∈ x0, ok58 z) → (ok24 x1) → (ok26 x2) → ∃ k, laws_FnExactRecGo.f k x0 x1.f0 x1.f1 x1.f2 x2.f0 x2.f1 = some true := by
  intro l s y hl _ _
  refine Ev.rounds ?_
  unfold laws_FnExactRecGo.f
  have hn : l.length ≤ 140737488351232 := by omega
  have hn2 : l.length ≤ 2706490160679 := by omega
  have hm : (l.map cvRecPhase).length ≤ 140737488351232 := by simpa using hn
  obtain ⟨q, hq⟩ := szRecPhaseS_ev l hn 1048576
  have hz : ∃ q2, laws_szRecState.f s.f0 s.f1 s.f2 q = some q2 := by unfold laws_szRecState.f; split <;> exact ⟨_, rfl⟩
  obtain ⟨q2, hq2⟩ := hz
  refine Ev.bind hq (ev_split (fun _ => ev_ret rfl) (fun _ => ev_let hq2 (ev_split (fun _ => ev_ret rfl) (fun _ => ?_))))
  obtain ⟨v, h1, h2⟩ := go_both (l.map cvRecPhase) hm (szOk_cv l hl.2) s.f0 s.f1 s.f2 y.f0 y.f1
  refine Ev.bind (toRecPhaseS_ev l hn2) (ev_let rfl (ev_let rfl (Ev.bind h1 (Ev.bind (toRecPhaseS_ev l hn2) (ev_let rfl (ev_let rfl (Ev.bind h2 ?_)))))))
  refine ev_let (a := true) (by unfold laws_eqRecState.f; simp) (ev_pos rfl ?_)
  refine Ev.step (fun k => by rw [laws_FnExactRecGo.j0]) (ev_neg (by simp) ?_)
  exact Ev.bind (toRecPhaseS_ev l hn2) (Ev.bind (eqRecPhaseS_ev _ hm) (ev_pos rfl (ev_ret rfl)))
end Go.Proofs.Ytpihcdbkdldbcaa.Pure
