/- Words of a way to tell what a function does with data: an interpreter over values, and the proof that what it tells is so. -/
import Derived.Test.YtjhkgbfmigfmfaaY2
import Derived.Laws.Strings
import Derived.RowKit
import Derived.Deep.Slices
import Derived.WideShapes
import Derived.ChangeArms
import Derived.DataReads
import Derived.ProofKit
import Derived.OpenShut
import Derived.WalkKit
import Derived.ShutString
import Derived.ChangeOld
import Derived.Below
import Derived.SizedLaws
import Derived.Shelf.Sort.Plain
import Derived.Shelf.Slices.In.SortNone2
set_option linter.unusedVariables false
set_option linter.unusedSimpArgs false
set_option linter.unusedVariables false
namespace Go.Aw
open Go.RowKit
def rd (xs : List Int) (i : Int) : Int := xs.getD i.toNat 0
def bE {α : Type} (d : α) (xs : List α) (i : Int) : α := xs.getD i.toNat d
def Ev {α : Type} (g : Nat → Option α) (r : α) : Prop := ∃ K, ∀ k, K ≤ k → g k = some r
theorem Ev.now {α : Type} (r : α) : Ev (fun _ => some r) r := ⟨0, fun _ _ => rfl⟩
theorem Ev.rounds {α : Type} {g : Nat → Option α} {r : α} (h : Ev g r) : ∃ k, g k = some r := by
  obtain ⟨K, h⟩ := h
  exact ⟨K, h K (Nat.le_refl _)⟩
theorem Ev.bind {α β : Type} {g : Nat → Option α} {f : Nat → α → Option β} {a : α} {r : β} (h : Ev g a) (k : Ev (fun n => f n a) r) : Ev (fun n => (g n).bind (f n)) r := by
  obtain ⟨K, h⟩ := h
  obtain ⟨L, k⟩ := k
  refine ⟨max K L, fun n hn => ?_⟩
  show (g n).bind (f n) = some r
  rw [h n (by omega)]
  exact k n (by omega)
theorem Ev.step {α : Type} {g f : Nat → Option α} {r : α} (h : ∀ k, g (k + 1) = f k) (k : Ev f r) : Ev g r := by
  obtain ⟨K, k⟩ := k
  refine ⟨K + 1, fun n hn => ?_⟩
  obtain ⟨m, rfl⟩ : ∃ m, n = m + 1 := ⟨n - 1, by omega⟩
  rw [h m]
  exact k m (by omega)
theorem Ev.congr {α : Type} {g f : Nat → Option α} {r : α} (h : ∀ k, g k = f k) (k : Ev f r) : Ev g r := by
  obtain ⟨K, k⟩ := k
  exact ⟨K, fun n hn => (h n).trans (k n hn)⟩

variable {α : Type} {X Y : Prop} {A B : Option α} {r : α}
theorem iI {b : Bool} (H : (if b = true then A else B) = some r) (h1 : b = true → A = some r → X) (h2 : b = false → B = some r → Y) : Br b X Y := by
  cases b
  · exact Br.f rfl (h2 rfl H)
  · exact Br.t rfl (h1 rfl H)
theorem dY {b : Bool} (H : (if b = true then A else B) = some r) (h1 : b = true → A = some r → Y) (h2 : b = false → B = some r → X) : Br (!b) X Y := by
  cases b
  · exact Br.t rfl (h2 rfl H)
  · exact Br.f rfl (h1 rfl H)
theorem bT {p : Prop} [Decidable p] (H : (if p then A else B) = some r) (h1 : p → A = some r → X) (h2 : ¬ p → B = some r → Y) : Br (decide p) X Y := by
  by_cases c : p
  · rw [if_pos c] at H; exact Br.t (decide_eq_true c) (h1 c H)
  · rw [if_neg c] at H; exact Br.f (decide_eq_false c) (h2 c H)
theorem iW {p : Prop} [Decidable p] (H : (if p then A else B) = some r) (h1 : p → A = some r → Y) (h2 : ¬ p → B = some r → X) : Br (!decide p) X Y := by
  by_cases c : p
  · rw [if_pos c] at H; exact Br.f (by rw [decide_eq_true c]; rfl) (h1 c H)
  · rw [if_neg c] at H; exact Br.t (by rw [decide_eq_false c]; rfl) (h2 c H)
theorem nd_ {p : Prop} [Decidable p] (H : (if p then A else none) = some r) (h : p → A = some r → X) : Nd p X := by
  by_cases c : p
  · rw [if_pos c] at H; exact Nd.mk c (h c H)
  · rw [if_neg c] at H; cases H

theorem aHG (x : Int) : wr .i64 x = wrap64 x := rfl
/-- equalities of lists and lengths, as they come -/
theorem lm_ {P : Prop} (h : P := by
    first | rfl | with_reducible assumption | omega | (simp only [List.length_append, List.length_cons, List.length_nil, List.length_map, List.length_set, List.length_replicate, List.length_take, List.length_drop, List.map_append, List.map_cons, List.map_nil, List.map_set, List.set_set, List.map_replicate, List.map_take, List.map_drop] <;> first | rfl | omega | (simp only [aHG] at * <;> omega)) | (simp only [aHG] at * <;> omega) | (simp only [aHG, List.length_append, List.length_cons, List.length_nil, List.length_take, List.length_drop, List.length_map] at * <;> omega)) : P := h
theorem aFW {α : Type} {o : Option Ob} {e sz : Nat} {es : List TypeId} {en : α → List V} {l : List α} {i : Nat} {r : α} (h : o = some (.deep e sz es ((l.map en).set i (en r)))) : o = some (.deep e sz es ((l.set i r).map en)) := by rw [h, List.map_set]
theorem fm_ {P : Prop} (h : P := by
    first | rfl
          | (refine aFW ?_; rfl)
          | (conv => lhs; whnf
             all_goals (first | rfl | (simp only [List.map_append, List.map_cons, List.map_nil, List.map_set, List.set_set, List.map_replicate, List.map_take, List.map_drop] <;> rfl)))) : P := h
theorem fi_ {P : Prop} (h : P := by repeat (first | exact trivial | refine ⟨rfl, ?_⟩)) : P := h
theorem lt_ {P : Prop} (h : P := by first | omega | (dsimp only; omega)) : P := h
/-- values that are the same, one by one -/
def LE : List V → List V → Prop
  | [], [] => True
  | a :: l, b :: k => a = b ∧ LE l k
  | _, _ => False
theorem iX : ∀ {us vs : List V}, LE us vs → us = vs
  | [], [], _ => rfl
  | a :: l, b :: k, ⟨h, g⟩ => by rw [h, iX g]
  | [], _ :: _, h => h.elim
  | _ :: _, [], h => h.elim
theorem kF {u : V} {sz a n : Nat} {xs ys : List (List V)} (h0 : u = .sl sz a xs) (h : a = n) (k : xs = ys) : u = .sl sz n ys := by rw [h0, h, k]
theorem zY {o : Option Ob} {us vs : List V} (h0 : o = some (.box us)) (h : LE us vs) : o = some (.box vs) := by rw [h0, iX h]
theorem nD : ∀ ob ∈ ([] : List Ob), lS ob := fun ob h => by cases h
theorem zP {ob : Ob} {l : List Ob} (h : lS ob) (k : ∀ ob ∈ l, lS ob) : ∀ o ∈ ob :: l, lS o := fun o ho => by
  rcases List.mem_cons.1 ho with rfl | ho
  · exact h
  · exact k o ho
theorem qD {α : Type} {e sz : Nat} {en : α → List V} {l : List α} (h : ∀ x, (en x).all V.bare = true) : lS (.arr e sz (l.map en)) := fun p hp u hu => by
  obtain ⟨x, _, rfl⟩ := List.mem_map.1 hp
  unfold V.bareE
  rw [List.all_eq_true.1 (h x) u hu]; rfl
theorem vX {xs ys : List (List V)} {i : Nat} {p : List V} (h : xs = ys) (k : ys[i]? = some p) : xs[i]? = some p := by rw [h]; exact k
theorem aEZ {α : Type} (en : α → List V) (l : List α) (i : Int) (r : α) (h0 : 0 ≤ i) (h1 : i < (l.length : Int)) : ((l.set i.toNat r).map en)[i.toNat]? = some (en r) := by
  have : i.toNat < l.length := by omega
  simp [this]
theorem eL {i a b : Nat} (h : a = b) : V.own i a = V.own i b := by rw [h]
section
variable {ck : Nat → Bool} {m : Nat → Option Ob}
theorem gP {sz a n : Nat} {xs ys : List (List V)} (h : a = n) (k : xs = ys) : AvA ck m (.sl sz a xs) (.sl sz n ys) := by subst h; subst k; exact hY rfl
end
section
variable {σ : St} {rn : List (Option Nat)} {fz : List Nat}
theorem aDD {sz a n : Nat} {xs ys : List (List V)} (h : a = n) (k : xs = ys) : Rt σ rn fz (.sl sz a xs) (.sl sz n ys) := by subst h; subst k; exact fW rfl
theorem jH {i len e sz n : Nat} {xs ys : List (List V)} (hm : σ.mem i = some (.arr e sz xs)) (h : len = n) (k : xs = ys) (hf : fS fz i = true) : Rt σ rn fz (.own i len) (.sl sz n ys) := by subst h; subst k; exact aGB hm ((iE _ _).1 hf)
theorem nY {i len e sz n : Nat} {xs ys : List (List V)} (hm : σ.mem i = some (.arr e sz xs)) (h : len = n) (k : xs = ys) (hf : fS fz i = true) : RtA σ rn fz (.own i len) (.sl sz n ys) := by subst h; subst k; exact aEG hm ((iE _ _).1 hf)
theorem vF {i len e sz : Nat} {xs : List (List V)} (hm : σ.mem i = some (.arr e sz xs)) (hf : fS fz i = true) : Rt σ rn fz (.own i len) (.sl sz len xs) := aGB hm ((iE _ _).1 hf)
theorem mP {i len e sz : Nat} {xs : List (List V)} (hm : σ.mem i = some (.arr e sz xs)) (hf : fS fz i = true) : RtA σ rn fz (.own i len) (.sl sz len xs) := aEG hm ((iE _ _).1 hf)
end
/-! ### short forms -/
def evs (env : Nat → V) : List (Nat × V) → List V
  | [] => []
  | (t, _) :: l => env t :: evs env l
def sds : List (Nat × V) → List V
  | [] => []
  | (_, v) :: l => v :: sds l
def mms (mem : Nat → Option Ob) : List (Nat × Ob) → List (Option Ob)
  | [] => []
  | (i, _) :: l => mem i :: mms mem l
def obs : List (Nat × Ob) → List (Option Ob)
  | [] => []
  | (_, ob) :: l => some ob :: obs l
theorem aEH {mem : Nat → Option Ob} {env : Nat → V} : ∀ E : List (Nat × V), evs env E = sds E → CE0 mem [] env E
  | [], _ => trivial
  | (t, v) :: l, h => ⟨.inl (List.cons.inj h).1, aEH l (List.cons.inj h).2⟩
theorem aDL {mem : Nat → Option Ob} : ∀ B : List (Nat × Ob), mms mem B = obs B → CB0 mem B
  | [], _ => trivial
  | (i, ob) :: l, h => ⟨(List.cons.inj h).1, aDL l (List.cons.inj h).2⟩
theorem cu {K : St → Prop} {σ : St} (n : Nat) (E : List (Nat × V)) (B : List (Nat × Ob)) (h0 : σ.next = n) (h1 : evs σ.env E = sds E) (h2 : mms σ.mem B = obs B) (k : K (low n E B)) (hk : (B.all fun p => !p.2.isT) = true := by rfl) : Cut none K σ := iQ n E B h0 (aEH E h1) (aDL B h2) k hk
theorem wH {ck : Nat → Bool} {m : Nat → Option Ob} : ∀ us : List V, us.all V.shut = true → AvL ck m us us
  | [], _ => gB
  | u :: us, h => by
    rw [List.all_cons, Bool.and_eq_true] at h
    exact bR (bS h.1) (wH us h.2)
theorem uJ {ck : Nat → Bool} {m : Nat → Option Ob} : ∀ us : List V, us.all V.shutA = true → rA ck m us us
  | [], _ => fE
  | u :: us, h => by
    rw [List.all_cons, Bool.and_eq_true] at h
    refine bW ?_ (uJ us h.2)
    by_cases hx : ∃ cs, u = .agg cs
    · obtain ⟨cs, rfl⟩ := hx
      exact gC (wH cs h.1)
    · exact hY (by cases u <;> first | exact h.1 | exact absurd ⟨_, rfl⟩ hx)
theorem cmk {P : Program} {G : Nat → Option Obj} {ck : Nat → Bool} {id : Nat} {us : List V} {m : Nat → Option Ob} {f : FuncId} {k : V → Eff → Prop} {mo : List Ob} {r : V} (h : cK P G f [] us mo r) (hs : us.all V.shutA = true) (hf : (r.flat && (mo.all Ob.isA && Nat.ble mo.length 8)) = true) (hk : k (r.ren (id + ·)) (Eff.setL id mo)) : kW P G ck id us m f k := by
  simp only [Bool.and_eq_true] at hf
  exact fM h (uJ us hs) (.inl hs) hf.1 hf.2.1 (Nat.le_of_ble_eq_true hf.2.2) hk
theorem aES {σ : St} {rn : List (Option Nat)} {fz : List Nat} {u : V} (h : u.shut = true) : Rt σ rn fz u u := fW (by cases u <;> first | rfl | cases h)
theorem xC {σ : St} {rn : List (Option Nat)} {fz : List Nat} : ∀ us : List V, us.all V.shut = true → RtL σ rn fz us us
  | [], _ => hQ
  | u :: us, h => by
    rw [List.all_cons, Bool.and_eq_true] at h
    exact cC (aES h.1) (xC us h.2)
theorem rta {σ : St} {rn : List (Option Nat)} {fz : List Nat} {u : V} (h : u.shutA = true) : RtA σ rn fz u u := by
  by_cases hx : ∃ cs, u = .agg cs
  · obtain ⟨cs, rfl⟩ := hx
    exact gW (xC cs h)
  · refine gX ?_
    have h : u.shut = true := by cases u <;> first | exact h | exact absurd ⟨_, rfl⟩ hx
    cases u <;> first | rfl | cases h
theorem uQ {σ : St} {rn : List (Option Nat)} {fz : List Nat} : ∀ us : List V, us.all V.shutA = true → tK σ rn fz us us
  | [], _ => gJ
  | u :: us, h => by
    rw [List.all_cons, Bool.and_eq_true] at h
    exact dL (rta h.1) (uQ us h.2)
theorem rz {u : V} {σ : St} (h : u.shutA = true) : mV [] [] u σ [u] := jL [] (rta h)
theorem rts {u1 u2 : V} {us : List V} {σ : St} (h : (u1 :: u2 :: us).all V.shutA = true) : mV [] [] (.tup (u1 :: u2 :: us)) σ (u1 :: u2 :: us) := iG [] (uQ _ h)
theorem aCN {rn : List (Option Nat)} {env : Nat → V} : ∀ E : List (Nat × V), evs env E = sds E → (sds E).all V.shutA = true → FE rn env E
  | [], _, _ => trivial
  | (t, v) :: l, h, hs => by
    rw [show sds ((t, v) :: l) = v :: sds l from rfl, List.all_cons, Bool.and_eq_true] at hs
    refine ⟨?_, aCN l (List.cons.inj h).2 hs.2⟩
    have h1 := (List.cons.inj h).1
    rw [h1]
    have h2 := hs.1
    cases v <;> first | exact .inl ⟨rfl, h2⟩ | cases h2
theorem fq {σ0 σ : St} {md : List Nat} {E : List (Nat × V)} (h1 : evs σ.env E = sds E) (h2 : (sds E).all V.shutA = true) (h3 : FI md σ.mem σ0.mem σ0.ids) (h5 : FS σ0.ids md σ0.next [] [] [] = true) : cM σ0 σ md E [] [] [] := bG (aCN E h1 h2) trivial h3 trivial h5
end Go.Aw

set_option linter.unusedVariables false
namespace Go.Aw
open Go.RowKit Go.Deep Go.ChangeShapes Go.WideShapes Go.ChangeAt
/-! ### arguments read as data: what they hold -/
def RcL (w : World) (A : Nat → Prop) (us : List V) (cs : List Value) : Prop := cs.length = us.length ∧ ∀ (i : Nat) (u : V) (c : Value), us[i]? = some u → cs[i]? = some c → Rc w A u c ∧ c.oneCell' = true
theorem RcL.one {w : World} {A : Nat → Prop} {u : V} {c : Value} (h : Rc w A u c) (h1 : c.oneCell' = true) : RcL w A [u] [c] := ⟨rfl, fun i u' c' hu hc => by
  cases i with
  | zero => simp at hu hc; subst hu; subst hc; exact ⟨h, h1⟩
  | succ i => simp at hu⟩
theorem RcL.append {w : World} {A : Nat → Prop} {us vs : List V} {cs ds : List Value} (h : RcL w A us cs) (k : RcL w A vs ds) : RcL w A (us ++ vs) (cs ++ ds) := by
  refine ⟨by simp [h.1, k.1], fun i u c hu hc => ?_⟩
  by_cases hi : i < us.length
  · rw [List.getElem?_append_left hi] at hu
    rw [List.getElem?_append_left (by rw [h.1]; exact hi)] at hc
    exact h.2 i u c hu hc
  · rw [List.getElem?_append_right (by omega)] at hu
    rw [List.getElem?_append_right (by rw [h.1]; omega), h.1] at hc
    exact k.2 _ u c hu hc
/-- all that lies there -/
def zF (w : World) : Nat → Prop := fun b => b < w.heap.size
def Opn {α : Type} (P : Program) (t : TypeId) (enc : α → List V) (okx : α → Prop) : Prop :=
  ∀ (H : Type) (en : TypeId × Value → H) (w : World) (fuel : Nat) (cs : List Value) (y : DataW H × List MemPlace),
    DataW.trod en P w 0 (fun _ => true) true fuel t cs = some y → (∀ n ∈ y.1.weights P t, n ≤ reachBytes) → ∃ x, RcL w (zF w) (enc x) cs ∧ okx x
theorem aFM {P : Program} {t : TypeId} {k : IntKind} (ht : P.underlying t = some (.int k)) : Opn P t (fun x : Int => [.int k x]) (fun x => (Lit.int k x).wf = true) := by
  intro H en w fuel cs y h _
  obtain ⟨n, rfl, _, hw⟩ := DataW.trod_int ht h
  exact ⟨n, .one (.int k n) rfl, hw⟩
theorem aFS {α : Type} (Q : Nat → α → Prop) (n : Nat) (h : ∀ i, i < n → ∃ x, Q i x) : ∃ xs : List α, xs.length = n ∧ ∀ (j : Nat) (p : α), xs[j]? = some p → Q j p := by
  induction n with
  | zero => exact ⟨[], rfl, fun j p hp => by simp at hp⟩
  | succ n ih =>
    obtain ⟨xs, hl, hx⟩ := ih (fun i hi => h i (by omega))
    obtain ⟨x, hq⟩ := h n (by omega)
    refine ⟨xs ++ [x], by simp [hl], fun j p hp => ?_⟩
    by_cases c : j < n
    · rw [List.getElem?_append_left (by omega)] at hp; exact hx j p hp
    · have hj : j = n := by
        have := (List.getElem?_eq_some_iff.1 hp).1
        simp [hl] at this; omega
      subst hj
      rw [List.getElem?_append_right (by omega), hl, Nat.sub_self] at hp
      injection hp with hp
      exact hp ▸ hq
theorem nK {H : Type} {P : Program} {e : TypeId} {d : DataW H} : ∀ {ds : List (DataW H)}, d ∈ ds → ∀ n ∈ d.weights P e, n ∈ DataW.weightsAll P e ds
  | d0 :: ds, hd, n, hn => by
    simp only [DataW.weightsAll, List.mem_append]
    rcases List.mem_cons.1 hd with rfl | hd
    · exact Or.inl hn
    · exact Or.inr (nK hd n hn)
theorem sB {H : Type} (D : Nat → DataW H) (len m : Nat) (hl : len ≤ m) (i : Nat) (hi : i < len) : D i ∈ (List.range len).map D := List.mem_map.2 ⟨i, List.mem_range.2 hi, rfl⟩
theorem aBQ {w : World} {a : Addr} {v : Value} (h : w.cell? a = some v) : a.block < w.heap.size := by
  unfold World.cell? at h
  split at h
  · rename_i hb; exact (Array.getElem?_eq_some_iff.1 hb).1
  · cases h
theorem aBY {α : Type} {P : Program} {t e : TypeId} {enc : α → List V} {okx : α → Prop} {b sz : Nat} (ht : P.underlying t = some (.slice e)) (hc : P.cellsOf e = sz) (hp : 0 < sz) (hb0 : P.bytesOf e = b) (hlen : ∀ x, (enc x).length = sz) (he : Opn P e enc okx) :
    Opn P t (fun xs : List α => [.sl sz xs.length (xs.map enc)]) (fun xs => (xs.length ≤ 9223372036854775807 ∧ xs.length * b ≤ 140737488351232) ∧ ∀ x ∈ xs, okx x) := by
  subst hb0
  intro H en w fuel cs y h hw
  rcases open_slice ht h with ⟨rfl, rfl⟩ | ⟨a, len, cap, m, n, D, Pl, rfl, _, hl, hm, hmm, rfl, hel⟩
  · exact ⟨[], .one (.sl sz 0 [] rfl none 0 (fun _ => undef) (Nat.le_refl _) (fun _ h => by cases h) (fun h => absurd rfl h) (fun _ _ _ h => by cases h) (fun _ _ h => by simp at h) (fun _ _ h => by simp at h)) rfl, ⟨by simp, by simp⟩, fun x hx => by cases hx⟩
  have hm2 : m = cap := by simpa using hmm
  subst hm2
  simp only [DataW.weights, ht, List.mem_cons, List.mem_append] at hw
  have hex : ∀ i, i < len → ∃ x, (∃ c, w.cells? 0 (a.add (i * P.cellsOf e)) (P.cellsOf e) = some c ∧ RcL w (zF w) (enc x) c) ∧ okx x := fun i hi => by
    obtain ⟨cs', h1, h2⟩ := hel i (by omega)
    obtain ⟨x, hk, ho⟩ := he _ en w n cs' _ h2 (fun q hq => hw q (Or.inr (Or.inl (nK (sB D len m hl i hi) q hq))))
    exact ⟨x, ⟨cs', h1, hk⟩, ho⟩
  obtain ⟨xs, hxl, hx⟩ := aFS _ len hex
  have hb : (len + (m - len)) * P.bytesOf e ≤ reachBytes := by
    have := hw _ (Or.inl rfl)
    simpa using this
  have hu : ∀ p ∈ xs.map enc, p.length = sz := fun p hp => by
    obtain ⟨x, _, rfl⟩ := List.mem_map.1 hp
    exact hlen x
  have key : ∀ (k : Nat) (u : V), (xs.map enc).flatten[k]? = some u → ∃ c, w.cell? (a.add k) = some c ∧ Rc w (zF w) u c ∧ c.oneCell' = true := fun k u hk => by
    obtain ⟨p, h1, h2⟩ := kO _ k u hu hk
    simp only [List.getElem?_map, Option.map_eq_some_iff] at h1
    obtain ⟨x, h1, rfl⟩ := h1
    obtain ⟨⟨c, g1, g2⟩, _⟩ := hx _ x h1
    have hlt : k % sz < c.length := by rw [g2.1, hlen]; exact Nat.mod_lt _ hp
    obtain ⟨_, hcl, hcc⟩ := World.cells?_some g1
    have e1 := hcc (k % sz) (by rw [hc]; exact Nat.mod_lt _ hp)
    rw [Go.Deep.add_add, hc, Nat.div_add_mod' k sz, List.getElem?_eq_getElem hlt] at e1
    obtain ⟨q1, q2⟩ := g2.2 _ u _ h2 (List.getElem?_eq_getElem hlt)
    exact ⟨_, e1, q1, q2⟩
  subst hxl
  refine ⟨xs, .one (.sl sz xs.length (xs.map enc) (by simp) (some a) m (fun k => (w.cell? (a.add k)).getD undef) (by simpa using hl) hu (fun hn => ⟨a, rfl, ?_⟩) (fun ad k u ha hk => ?_) (fun k u hk => ?_) (fun k u hk => ?_)) rfl, ⟨?_, ?_⟩, fun x hxm => ?_⟩
  · have h0 : xs ≠ [] := fun h => hn (by rw [h]; rfl)
    have hl0 : 0 < xs.length := List.length_pos_iff.2 h0
    have hfl := iH (xs.map enc) hu
    obtain ⟨c, h1, _⟩ := key 0 _ (List.getElem?_eq_getElem (by rw [hfl]; exact Nat.mul_pos (by simpa using hl0) hp))
    have := aBQ h1
    rwa [kJ] at this
  · injection ha with ha; subst ha
    obtain ⟨c, h1, _⟩ := key k u hk
    rw [h1]; rfl
  · obtain ⟨c, h1, h2, _⟩ := key k u hk
    rw [h1]; exact h2
  · obtain ⟨c, h1, _, h2⟩ := key k u hk
    rw [h1]; exact h2
  · unfold maxLen at hm; omega
  · exact Nat.le_trans (Nat.mul_le_mul_right _ (by omega)) hb
  · obtain ⟨j, hj, hj2⟩ := List.getElem_of_mem hxm
    exact (hx j x (by rw [List.getElem?_eq_getElem hj, hj2])).2
theorem tU {β : Type} {P : Program} {t e : TypeId} {en0 : β → V} {okx : β → Prop} {H : Type} {en : TypeId × Value → H} {w : World} {r : Reach} {b0 : Nat} {v : Value} {d : DataW H} {p : List MemPlace}
    (ht : P.underlying t = some (.slice e)) (ho : Opn P t (fun x => [en0 x]) okx) (hv : Value.okWide P w r b0 t v) (h : DataW.Trod en P w 0 (fun _ => true) true t v d p) (hw : ∀ n ∈ d.weights P t, n ≤ reachBytes) :
    ∃ x, Rv w (zF w) (fun _ => none) (en0 x) v ∧ okx x := by
  obtain ⟨a, len, cap, rfl⟩ := okWide_slice ht hv
  obtain ⟨fuel, hf⟩ := h
  obtain ⟨x, hk, hx⟩ := ho _ en w fuel _ _ hf hw
  exact ⟨x, .c (hk.2 0 _ _ rfl rfl).1, hx⟩
def RvL (w : World) (A : Nat → Prop) : List V → List Value → Prop
  | [], [] => True
  | x :: xs, v :: vs => Rv w A (fun _ => none) x v ∧ RvL w A xs vs
  | _, _ => False
theorem RvL.get {w : World} {A : Nat → Prop} : ∀ (xs : List V) (vs : List Value), RvL w A xs vs → vs.length = xs.length ∧ ∀ (i : Nat) (x : V) (v : Value), xs[i]? = some x → vs[i]? = some v → Rv w A (fun _ => none) x v
  | [], [], _ => ⟨rfl, fun i x v h => by simp at h⟩
  | [], _ :: _, h => h.elim
  | _ :: _, [], h => h.elim
  | x :: xs, v :: vs, ⟨a, b⟩ => by
    obtain ⟨g1, g2⟩ := RvL.get xs vs b
    refine ⟨by simp [g1], fun i y u hy hu => ?_⟩
    cases i with
    | zero => simp at hy hu; subst hy; subst hu; exact a
    | succ i => exact g2 i y u (by simpa using hy) (by simpa using hu)
/-- a function that takes data and says yes or no -/
theorem yN {P : Program} {G : Nat → Option Obj} {f : FuncId} {Vs : List V} {b : Bool} (h : cK P G f [] Vs [] (.bool b)) {w : World} {vs : List Value} (hv : RvL w (zF w) Vs vs) (hG : Gl G w (zF w)) :
    Calls P f vs.toArray w fun e w' => e = .returned (.bool b) ∧ Below w.heap.size w w' := by
  obtain ⟨g1, g2⟩ := RvL.get Vs vs hv
  refine (h.2 w (zF w) (fun _ => none) vs.toArray (by simpa using g1) (fun i x v hx hv => g2 i x v hx (by simpa using hv)) (fun b hb => hb) hG ⟨fun m ob hm => by simp at hm, fun i j li lj b hi => by simp at hi, fun i hi => absurd rfl hi⟩).mono fun e w' ⟨v, A', μ', he, hp⟩ => ?_
  subst he
  have := hp.res.bool_inv; subst this
  exact ⟨rfl, hp.os, hp.tape, hp.out, hp.size, fun k hk => hp.old k hk (fun ⟨m, l, hm, _⟩ => by simp at hm)⟩
theorem aFF {w : World} {A : Nat → Prop} : Gl (fun _ => none) w A := fun g o h => by cases h
end Go.Aw

namespace Go.Aw
open Go.Shelf Go.Sort Go.RowKit Go.Proofs
set_option linter.unusedVariables false
set_option linter.unusedSimpArgs false

/-- strings as the sort takes them -/
def rE (ss : List (List UInt8)) : List (List V) := ss.map fun s => [.str ⟨s.toArray⟩]
theorem uP (ss : List (List UInt8)) : (rE ss).flatten = ss.map fun s => V.str ⟨s.toArray⟩ := by
  induction ss with
  | nil => rfl
  | cons s ss ih => simp only [rE, List.map_cons, List.flatten_cons] at ih ⊢; rw [ih]; rfl

theorem aFZ {P : Program} {ρ : Ren} (Ly : Lays.n192 P ρ) (hf : Fok P (ρ.f 192)) (G : Nat → Option Obj) (e : TypeId) (ss : List (List UInt8)) (hsz : ss.length < 4611686018427387904) :
    cK P G (ρ.f 192) [.arr e 1 (rE ss)] [.own 0 ss.length] [.arr e 1 (rE (ss.mergeSort fun x y => decide (x ≤ y)))] (.und) := by
  refine ⟨hf, fun w A μ vs hvs hv hbd hG hO => ?_⟩
  obtain ⟨vs⟩ := vs
  rcases vs with _ | ⟨v0, _ | ⟨_, _⟩⟩ <;> simp at hvs
  have hv0 := hv 0 (.own 0 ss.length) v0 rfl rfl
  obtain ⟨l, hl, hob, hb⟩ := hO.ob 0 _ rfl
  have hv1 : v0 = .slice (l.b.map (⟨·, 0, none⟩)) l.len l.cap := by
    generalize hu : V.own 0 ss.length = u at hv0
    cases hv0 with
    | c h => subst hu; cases h
    | own i l' h' => injection hu with e1 e2; subst e1; rw [hl] at h'; injection h' with h'; subst h'; rfl
    | _ => cases hu
  subst hv1
  obtain ⟨h1, h2, h3, cs, ⟨ho1, ho2⟩, hone, h5⟩ := hob
  have h2' : l.len = ss.length := by rw [h2]; simp [rE]
  rcases ho2 with ⟨e1, e2⟩ | ⟨g, cap, cur, e1, e2, e3, e4, e5, e6, e7⟩
  · have : ss = [] := List.length_eq_zero_iff.1 (by omega)
    subst this
    rw [e2]
    refine (Any.sort_Strings_none Ly _ _ w).mono ?_
    rintro e w' ⟨rfl, rfl⟩
    refine ⟨_, A, μ, rfl, rfl, rfl, rfl, Nat.le_refl _, fun _ _ _ => rfl, fun b h => ⟨hbd b h, .inl h⟩, fun _ h => h, .c (.und _), fun _ _ => rfl, ?_⟩
    refine ⟨fun m ob hm => ?_, hO.ap, hO.bd⟩
    obtain ⟨l', hl', hob', hb'⟩ := hO.ob m ob (by simpa [rE] using hm)
    refine ⟨l', hl', hob', fun b hb0 => ⟨(hb' b hb0).1, (hb' b hb0).2.1, .inl ⟨m, l', ?_, hl', hb0⟩⟩⟩
    rcases m with _ | m
    · exact Nat.one_pos
    · simp at hm
  · injection e1 with e1 _ ecap
    have hlb : l.b = some g := by
      cases hlb : l.b with
      | none => rw [hlb] at e1; simp at e1
      | some b => rw [hlb] at e1; simp at e1; rw [e1]
    obtain ⟨hgs, hgA, _⟩ := hb g (.inl hlb)
    have hl1 : cs.length = ss.length := by rw [ho1, h2']; simp
    have hcs : ∀ k (hk : k < ss.length), cs[k]? = some (encStr ss[k]) := fun k hk => by
      obtain ⟨c, hc⟩ : ∃ c, cs[k]? = some c := ⟨cs[k], by simp [hl1, hk]⟩
      have := h5 k (.str ⟨ss[k].toArray⟩) c (by rw [uP]; simp [hk]) hc
      rw [hc]; cases this; rfl
    have hcur : ∀ k (hk : k < ss.length), cur[k]? = some (encStr ss[k]) := fun k hk => by
      have := hcs k hk
      rw [← e7, List.getElem?_take_of_lt (by rw [h2']; omega)] at this
      simpa using this
    have hH : Holds encStr w g 0 ss.toArray := fun j hj => by
      have hj' : j < ss.length := by simpa using hj
      constructor
      · simp only [World.cell?, e3, Nat.zero_add]
        rw [hcur j hj']; simp [hj']
      · simp [World.frozen?, e3]
    rw [e1, h2']
    refine (Any.sort_Strings Ly g 0 l.cap ss w hH hgs hsz).mono ?_
    rintro e w' ⟨rfl, n, os, rfl⟩
    have hsl : (ss.mergeSort fun x y => decide (x ≤ y)).length = ss.length := List.length_mergeSort _
    generalize ss.mergeSort (fun x y => decide (x ≤ y)) = ts at *
    have hold : ∀ b, b < w.heap.size → b ≠ g → (grow (putRow encStr (Go.Sort.ahead w n) g 0 ts.toArray) os).heap[b]? = w.heap[b]? := fun b hb hbg => by
      rw [heap_grow_old _ _ (by simpa using hb)]
      simp only [putRow, mapBlock, heap_ahead, Array.getElem?_modify]
      rw [if_neg (Ne.symm hbg)]
    have hg : (grow (putRow encStr (Go.Sort.ahead w n) g 0 ts.toArray) os).heap[g]? = some (.cells (putCells encStr 0 ts.toArray cur) e (0, 0)) := by
      rw [heap_grow_old _ _ (by simpa using hgs)]
      simp only [putRow, mapBlock, heap_ahead, Array.getElem?_modify]
      rw [e3]; simp [onCells]
    refine ⟨_, A, μ, rfl, rfl, rfl, rfl, by simp, fun b hb' hnb => hold b hb' (fun h => hnb ⟨0, l, Nat.one_pos, hl, .inl (h ▸ hlb)⟩), fun b h => ⟨Nat.lt_of_lt_of_le (hbd b h) (by simp), .inl h⟩, fun _ h => h, .c (.und _), fun _ _ => rfl, ?_⟩
    refine ⟨fun m ob hm => ?_, fun i j li lj b hi hj => hO.ap i j li lj b hi hj, fun i hi => hO.bd i hi⟩
    rcases m with _ | m
    · simp at hm
      subst hm
      refine ⟨l, hl, ⟨h1, by simp [rE, h2', hsl], by simp [rE], ts.map encStr, ⟨by simp [hsl, h2'], .inr ⟨g, cap, putCells encStr 0 ts.toArray cur, by rw [hlb, ecap]; rfl, Nat.zero_le _, hg, e4, e5, by simpa [putCells] using e6, ?_⟩⟩, ?_, ?_⟩, fun b hb' => ?_⟩
      · apply List.ext_getElem?
        intro k
        by_cases hk : k < ts.length
        · rw [List.getElem?_take_of_lt (by omega)]
          have := hcur k (by omega)
          simp [putCells, this, hk]
        · rw [List.getElem?_eq_none (by simp; omega), List.getElem?_eq_none (by simp; omega)]
      · intro c hc; simp at hc; obtain ⟨s, _, rfl⟩ := hc; rfl
      · intro k u c hu hc
        rw [uP] at hu
        simp at hu hc
        obtain ⟨s, hs, rfl⟩ := hu
        obtain ⟨s', hs', rfl⟩ := hc
        rw [hs] at hs'; injection hs' with hs'; subst hs'
        exact .str _
      · obtain ⟨q1, q2, _⟩ := hb b hb'
        exact ⟨by simpa using Nat.lt_of_lt_of_le q1 (Nat.le_add_right _ _), q2, .inl ⟨0, l, Nat.one_pos, hl, hb'⟩⟩
    · simp at hm

/-- a row of texts, sorted -/
def qW (l : List ByteArray) : List ByteArray := ((l.map fun s => s.data.toList).mergeSort fun x y => decide (x ≤ y)).map fun b => ⟨b.toArray⟩
def lO (l : List ByteArray) : Option (List ByteArray) := if l.length < 4611686018427387904 then some (qW l) else none
theorem xU {P : Program} {ρ : Ren} (Ly : Lays.n192 P ρ) {n : FuncId} (hf : Fok P n) (G : Nat → Option Obj) (e : TypeId) (hn : ρ.f 192 = n) {l r : List ByteArray} (H : lO l = some r) {en : ByteArray → List V} (hen : ∀ s, en s = [.str s]) :
    cK P G n [.arr e 1 (l.map en)] [.own 0 l.length] [.arr e 1 (r.map en)] .und := by
  subst hn
  unfold lO at H
  split at H
  · rename_i hl
    injection H with H; subst H
    have := aFZ Ly hf G e (l.map fun s => s.data.toList) (by rw [List.length_map]; exact hl)
    rw [List.length_map] at this
    have e1 : rE (l.map fun s => s.data.toList) = l.map en := by
      unfold rE; rw [List.map_map]; apply List.map_congr_left; intro s _; rw [hen]; rfl
    have e2 : rE ((l.map fun s => s.data.toList).mergeSort fun x y => decide (x ≤ y)) = (qW l).map en := by
      unfold rE qW; rw [List.map_map]; apply List.map_congr_left; intro s _; simp only [Function.comp_apply]; rw [hen]
    rw [e1, e2] at this
    exact this
  · cases H
theorem uS {l r : List ByteArray} (H : lO l = some r) : r.length = l.length := by
  unfold lO at H
  split at H
  · injection H with H; subst H; simp [qW]
  · cases H
theorem aBX {l r : List ByteArray} (H : lO l = some r) (x : ByteArray) : x ∈ r ↔ x ∈ l := by
  unfold lO at H
  split at H
  · injection H with H; subst H
    simp only [qW, List.mem_map, List.mem_mergeSort]
    constructor
    · rintro ⟨b, ⟨y, hy, rfl⟩, rfl⟩; exact hy
    · intro h; exact ⟨x.data.toList, ⟨x, h, rfl⟩, rfl⟩
  · cases H
theorem pO : ∀ (x y : List UInt8), Op.bytesLess x y = decide (x < y)
  | [], [] => by simp [Op.bytesLess]
  | _ :: _, [] => by simp [Op.bytesLess]
  | [], _ :: _ => by simp [Op.bytesLess]
  | a :: x, b :: y => by
    rw [Op.bytesLess, pO x y]
    simp only [List.cons_lt_cons_iff]
    by_cases h1 : a < b <;> by_cases h2 : a = b <;> by_cases h3 : x < y <;> simp [h1, h2, h3]
theorem aCD {l r : List ByteArray} (H : lO l = some r) (hn : l.Nodup) : r.Pairwise fun x y => Op.bytesLess x.toList y.toList = true := by
  unfold lO at H
  split at H
  · injection H with H; subst H
    unfold qW
    have tr : ∀ a b c : List UInt8, decide (a ≤ b) = true → decide (b ≤ c) = true → decide (a ≤ c) = true := fun a b c h k => by
      simp only [decide_eq_true_eq] at h k ⊢; exact List.le_trans h k
    have to : ∀ a b : List UInt8, (decide (a ≤ b) || decide (b ≤ a)) = true := fun a b => by
      simp only [Bool.or_eq_true, decide_eq_true_eq]; exact List.le_total a b
    have h1 := List.pairwise_mergeSort tr to (l.map fun s => s.data.toList)
    have h2 : (l.map fun s => s.data.toList).Nodup := by
      refine List.Pairwise.map _ (fun a b h e => h ?_) hn
      apply ByteArray.ext; apply Array.ext'; exact e
    have h3 := (List.mergeSort_perm (l.map fun s => s.data.toList) fun x y => decide (x ≤ y)).nodup_iff.2 h2
    have h4 := List.Pairwise.and h1 h3
    refine List.Pairwise.map _ (fun a b h => ?_) h4
    have e : ∀ x : List UInt8, ByteArray.toList ⟨x.toArray⟩ = x := fun x => by rw [ByteArray.toList_eq]
    simp only [decide_eq_true_eq] at h
    rw [e, e, pO, decide_eq_true_eq]
    refine Classical.byContradiction fun q => h.2 ?_
    exact List.le_antisymm h.1 (List.not_lt.1 q)
  · cases H
#print axioms xU
end Go.Aw

