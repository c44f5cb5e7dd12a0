import Derived.Test.YtnobkcplpbkigaaGreatDoorY2
import Derived.Laws.Strings
import Derived.RowKit
import Derived.Deep.Slices
import Derived.WideShapes
import Derived.ChangeArms
import Derived.DataReads
import Derived.ProofKit
import Derived.OpenShut
import Derived.WalkKit
import Derived.ShutString
import Derived.ChangeOld
import Derived.Below
import Derived.SizedLaws
import Derived.Shelf.Sort.Plain
import Derived.Shelf.Slices.In.SortNone2
import Derived.Shelf.Strings.Cut
import Derived.Shelf.Strings.Split
import Derived.Shelf.Strconv.Itoa3
import Derived.Shelf.LaysM
import Derived.Handed
import Derived.LaidMore
import Derived.LaidHandle
import Derived.LaidLaws
import Derived.MakeChecks
import Derived.Stop.LaidErr
import Derived.Lib.LaidTab
import Derived.Lib.SplitLaws
import Derived.Shelf.SlSortFuncK.WholeK
import Derived.Shelf.GgSortFunc.Tiny
set_option linter.unusedVariables false
set_option linter.unusedSimpArgs false
set_option linter.unusedVariables false
namespace Go.Aw
open Go.RowKit
def rd (xs : List Int) (i : Int) : Int := xs.getD i.toNat 0
def aP {α : Type} (d : α) (xs : List α) (i : Int) : α := xs.getD i.toNat d
def Ev {α : Type} (g : Nat → Option α) (r : α) : Prop := ∃ K, ∀ k, K ≤ k → g k = some r
theorem Ev.now {α : Type} (r : α) : Ev (fun _ => some r) r := ⟨0, fun _ _ => rfl⟩
theorem Ev.rounds {α : Type} {g : Nat → Option α} {r : α} (h : Ev g r) : ∃ k, g k = some r := by
  obtain ⟨K, h⟩ := h
  exact ⟨K, h K (Nat.le_refl _)⟩
theorem Ev.bind {α β : Type} {g : Nat → Option α} {f : Nat → α → Option β} {a : α} {r : β} (h : Ev g a) (k : Ev (fun n => f n a) r) : Ev (fun n => (g n).bind (f n)) r := by
  obtain ⟨K, h⟩ := h
  obtain ⟨L, k⟩ := k
  refine ⟨max K L, fun n hn => ?_⟩
  show (g n).bind (f n) = some r
  rw [h n (by omega)]
  exact k n (by omega)
theorem Ev.step {α : Type} {g f : Nat → Option α} {r : α} (h : ∀ k, g (k + 1) = f k) (k : Ev f r) : Ev g r := by
  obtain ⟨K, k⟩ := k
  refine ⟨K + 1, fun n hn => ?_⟩
  obtain ⟨m, rfl⟩ : ∃ m, n = m + 1 := ⟨n - 1, by omega⟩
  rw [h m]
  exact k m (by omega)
theorem Ev.congr {α : Type} {g f : Nat → Option α} {r : α} (h : ∀ k, g k = f k) (k : Ev f r) : Ev g r := by
  obtain ⟨K, k⟩ := k
  exact ⟨K, fun n hn => (h n).trans (k n hn)⟩
variable {α : Type} {X Y : Prop} {A B : Option α} {r : α}
theorem kN {b : Bool} (H : (if b = true then A else B) = some r) (h1 : b = true → A = some r → X) (h2 : b = false → B = some r → Y) : Br b X Y := by
  cases b
  · exact Br.f rfl (h2 rfl H)
  · exact Br.t rfl (h1 rfl H)
theorem dU {b : Bool} (H : (if b = true then A else B) = some r) (h1 : b = true → A = some r → Y) (h2 : b = false → B = some r → X) : Br (!b) X Y := by
  cases b
  · exact Br.t rfl (h2 rfl H)
  · exact Br.f rfl (h1 rfl H)
theorem bJ {p : Prop} [Decidable p] (H : (if p then A else B) = some r) (h1 : p → A = some r → X) (h2 : ¬ p → B = some r → Y) : Br (decide p) X Y := by
  by_cases c : p
  · rw [if_pos c] at H; exact Br.t (decide_eq_true c) (h1 c H)
  · rw [if_neg c] at H; exact Br.f (decide_eq_false c) (h2 c H)
theorem iS {p : Prop} [Decidable p] (H : (if p then A else B) = some r) (h1 : p → A = some r → Y) (h2 : ¬ p → B = some r → X) : Br (!decide p) X Y := by
  by_cases c : p
  · rw [if_pos c] at H; exact Br.f (by rw [decide_eq_true c]; rfl) (h1 c H)
  · rw [if_neg c] at H; exact Br.t (by rw [decide_eq_false c]; rfl) (h2 c H)
theorem nd_ {p : Prop} [Decidable p] (H : (if p then A else none) = some r) (h : p → A = some r → X) : Nd p X := by
  by_cases c : p
  · rw [if_pos c] at H; exact Nd.mk c (h c H)
  · rw [if_neg c] at H; cases H
theorem aKY (x : Int) : wr .i64 x = wrap64 x := rfl
theorem lm_ {P : Prop} (h : P := by
    first | rfl | with_reducible assumption | omega | (simp only [List.length_append, List.length_cons, List.length_nil, List.length_map, List.length_set, List.length_replicate, List.length_take, List.length_drop, List.map_append, List.map_cons, List.map_nil, List.map_set, List.set_set, List.map_replicate, List.map_take, List.map_drop] <;> first | rfl | omega | (simp only [aKY] at * <;> omega)) | (simp only [aKY] at * <;> omega) | (simp only [aKY, List.length_append, List.length_cons, List.length_nil, List.length_take, List.length_drop, List.length_map] at * <;> omega)) : P := h
theorem aJD {α : Type} {o : Option Ob} {e sz : Nat} {es : List TypeId} {en : α → List V} {l : List α} {i : Nat} {r : α} (h : o = some (.deep e sz es ((l.map en).set i (en r)))) : o = some (.deep e sz es ((l.set i r).map en)) := by rw [h, List.map_set]
theorem fm_ {P : Prop} (h : P := by
    first | rfl
          | (refine aJD ?_; rfl)
          | (conv => lhs; whnf
             all_goals (first | rfl | (simp only [List.map_append, List.map_cons, List.map_nil, List.map_set, List.set_set, List.map_replicate, List.map_take, List.map_drop] <;> rfl)))) : P := h
theorem fi_ {P : Prop} (h : P := by repeat (first | exact trivial | refine ⟨rfl, ?_⟩)) : P := h
theorem lt_ {P : Prop} (h : P := by first | omega | (dsimp only; omega)) : P := h
def LE : List V → List V → Prop
  | [], [] => True
  | a :: l, b :: k => a = b ∧ LE l k
  | _, _ => False
theorem jH : ∀ {us vs : List V}, LE us vs → us = vs
  | [], [], _ => rfl
  | a :: l, b :: k, ⟨h, g⟩ => by rw [h, jH g]
  | [], _ :: _, h => h.elim
  | _ :: _, [], h => h.elim
theorem nJ {u : V} {sz a n : Nat} {xs ys : List (List V)} (h0 : u = .sl sz a xs) (h : a = n) (k : xs = ys) : u = .sl sz n ys := by rw [h0, h, k]
theorem aIJ {u : V} {i a n : Nat} (h0 : u = .own i a) (h : a = n) : u = .own i n := by rw [h0, h]
theorem aIW {u : V} {t i a n : Nat} (h0 : u = .ifs t i a) (h : a = n) : u = .ifs t i n := by rw [h0, h]
theorem gB {o : Option Ob} {us vs : List V} (h0 : o = some (.box us)) (h : LE us vs) : o = some (.box vs) := by rw [h0, jH h]
theorem lC : ∀ ob ∈ ([] : List Ob), mF ob := fun ob h => by cases h
theorem aCU {ob : Ob} {l : List Ob} (h : mF ob) (k : ∀ ob ∈ l, mF ob) : ∀ o ∈ ob :: l, mF o := fun o ho => by
  rcases List.mem_cons.1 ho with rfl | ho
  · exact h
  · exact k o ho
theorem aGE {α : Type} {e sz : Nat} {en : α → List V} {l : List α} (h : ∀ x, (en x).all V.bare = true) : mF (.arr e sz (l.map en)) := fun p hp u hu => by
  obtain ⟨x, _, rfl⟩ := List.mem_map.1 hp
  unfold V.bareE
  rw [List.all_eq_true.1 (h x) u hu]; rfl
theorem aMW {xs ys : List (List V)} {i : Nat} {p : List V} (h : xs = ys) (k : ys[i]? = some p) : xs[i]? = some p := by rw [h]; exact k
theorem fY {i a b : Nat} (h : a = b) : V.own i a = V.own i b := by rw [h]
section
variable {ck : Nat → Bool} {m : Nat → Option Ob}
theorem iM {sz a n : Nat} {xs ys : List (List V)} (h : a = n) (k : xs = ys) : AvA ck m (.sl sz a xs) (.sl sz n ys) := by subst h; subst k; exact gR rfl
end
section
variable {σ : St} {rn : List (Option Nat)} {fz : List Nat}
theorem aJL {sz a n : Nat} {xs ys : List (List V)} (h : a = n) (k : xs = ys) : RtA σ rn fz (.sl sz a xs) (.sl sz n ys) := by subst h; subst k; exact fV rfl
theorem jJ {i len e sz n : Nat} {xs ys : List (List V)} (hm : σ.mem i = some (.arr e sz xs)) (h : len = n) (k : xs = ys) (hf : fB fz i = true) : Rt σ rn fz (.own i len) (.sl sz n ys) := by subst h; subst k; exact aKG hm ((gX _ _).1 hf)
theorem qO {i len e sz n : Nat} {xs ys : List (List V)} (hm : σ.mem i = some (.arr e sz xs)) (h : len = n) (k : xs = ys) (hf : fB fz i = true) : RtA σ rn fz (.own i len) (.sl sz n ys) := by subst h; subst k; exact aHC hm ((gX _ _).1 hf)
theorem wX {i len e sz : Nat} {xs : List (List V)} (hm : σ.mem i = some (.arr e sz xs)) (hf : fB fz i = true) : Rt σ rn fz (.own i len) (.sl sz len xs) := aKG hm ((gX _ _).1 hf)
theorem nD {i len e sz : Nat} {xs : List (List V)} (hm : σ.mem i = some (.arr e sz xs)) (hf : fB fz i = true) : RtA σ rn fz (.own i len) (.sl sz len xs) := aHC hm ((gX _ _).1 hf)
end
def evs (env : Nat → V) : List (Nat × V) → List V
  | [] => []
  | (t, _) :: l => env t :: evs env l
def sds : List (Nat × V) → List V
  | [] => []
  | (_, v) :: l => v :: sds l
def mms (mem : Nat → Option Ob) : List (Nat × Ob) → List (Option Ob)
  | [] => []
  | (i, _) :: l => mem i :: mms mem l
def obs : List (Nat × Ob) → List (Option Ob)
  | [] => []
  | (_, ob) :: l => some ob :: obs l
theorem aFH {mem : Nat → Option Ob} {env : Nat → V} : ∀ E : List (Nat × V), evs env E = sds E → CE0 mem [] env E
  | [], _ => trivial
  | (t, v) :: l, h => ⟨.inl (List.cons.inj h).1, aFH l (List.cons.inj h).2⟩
theorem aHP {mem : Nat → Option Ob} : ∀ B : List (Nat × Ob), mms mem B = obs B → CB0 mem B
  | [], _ => trivial
  | (i, ob) :: l, h => ⟨(List.cons.inj h).1, aHP l (List.cons.inj h).2⟩
theorem cu {K : St → Prop} {σ : St} (n : Nat) (E : List (Nat × V)) (B : List (Nat × Ob)) (h0 : σ.next = n) (h1 : evs σ.env E = sds E) (h2 : mms σ.mem B = obs B) (k : K (low n E B)) (hk : (B.all fun p => !p.2.isT) = true := by rfl) : Cut none K σ := jD n E B h0 (aFH E h1) (aHP B h2) k hk
theorem yW {ck : Nat → Bool} {m : Nat → Option Ob} : ∀ us : List V, us.all V.shut = true → AvL ck m us us
  | [], _ => fG
  | u :: us, h => by
    rw [List.all_cons, Bool.and_eq_true] at h
    exact bB (bQ h.1) (yW us h.2)
theorem vG {ck : Nat → Bool} {m : Nat → Option Ob} : ∀ us : List V, us.all V.shutA = true → sD ck m us us
  | [], _ => eK
  | u :: us, h => by
    rw [List.all_cons, Bool.and_eq_true] at h
    refine bP ?_ (vG us h.2)
    by_cases hx : ∃ cs, u = .agg cs
    · obtain ⟨cs, rfl⟩ := hx
      exact fH (yW cs h.1)
    · exact gR (by cases u <;> first | exact h.1 | exact absurd ⟨_, rfl⟩ hx)
theorem cmk {P : Program} {G : Nat → Option Obj} {ck : Nat → Bool} {id : Nat} {us : List V} {m : Nat → Option Ob} {f : FuncId} {k : V → Eff → Prop} {mo : List Ob} {r : V} (h : cI P G f [] us mo r) (hs : us.all V.shutA = true) (hf : (r.flat && (mo.all Ob.isA && Nat.ble mo.length 8)) = true) (hk : k (r.ren (id + ·)) (Eff.setL id mo)) : jW P G ck id us m f k := by
  simp only [Bool.and_eq_true] at hf
  exact fA h (vG us hs) (.inl hs) hf.1 hf.2.1 (Nat.le_of_ble_eq_true hf.2.2) hk
theorem aJB {σ : St} {rn : List (Option Nat)} {fz : List Nat} {u : V} (h : u.shut = true) : Rt σ rn fz u u := fZ (by cases u <;> first | rfl | cases h)
theorem xX {σ : St} {rn : List (Option Nat)} {fz : List Nat} : ∀ us : List V, us.all V.shut = true → RtL σ rn fz us us
  | [], _ => fW
  | u :: us, h => by
    rw [List.all_cons, Bool.and_eq_true] at h
    exact bF (aJB h.1) (xX us h.2)
theorem rta {σ : St} {rn : List (Option Nat)} {fz : List Nat} {u : V} (h : u.shutA = true) : RtA σ rn fz u u := by
  by_cases hx : ∃ cs, u = .agg cs
  · obtain ⟨cs, rfl⟩ := hx
    exact fS (xX cs h)
  · refine fV ?_
    have h : u.shut = true := by cases u <;> first | exact h | exact absurd ⟨_, rfl⟩ hx
    cases u <;> first | rfl | cases h
theorem vT {σ : St} {rn : List (Option Nat)} {fz : List Nat} : ∀ us : List V, us.all V.shutA = true → uW σ rn fz us us
  | [], _ => eB
  | u :: us, h => by
    rw [List.all_cons, Bool.and_eq_true] at h
    exact bM (rta h.1) (vT us h.2)
theorem rz {u : V} {σ : St} (h : u.shutA = true) : lH [] [] u σ [u] := oD [] (rta h)
theorem rts {u1 u2 : V} {us : List V} {σ : St} (h : (u1 :: u2 :: us).all V.shutA = true) : lH [] [] (.tup (u1 :: u2 :: us)) σ (u1 :: u2 :: us) := eT [] (vT _ h)
theorem aHO {rn : List (Option Nat)} {env : Nat → V} : ∀ E : List (Nat × V), evs env E = sds E → (sds E).all V.shutA = true → FE rn env E
  | [], _, _ => trivial
  | (t, v) :: l, h, hs => by
    rw [show sds ((t, v) :: l) = v :: sds l from rfl, List.all_cons, Bool.and_eq_true] at hs
    refine ⟨?_, aHO l (List.cons.inj h).2 hs.2⟩
    have h1 := (List.cons.inj h).1
    rw [h1]
    have h2 := hs.1
    cases v <;> first | exact .inl ⟨rfl, h2⟩ | cases h2
theorem fq {σ0 σ : St} {md : List Nat} {E : List (Nat × V)} (h1 : evs σ.env E = sds E) (h2 : (sds E).all V.shutA = true) (h3 : FI md σ.mem σ0.mem σ0.ids) (h5 : FS σ0.ids md σ0.next [] [] [] = true) : cG σ0 σ md E [] [] [] := bR (aHO E h1 h2) trivial h3 trivial h5
end Go.Aw
set_option linter.unusedVariables false
namespace Go.Aw
open Go.RowKit Go.Deep Go.ChangeShapes Go.WideShapes Go.ChangeAt
def RcL (w : World) (A : Nat → Prop) (us : List V) (cs : List Value) : Prop := cs.length = us.length ∧ ∀ (i : Nat) (u : V) (c : Value), us[i]? = some u → cs[i]? = some c → Rc w A u c ∧ c.oneCell' = true
theorem RcL.one {w : World} {A : Nat → Prop} {u : V} {c : Value} (h : Rc w A u c) (h1 : c.oneCell' = true) : RcL w A [u] [c] := ⟨rfl, fun i u' c' hu hc => by
  cases i with
  | zero => simp at hu hc; subst hu; subst hc; exact ⟨h, h1⟩
  | succ i => simp at hu⟩
theorem RcL.append {w : World} {A : Nat → Prop} {us vs : List V} {cs ds : List Value} (h : RcL w A us cs) (k : RcL w A vs ds) : RcL w A (us ++ vs) (cs ++ ds) := by
  refine ⟨by simp [h.1, k.1], fun i u c hu hc => ?_⟩
  by_cases hi : i < us.length
  · rw [List.getElem?_append_left hi] at hu
    rw [List.getElem?_append_left (by rw [h.1]; exact hi)] at hc
    exact h.2 i u c hu hc
  · rw [List.getElem?_append_right (by omega)] at hu
    rw [List.getElem?_append_right (by rw [h.1]; omega), h.1] at hc
    exact k.2 _ u c hu hc
def zB (w : World) : Nat → Prop := fun b => b < w.heap.size
def Opn {α : Type} (P : Program) (t : TypeId) (enc : α → List V) (okx : α → Prop) : Prop :=
  ∀ (H : Type) (en : TypeId × Value → H) (w : World) (fuel : Nat) (cs : List Value) (y : DataW H × List MemPlace),
    DataW.trod en P w 0 (fun _ => true) true fuel t cs = some y → (∀ n ∈ y.1.weights P t, n ≤ reachBytes) → ∃ x, RcL w (zB w) (enc x) cs ∧ okx x
theorem aJU {P : Program} {t : TypeId} {k : IntKind} (ht : P.underlying t = some (.int k)) : Opn P t (fun x : Int => [.int k x]) (fun x => (Lit.int k x).wf = true) := by
  intro H en w fuel cs y h _
  obtain ⟨n, rfl, _, hw⟩ := DataW.trod_int ht h
  exact ⟨n, .one (.int k n) rfl, hw⟩
theorem aIO {α : Type} (Q : Nat → α → Prop) (n : Nat) (h : ∀ i, i < n → ∃ x, Q i x) : ∃ xs : List α, xs.length = n ∧ ∀ (j : Nat) (p : α), xs[j]? = some p → Q j p := by
  induction n with
  | zero => exact ⟨[], rfl, fun j p hp => by simp at hp⟩
  | succ n ih =>
    obtain ⟨xs, hl, hx⟩ := ih (fun i hi => h i (by omega))
    obtain ⟨x, hq⟩ := h n (by omega)
    refine ⟨xs ++ [x], by simp [hl], fun j p hp => ?_⟩
    by_cases c : j < n
    · rw [List.getElem?_append_left (by omega)] at hp; exact hx j p hp
    · have hj : j = n := by
        have := (List.getElem?_eq_some_iff.1 hp).1
        simp [hl] at this; omega
      subst hj
      rw [List.getElem?_append_right (by omega), hl, Nat.sub_self] at hp
      injection hp with hp
      exact hp ▸ hq
theorem nS {H : Type} {P : Program} {e : TypeId} {d : DataW H} : ∀ {ds : List (DataW H)}, d ∈ ds → ∀ n ∈ d.weights P e, n ∈ DataW.weightsAll P e ds
  | d0 :: ds, hd, n, hn => by
    simp only [DataW.weightsAll, List.mem_append]
    rcases List.mem_cons.1 hd with rfl | hd
    · exact Or.inl hn
    · exact Or.inr (nS hd n hn)
theorem tP {H : Type} (D : Nat → DataW H) (len m : Nat) (hl : len ≤ m) (i : Nat) (hi : i < len) : D i ∈ (List.range len).map D := List.mem_map.2 ⟨i, List.mem_range.2 hi, rfl⟩
theorem aDT {w : World} {a : Addr} {v : Value} (h : w.cell? a = some v) : a.block < w.heap.size := by
  unfold World.cell? at h
  split at h
  · rename_i hb; exact (Array.getElem?_eq_some_iff.1 hb).1
  · cases h
theorem aDP {α : Type} {P : Program} {t e : TypeId} {enc : α → List V} {okx : α → Prop} {b sz : Nat} (ht : P.underlying t = some (.slice e)) (hc : P.cellsOf e = sz) (hp : 0 < sz) (hb0 : P.bytesOf e = b) (hlen : ∀ x, (enc x).length = sz) (he : Opn P e enc okx) :
    Opn P t (fun xs : List α => [.sl sz xs.length (xs.map enc)]) (fun xs => (xs.length ≤ 9223372036854775807 ∧ xs.length * b ≤ 140737488351232) ∧ ∀ x ∈ xs, okx x) := by
  subst hb0
  intro H en w fuel cs y h hw
  rcases open_slice ht h with ⟨rfl, rfl⟩ | ⟨a, len, cap, m, n, D, Pl, rfl, _, hl, hm, hmm, rfl, hel⟩
  · exact ⟨[], .one (.sl sz 0 [] rfl none 0 (fun _ => undef) (Nat.le_refl _) (fun _ h => by cases h) (fun h => absurd rfl h) (fun _ _ _ h => by cases h) (fun _ _ h => by simp at h) (fun _ _ h => by simp at h)) rfl, ⟨by simp, by simp⟩, fun x hx => by cases hx⟩
  have hm2 : m = cap := by simpa using hmm
  subst hm2
  simp only [DataW.weights, ht, List.mem_cons, List.mem_append] at hw
  have hex : ∀ i, i < len → ∃ x, (∃ c, w.cells? 0 (a.add (i * P.cellsOf e)) (P.cellsOf e) = some c ∧ RcL w (zB w) (enc x) c) ∧ okx x := fun i hi => by
    obtain ⟨cs', h1, h2⟩ := hel i (by omega)
    obtain ⟨x, hk, ho⟩ := he _ en w n cs' _ h2 (fun q hq => hw q (Or.inr (Or.inl (nS (tP D len m hl i hi) q hq))))
    exact ⟨x, ⟨cs', h1, hk⟩, ho⟩
  obtain ⟨xs, hxl, hx⟩ := aIO _ len hex
  have hb : (len + (m - len)) * P.bytesOf e ≤ reachBytes := by
    have := hw _ (Or.inl rfl)
    simpa using this
  have hu : ∀ p ∈ xs.map enc, p.length = sz := fun p hp => by
    obtain ⟨x, _, rfl⟩ := List.mem_map.1 hp
    exact hlen x
  have key : ∀ (k : Nat) (u : V), (xs.map enc).flatten[k]? = some u → ∃ c, w.cell? (a.add k) = some c ∧ Rc w (zB w) u c ∧ c.oneCell' = true := fun k u hk => by
    obtain ⟨p, h1, h2⟩ := kG _ k u hu hk
    simp only [List.getElem?_map, Option.map_eq_some_iff] at h1
    obtain ⟨x, h1, rfl⟩ := h1
    obtain ⟨⟨c, g1, g2⟩, _⟩ := hx _ x h1
    have hlt : k % sz < c.length := by rw [g2.1, hlen]; exact Nat.mod_lt _ hp
    obtain ⟨_, hcl, hcc⟩ := World.cells?_some g1
    have e1 := hcc (k % sz) (by rw [hc]; exact Nat.mod_lt _ hp)
    rw [Go.Deep.add_add, hc, Nat.div_add_mod' k sz, List.getElem?_eq_getElem hlt] at e1
    obtain ⟨q1, q2⟩ := g2.2 _ u _ h2 (List.getElem?_eq_getElem hlt)
    exact ⟨_, e1, q1, q2⟩
  subst hxl
  refine ⟨xs, .one (.sl sz xs.length (xs.map enc) (by simp) (some a) m (fun k => (w.cell? (a.add k)).getD undef) (by simpa using hl) hu (fun hn => ⟨a, rfl, ?_⟩) (fun ad k u ha hk => ?_) (fun k u hk => ?_) (fun k u hk => ?_)) rfl, ⟨?_, ?_⟩, fun x hxm => ?_⟩
  · have h0 : xs ≠ [] := fun h => hn (by rw [h]; rfl)
    have hl0 : 0 < xs.length := List.length_pos_iff.2 h0
    have hfl := gY (xs.map enc) hu
    obtain ⟨c, h1, _⟩ := key 0 _ (List.getElem?_eq_getElem (by rw [hfl]; exact Nat.mul_pos (by simpa using hl0) hp))
    have := aDT h1
    rwa [kL] at this
  · injection ha with ha; subst ha
    obtain ⟨c, h1, _⟩ := key k u hk
    rw [h1]; rfl
  · obtain ⟨c, h1, h2, _⟩ := key k u hk
    rw [h1]; exact h2
  · obtain ⟨c, h1, _, h2⟩ := key k u hk
    rw [h1]; exact h2
  · unfold maxLen at hm; omega
  · exact Nat.le_trans (Nat.mul_le_mul_right _ (by omega)) hb
  · obtain ⟨j, hj, hj2⟩ := List.getElem_of_mem hxm
    exact (hx j x (by rw [List.getElem?_eq_getElem hj, hj2])).2
theorem uL {β : Type} {P : Program} {t e : TypeId} {en0 : β → V} {okx : β → Prop} {H : Type} {en : TypeId × Value → H} {w : World} {r : Reach} {b0 : Nat} {v : Value} {d : DataW H} {p : List MemPlace}
    (ht : P.underlying t = some (.slice e)) (ho : Opn P t (fun x => [en0 x]) okx) (hv : Value.okWide P w r b0 t v) (h : DataW.Trod en P w 0 (fun _ => true) true t v d p) (hw : ∀ n ∈ d.weights P t, n ≤ reachBytes) :
    ∃ x, Rv w (zB w) (fun _ => none) (en0 x) v ∧ okx x := by
  obtain ⟨a, len, cap, rfl⟩ := okWide_slice ht hv
  obtain ⟨fuel, hf⟩ := h
  obtain ⟨x, hk, hx⟩ := ho _ en w fuel _ _ hf hw
  exact ⟨x, .c (hk.2 0 _ _ rfl rfl).1, hx⟩
def RvL (w : World) (A : Nat → Prop) : List V → List Value → Prop
  | [], [] => True
  | x :: xs, v :: vs => Rv w A (fun _ => none) x v ∧ RvL w A xs vs
  | _, _ => False
theorem RvL.get {w : World} {A : Nat → Prop} : ∀ (xs : List V) (vs : List Value), RvL w A xs vs → vs.length = xs.length ∧ ∀ (i : Nat) (x : V) (v : Value), xs[i]? = some x → vs[i]? = some v → Rv w A (fun _ => none) x v
  | [], [], _ => ⟨rfl, fun i x v h => by simp at h⟩
  | [], _ :: _, h => h.elim
  | _ :: _, [], h => h.elim
  | x :: xs, v :: vs, ⟨a, b⟩ => by
    obtain ⟨g1, g2⟩ := RvL.get xs vs b
    refine ⟨by simp [g1], fun i y u hy hu => ?_⟩
    cases i with
    | zero => simp at hy hu; subst hy; subst hu; exact a
    | succ i => exact g2 i y u (by simpa using hy) (by simpa using hu)
theorem aAG {P : Program} {G : Nat → Option Obj} {f : FuncId} {Vs : List V} {b : Bool} (h : cI P G f [] Vs [] (.bool b)) {w : World} {vs : List Value} (hv : RvL w (zB w) Vs vs) (hG : Gl G w (zB w)) :
    Calls P f vs.toArray w fun e w' => e = .returned (.bool b) ∧ Below w.heap.size w w' := by
  obtain ⟨g1, g2⟩ := RvL.get Vs vs hv
  refine (h.2 w (zB w) (fun _ => none) vs.toArray (by simpa using g1) (fun i x v hx hv => g2 i x v hx (by simpa using hv)) (fun b hb => hb) hG ⟨fun m ob hm => by simp at hm, fun i j li lj b hi => by simp at hi, fun i hi => absurd rfl hi⟩).mono fun e w' ⟨v, A', μ', he, hp⟩ => ?_
  subst he
  have := hp.res.bool_inv; subst this
  exact ⟨rfl, hp.os, hp.tape, hp.out, hp.size, fun k hk => hp.old k hk (fun ⟨m, l, hm, _⟩ => by simp at hm)⟩
end Go.Aw
namespace Go.Aw
open Go.Shelf Go.Sort Go.RowKit Go.Proofs
set_option linter.unusedVariables false
set_option linter.unusedSimpArgs false
def sK (ss : List (List UInt8)) : List (List V) := ss.map fun s => [.str ⟨s.toArray⟩]
theorem vS (ss : List (List UInt8)) : (sK ss).flatten = ss.map fun s => V.str ⟨s.toArray⟩ := by
  induction ss with
  | nil => rfl
  | cons s ss ih => simp only [sK, List.map_cons, List.flatten_cons] at ih ⊢; rw [ih]; rfl
theorem aJS {P : Program} {ρ : Ren} (Ly : Lays.n192 P ρ) (hf : Fok P (ρ.f 192)) (G : Nat → Option Obj) (e : TypeId) (ss : List (List UInt8)) (hsz : ss.length < 4611686018427387904) :
    cI P G (ρ.f 192) [.arr e 1 (sK ss)] [.own 0 ss.length] [.arr e 1 (sK (ss.mergeSort fun x y => decide (x ≤ y)))] (.und) := by
  refine ⟨hf, fun w A μ vs hvs hv hbd hG hO => ?_⟩
  obtain ⟨vs⟩ := vs
  rcases vs with _ | ⟨v0, _ | ⟨_, _⟩⟩ <;> simp at hvs
  have hv0 := hv 0 (.own 0 ss.length) v0 rfl rfl
  obtain ⟨l, hl, hob, hb⟩ := hO.ob 0 _ rfl
  have hv1 : v0 = .slice (l.b.map (⟨·, 0, none⟩)) l.len l.cap := by
    generalize hu : V.own 0 ss.length = u at hv0
    cases hv0 with
    | c h => subst hu; cases h
    | own i l' h' => injection hu with e1 e2; subst e1; rw [hl] at h'; injection h' with h'; subst h'; rfl
    | _ => cases hu
  subst hv1
  obtain ⟨h1, h2, h3, cs, ⟨ho1, ho2⟩, hone, h5⟩ := hob
  have h2' : l.len = ss.length := by rw [h2]; simp [sK]
  rcases ho2 with ⟨e1, e2⟩ | ⟨g, cap, cur, e1, e2, e3, e4, e5, e6, e7⟩
  · have : ss = [] := List.length_eq_zero_iff.1 (by omega)
    subst this
    rw [e2]
    refine (Any.sort_Strings_none Ly _ _ w).mono ?_
    rintro e w' ⟨rfl, rfl⟩
    refine ⟨_, A, μ, rfl, rfl, rfl, rfl, Nat.le_refl _, fun _ _ _ => rfl, fun b h => ⟨hbd b h, .inl h⟩, fun _ h => h, .c (.und _), fun _ _ => rfl, ?_⟩
    refine ⟨fun m ob hm => ?_, hO.ap, hO.bd⟩
    obtain ⟨l', hl', hob', hb'⟩ := hO.ob m ob (by simpa [sK] using hm)
    refine ⟨l', hl', hob', fun b hb0 => ⟨(hb' b hb0).1, (hb' b hb0).2.1, .inl ⟨m, l', ?_, hl', hb0⟩⟩⟩
    rcases m with _ | m
    · exact Nat.one_pos
    · simp at hm
  · injection e1 with e1 _ ecap
    have hlb : l.b = some g := by
      cases hlb : l.b with
      | none => rw [hlb] at e1; simp at e1
      | some b => rw [hlb] at e1; simp at e1; rw [e1]
    obtain ⟨hgs, hgA, _⟩ := hb g (.inl hlb)
    have hl1 : cs.length = ss.length := by rw [ho1, h2']; simp
    have hcs : ∀ k (hk : k < ss.length), cs[k]? = some (encStr ss[k]) := fun k hk => by
      obtain ⟨c, hc⟩ : ∃ c, cs[k]? = some c := ⟨cs[k], by simp [hl1, hk]⟩
      have := h5 k (.str ⟨ss[k].toArray⟩) c (by rw [vS]; simp [hk]) hc
      rw [hc]; cases this; rfl
    have hcur : ∀ k (hk : k < ss.length), cur[k]? = some (encStr ss[k]) := fun k hk => by
      have := hcs k hk
      rw [← e7, List.getElem?_take_of_lt (by rw [h2']; omega)] at this
      simpa using this
    have hH : Holds encStr w g 0 ss.toArray := fun j hj => by
      have hj' : j < ss.length := by simpa using hj
      constructor
      · simp only [World.cell?, e3, Nat.zero_add]
        rw [hcur j hj']; simp [hj']
      · simp [World.frozen?, e3]
    rw [e1, h2']
    refine (Any.sort_Strings Ly g 0 l.cap ss w hH hgs hsz).mono ?_
    rintro e w' ⟨rfl, n, os, rfl⟩
    have hsl : (ss.mergeSort fun x y => decide (x ≤ y)).length = ss.length := List.length_mergeSort _
    generalize ss.mergeSort (fun x y => decide (x ≤ y)) = ts at *
    have hold : ∀ b, b < w.heap.size → b ≠ g → (grow (putRow encStr (Go.Sort.ahead w n) g 0 ts.toArray) os).heap[b]? = w.heap[b]? := fun b hb hbg => by
      rw [heap_grow_old _ _ (by simpa using hb)]
      simp only [putRow, mapBlock, heap_ahead, Array.getElem?_modify]
      rw [if_neg (Ne.symm hbg)]
    have hg : (grow (putRow encStr (Go.Sort.ahead w n) g 0 ts.toArray) os).heap[g]? = some (.cells (putCells encStr 0 ts.toArray cur) e (0, 0)) := by
      rw [heap_grow_old _ _ (by simpa using hgs)]
      simp only [putRow, mapBlock, heap_ahead, Array.getElem?_modify]
      rw [e3]; simp [onCells]
    refine ⟨_, A, μ, rfl, rfl, rfl, rfl, by simp, fun b hb' hnb => hold b hb' (fun h => hnb ⟨0, l, Nat.one_pos, hl, .inl (h ▸ hlb)⟩), fun b h => ⟨Nat.lt_of_lt_of_le (hbd b h) (by simp), .inl h⟩, fun _ h => h, .c (.und _), fun _ _ => rfl, ?_⟩
    refine ⟨fun m ob hm => ?_, fun i j li lj b hi hj => hO.ap i j li lj b hi hj, fun i hi => hO.bd i hi⟩
    rcases m with _ | m
    · simp at hm
      subst hm
      refine ⟨l, hl, ⟨h1, by simp [sK, h2', hsl], by simp [sK], ts.map encStr, ⟨by simp [hsl, h2'], .inr ⟨g, cap, putCells encStr 0 ts.toArray cur, by rw [hlb, ecap]; rfl, Nat.zero_le _, hg, e4, e5, by simpa [putCells] using e6, ?_⟩⟩, ?_, ?_⟩, fun b hb' => ?_⟩
      · apply List.ext_getElem?
        intro k
        by_cases hk : k < ts.length
        · rw [List.getElem?_take_of_lt (by omega)]
          have := hcur k (by omega)
          simp [putCells, this, hk]
        · rw [List.getElem?_eq_none (by simp; omega), List.getElem?_eq_none (by simp; omega)]
      · intro c hc; simp at hc; obtain ⟨s, _, rfl⟩ := hc; rfl
      · intro k u c hu hc
        rw [vS] at hu
        simp at hu hc
        obtain ⟨s, hs, rfl⟩ := hu
        obtain ⟨s', hs', rfl⟩ := hc
        rw [hs] at hs'; injection hs' with hs'; subst hs'
        exact .str _
      · obtain ⟨q1, q2, _⟩ := hb b hb'
        exact ⟨by simpa using Nat.lt_of_lt_of_le q1 (Nat.le_add_right _ _), q2, .inl ⟨0, l, Nat.one_pos, hl, hb'⟩⟩
    · simp at hm
def rW (l : List ByteArray) : List ByteArray := ((l.map fun s => s.data.toList).mergeSort fun x y => decide (x ≤ y)).map fun b => ⟨b.toArray⟩
def mB (l : List ByteArray) : Option (List ByteArray) := if l.length < 4611686018427387904 then some (rW l) else none
theorem yQ {P : Program} {ρ : Ren} (Ly : Lays.n192 P ρ) {n : FuncId} (hf : Fok P n) (G : Nat → Option Obj) (e : TypeId) (hn : ρ.f 192 = n) {l r : List ByteArray} (H : mB l = some r) {en : ByteArray → List V} (hen : ∀ s, en s = [.str s]) :
    cI P G n [.arr e 1 (l.map en)] [.own 0 l.length] [.arr e 1 (r.map en)] .und := by
  subst hn
  unfold mB at H
  split at H
  · rename_i hl
    injection H with H; subst H
    have := aJS Ly hf G e (l.map fun s => s.data.toList) (by rw [List.length_map]; exact hl)
    rw [List.length_map] at this
    have e1 : sK (l.map fun s => s.data.toList) = l.map en := by
      unfold sK; rw [List.map_map]; apply List.map_congr_left; intro s _; rw [hen]; rfl
    have e2 : sK ((l.map fun s => s.data.toList).mergeSort fun x y => decide (x ≤ y)) = (rW l).map en := by
      unfold sK rW; rw [List.map_map]; apply List.map_congr_left; intro s _; simp only [Function.comp_apply]; rw [hen]
    rw [e1, e2] at this
    exact this
  · cases H
theorem aEJ {l r : List ByteArray} (H : mB l = some r) : r.length = l.length := by
  unfold mB at H
  split at H
  · injection H with H; subst H; simp [rW]
  · cases H
theorem aDM {l r : List ByteArray} (H : mB l = some r) (x : ByteArray) : x ∈ r ↔ x ∈ l := by
  unfold mB at H
  split at H
  · injection H with H; subst H
    simp only [rW, List.mem_map, List.mem_mergeSort]
    constructor
    · rintro ⟨b, ⟨y, hy, rfl⟩, rfl⟩; exact hy
    · intro h; exact ⟨x.data.toList, ⟨x, h, rfl⟩, rfl⟩
  · cases H
theorem qC : ∀ (x y : List UInt8), Op.bytesLess x y = decide (x < y)
  | [], [] => by simp [Op.bytesLess]
  | _ :: _, [] => by simp [Op.bytesLess]
  | [], _ :: _ => by simp [Op.bytesLess]
  | a :: x, b :: y => by
    rw [Op.bytesLess, qC x y]
    simp only [List.cons_lt_cons_iff]
    by_cases h1 : a < b <;> by_cases h2 : a = b <;> by_cases h3 : x < y <;> simp [h1, h2, h3]
theorem aFY {l r : List ByteArray} (H : mB l = some r) (hn : l.Nodup) : r.Pairwise fun x y => Op.bytesLess x.toList y.toList = true := by
  unfold mB at H
  split at H
  · injection H with H; subst H
    unfold rW
    have tr : ∀ a b c : List UInt8, decide (a ≤ b) = true → decide (b ≤ c) = true → decide (a ≤ c) = true := fun a b c h k => by
      simp only [decide_eq_true_eq] at h k ⊢; exact List.le_trans h k
    have to : ∀ a b : List UInt8, (decide (a ≤ b) || decide (b ≤ a)) = true := fun a b => by
      simp only [Bool.or_eq_true, decide_eq_true_eq]; exact List.le_total a b
    have h1 := List.pairwise_mergeSort tr to (l.map fun s => s.data.toList)
    have h2 : (l.map fun s => s.data.toList).Nodup := by
      refine List.Pairwise.map _ (fun a b h e => h ?_) hn
      apply ByteArray.ext; apply Array.ext'; exact e
    have h3 := (List.mergeSort_perm (l.map fun s => s.data.toList) fun x y => decide (x ≤ y)).nodup_iff.2 h2
    have h4 := List.Pairwise.and h1 h3
    refine List.Pairwise.map _ (fun a b h => ?_) h4
    have e : ∀ x : List UInt8, ByteArray.toList ⟨x.toArray⟩ = x := fun x => by rw [ByteArray.toList_eq]
    simp only [decide_eq_true_eq] at h
    rw [e, e, qC, decide_eq_true_eq]
    refine Classical.byContradiction fun q => h.2 ?_
    exact List.le_antisymm h.1 (List.not_lt.1 q)
  · cases H
#print axioms yQ
end Go.Aw
namespace Go.Aw
open Go.Shelf Go.Sort Go.RowKit Go.Proofs
set_option linter.unusedVariables false
set_option linter.unusedSimpArgs false
def aGT (G : Nat → Option Obj) (g : Nat) : Prop := ∃ (m : Int) (arr : Array Value) (el : TypeId) (fz : Nat × Nat), G g = some (.cells arr el fz) ∧ arr[0]? = some (.int .i64 m)
def aLQ (G : Nat → Option Obj) (g : Nat) (arr : Array Value) : Prop := ∃ (el : TypeId) (fz : Nat × Nat), G g = some (.cells arr el fz)
theorem vU {G : Nat → Option Obj} {g : Nat} (h : aGT G g) {w : World} {A : Nat → Prop} (hG : Gl G w A) : ∃ m, w.cell? ⟨g, 0, none⟩ = some (.int .i64 m) := by
  obtain ⟨m, arr, el, fz, g1, g2⟩ := h
  exact ⟨m, by rw [fE (hG _ _ g1).2]; exact g2⟩
theorem aHM {P : Program} {G : Nat → Option Obj} {f : FuncId} {Vs : List V} {r : V} (hf : Fok P f)
    (h : ∀ (w : World) (A : Nat → Prop) (μ : Nat → Option Loc) (vs : Array Value), vs.size = Vs.length → (∀ (i : Nat) (x : V) (v : Value), Vs[i]? = some x → vs[i]? = some v → Rv w A μ x v) → Gl G w A →
      Calls P f vs w fun e w' => ∃ v, e = .returned v ∧ (∀ (w1 : World) (A1 : Nat → Prop) (μ1 : Nat → Option Loc), Rv w1 A1 μ1 r v) ∧ ∃ k os, w' = grow (w.drewN k) os) : cI P G f [] Vs [] r := by
  refine ⟨hf, fun w A μ vs hvs hv hbd hG hO => (h w A μ vs hvs hv hG).mono ?_⟩
  rintro e w' ⟨v, rfl, hr, k, os, rfl⟩
  refine ⟨v, A, μ, rfl, rfl, rfl, rfl, by simp, fun b hb' hnb => heap_grow_old _ _ (by simpa using hb'), fun b h => ⟨Nat.lt_of_lt_of_le (hbd b h) (by simp), .inl h⟩, fun _ h => h, hr _ _ _, fun _ _ => rfl, ?_⟩
  exact ⟨fun m ob hm => by simp at hm, fun i j li lj b hi => by simp at hi, hO.bd⟩
def aFE (s sep : ByteArray) : ByteArray × ByteArray × Bool := (⟨(Lib.cut s.data.toList sep.data.toList).1.toArray⟩, ⟨(Lib.cut s.data.toList sep.data.toList).2.1.toArray⟩, (Lib.cut s.data.toList sep.data.toList).2.2)
def aDA (s sep : ByteArray) : Option (ByteArray × ByteArray × Bool) := if s.size < 4294967281 then some (aFE s sep) else none
theorem aIG {P : Program} {ρ : Ren} (Ly : LaysM.n145 P ρ) {n : FuncId} (hf : Fok P n) {G : Nat → Option Obj} {g : Nat} (hG : aGT G g) (hn : ρ.f 145 = n) (hg : ρ.g 1 = g) {s sep : ByteArray} {r : ByteArray × ByteArray × Bool} (H : aDA s sep = some r) :
    cI P G n [] [.str s, .str sep] [] (.tup [.str r.1, .str r.2.1, .bool r.2.2]) := by
  subst hn; subst hg
  unfold aDA at H
  split at H
  · rename_i hs
    injection H with H; subst H
    refine aHM hf fun w A μ vs hvs hv hGl => ?_
    obtain ⟨vs⟩ := vs
    rcases vs with _ | ⟨v0, _ | ⟨v1, _ | ⟨_, _⟩⟩⟩ <;> simp at hvs
    have h0 := (hv 0 _ v0 rfl rfl).str_inv
    have h1 := (hv 1 _ v1 rfl rfl).str_inv
    subst h0; subst h1
    obtain ⟨m, hm⟩ := vU hG hGl
    refine (Any.strings_Cut { Ly with } s sep m w hs hm).mono ?_
    rintro e w' ⟨rfl, k, rfl⟩
    refine ⟨_, rfl, fun w1 A1 μ1 => .tup _ _ rfl fun i x c hx hc => ?_, k, #[], (grow_empty _).symm⟩
    rcases i with _ | _ | _ | i <;> simp at hx hc <;> subst hx <;> subst hc
    · exact .c (.str _)
    · exact .c (.str _)
    · exact .c (.bool _)
  · cases H
def aKL (n : Int) : ByteArray := ⟨(Lib.itoa n).toArray⟩
def wA (n : Int) : Option ByteArray := if -9223372036854775808 ≤ n ∧ n ≤ 9223372036854775807 then some (aKL n) else none
theorem aGC {P : Program} {ρ : Ren} (Ly : LaysM.n171 P ρ) {n : FuncId} (hf : Fok P n) {G : Nat → Option Obj} {g : Nat} (hG : aLQ G g (Lib.pow10Tab.map fun z => Value.int .u64 z).toArray) (hn : ρ.f 171 = n) (hg : P.globalNamed "internal/strconv.uint64pow10" = some g) {x : Int} {r : ByteArray} (H : wA x = some r) :
    cI P G n [] [.int .i64 x] [] (.str r) := by
  subst hn
  unfold wA at H
  split at H
  · rename_i hs
    injection H with H; subst H
    refine aHM hf fun w A μ vs hvs hv hGl => ?_
    obtain ⟨vs⟩ := vs
    rcases vs with _ | ⟨v0, _ | ⟨_, _⟩⟩ <;> simp at hvs
    have h0 := (hv 0 _ v0 rfl rfl).int_inv
    subst h0
    obtain ⟨el, fz, hgg⟩ := hG
    refine (Any.strconv_Itoa Ly x hs.1 hs.2 w ?_).mono ?_
    · unfold Lib.TabIs World.var?
      rw [hg]
      simp only [Option.bind_some]
      rw [(hGl _ _ hgg).2]
    · rintro e w' ⟨rfl, k, os, rfl⟩
      exact ⟨_, rfl, fun w1 A1 μ1 => .c (.str _), k, os, rfl⟩
  · cases H
def iP (s sep : ByteArray) : List ByteArray := Lib.splitB sep 0 (Lib.countB s sep) s
def qU (s sep : ByteArray) : Option (List ByteArray) := if s.size < 4294967281 ∧ 1 ≤ sep.size then some (iP s sep) else none
theorem aDG {P : Program} {ρ : Ren} (Ly : LaysM.n146 P ρ) {n : FuncId} (hf : Fok P n) {G : Nat → Option Obj} {g : Nat} (hG : aGT G g) (hn : ρ.f 146 = n) (hg : ρ.g 1 = g) {s sep : ByteArray} {r : List ByteArray} (H : qU s sep = some r) {en : ByteArray → List V} (hen : ∀ s, en s = [.str s]) :
    cI P G n [] [.str s, .str sep] [] (.sl 1 r.length (r.map en)) := by
  subst hn; subst hg
  unfold qU at H
  split at H
  · rename_i hs
    injection H with H; subst H
    refine ⟨hf, fun w A μ vs hvs hv hbd hGl hO => ?_⟩
    obtain ⟨vs⟩ := vs
    rcases vs with _ | ⟨v0, _ | ⟨v1, _ | ⟨_, _⟩⟩⟩ <;> simp at hvs
    have h0 := (hv 0 _ v0 rfl rfl).str_inv
    have h1 := (hv 1 _ v1 rfl rfl).str_inv
    subst h0; subst h1
    obtain ⟨m, hm⟩ := vU hG hGl
    have hlen : (iP s sep).length = Lib.countB s sep + 1 := Lib.splitB_all sep hs.2 0 _ s rfl
    refine (Any.strings_Split { Ly with } Ly.i9 s sep m w hs.1 hm hs.2).mono ?_
    rintro e w' ⟨rfl, hw⟩
    have hold : ∀ b, b < w.heap.size → w'.heap[b]? = w.heap[b]? := fun b hb => by
      rw [hw]; simp only [World.alloc]; rw [Array.getElem?_push]; rw [if_neg (by omega)]
    have hnew : w'.heap[w.heap.size]? = some (.cells ((iP s sep).map Value.string).toArray (ρ.t 9) (0, 0)) := by
      rw [hw]; simp only [World.alloc]; rw [Array.getElem?_push]; rw [if_pos rfl]; rfl
    have hsz : w'.heap.size = w.heap.size + 1 := by rw [hw]; exact Array.size_push ..
    have hfl : ((iP s sep).map en).flatten = (iP s sep).map V.str := by
      generalize iP s sep = l
      induction l with
      | nil => rfl
      | cons x l ih => simp only [List.map_cons, List.flatten_cons, hen, ih]; rfl
    refine ⟨_, fun b => A b ∨ b = w.heap.size, μ, rfl, by rw [hw]; rfl, by rw [hw]; rfl, by rw [hw]; rfl, by omega, fun b hb _ => hold b hb, fun b h => ?_, fun _ h => .inl h, ?_, fun _ _ => rfl, ?_⟩
    · rcases h with h | h
      · exact ⟨by have := hbd b h; omega, .inl h⟩
      · exact ⟨by omega, .inr (by omega)⟩
    · rw [← hlen]
      refine .c (.sl 1 _ _ (by simp) _ _ (fun k => Value.string ((iP s sep).getD k ByteArray.empty)) (by simp) (fun p hp => ?_) (fun hn => ⟨_, rfl, .inr rfl⟩) (fun ad k u ha hk => ?_) (fun k u hk => ?_) (fun k u hk => rfl))
      · simp at hp; obtain ⟨x, _, rfl⟩ := hp; rw [hen]; rfl
      · injection ha with ha; subst ha
        rw [hfl] at hk
        simp at hk
        obtain ⟨x, hx, rfl⟩ := hk
        rw [gH, fE hnew, Nat.zero_add]
        simp [hx]
      · rw [hfl] at hk
        simp at hk
        obtain ⟨x, hx, rfl⟩ := hk
        simp only [List.getD_eq_getElem?_getD, hx, Option.getD_some]
        exact .str _
    · exact ⟨fun m ob hm => by simp at hm, fun i j li lj b hi => by simp at hi, hO.bd⟩
  · cases H
def zA (W : World) (l : List Nat) : Nat → Option Obj := fun g => match fB l g with | true => W.heap[g]? | false => none
theorem aIB {W : World} {l : List Nat} : Gl (zA W l) W (zB W) := fun g o h => by
  unfold zA at h
  split at h
  · exact ⟨(Array.getElem?_eq_some_iff.1 h).1, h⟩
  · cases h
theorem aFF {W : World} {l : List Nat} {g : Nat} (hg : fB l g = true) (h : ∃ m, W.cell? ⟨g, 0, none⟩ = some (.int .i64 m)) : aGT (zA W l) g := by
  obtain ⟨m, h⟩ := h
  unfold World.cell? at h
  split at h
  · rename_i cs el fz hb
    exact ⟨m, cs, el, fz, by unfold zA; rw [hg]; exact hb, h⟩
  · cases h
theorem aGP {P : Program} {W : World} {l : List Nat} {g : Nat} {name : String} {k : IntKind} {zs : List Int} (hg : fB l g = true) (hn : P.globalNamed name = some g) (h : Lib.TabIs P W name k zs) : aLQ (zA W l) g (zs.map fun z => Value.int k z).toArray := by
  unfold Lib.TabIs World.var? at h
  rw [hn] at h
  simp only [Option.bind_some] at h
  split at h
  · rename_i cs el fz hb
    injection h with h
    subst h
    exact ⟨el, fz, by unfold zA; rw [hg]; exact hb⟩
  · cases h
end Go.Aw
namespace Go
theorem sG {H : Type} {enc : TypeId × Value → H} {a : Assume} {C : Checked} {os : Os} {f : FuncId} {fn : Func} {s : ChangeSpec} {conds : List PathCond} {apart fresh handsOn again : Bool} {X : World → Array Value → Prop}
    (hX : ∀ (w w' : World) (args : Array Value), w.heap = w'.heap → X w args → X w' args)
    (own : ownKnob C.prog.godebug = none) (started : os.Started) (noInit : C.prog.inits.idxOf? f = none) (hfn : C.prog.funcs[f]? = some fn)
    (witness : ∃ (w : World) (tape : Tape) (i : Input), w.os = os ∧ (w.forCall tape i).Shaped C.prog ∧ i.vars = [] ∧ Input.okWide C.prog (w.forCall tape i) .any w.heap.size f i ∧
      ((s.pre enc C.prog fn conds apart (w.forCall tape i).memory i.args ∧ X (w.forCall tape i).memory i.args) ∧ sizedMet enc C.prog fn (OpenSpec.ofChange s) apart (w.forCall tape i).memory i.args) ∧ a.holds C.prog (lone (Frame.enter C.prog f i.args .normal) [] (w.forCall tape i)))
    (contract : ∀ (W : World) (base : Nat) (args : Array Value) (ds gs : List (DataW H)) (before : List MemPlace),
      (∀ (j : Nat) t v, fn.params[j]? = some t → args[j]? = some v → Value.okWide C.prog W .any base t v) →
      DataW.Whole enc C.prog fn.params.toList s.vars apart W args.toList ds gs before →
      conds.all (PathCond.test C.prog ⟨fn.params.toList, ds, s.plain.varTypes C.prog, gs⟩) = true →
      (DataW.weightsEach C.prog (fn.params.toList ++ s.plain.varTypes C.prog) (ds ++ gs)).all (· ≤ reachBytes) = true → X W args → W.ShapedOpen C.prog →
      Calls C.prog f args W fun e W' => ∃ v, e = .returned v ∧ s.post enc C.prog fn apart fresh handsOn again W args v W') :
    ReturnsInHanded a C os f .any (fun w args => (s.pre enc C.prog fn conds apart w args ∧ X w args) ∧ sizedMet enc C.prog fn (OpenSpec.ofChange s) apart w args) (s.post enc C.prog fn apart fresh handsOn again) := by
  refine returnsInHanded_of_calls own started noInit witness ?_
  intro w tape i _ hsh _ hok hpre hholds
  obtain ⟨_, _, _, fn', hfn', _, _, _, _, hval⟩ := hok
  have e : fn' = fn := Option.some.inj (hfn'.symm.trans hfn)
  subst e
  obtain ⟨⟨⟨ds, gs, before, hw, hc⟩, hx⟩, hz⟩ := hpre
  have hw' := DataW.Whole.of_heap (w' := w.forCall tape i) (by rfl) hw
  refine (contract (w.forCall tape i) w.heap.size i.args ds gs before hval hw' hc (hz.weights hw) (hX _ _ _ (by rfl) hx) hsh).mono fun e W' ⟨v, he, hp⟩ => ?_
  subst he
  exact ChangeSpec.post_blind hp
end Go
namespace Go.Aw
open Go.Shelf Go.Sort Go.RowKit Go.Proofs
set_option linter.unusedVariables false
set_option linter.unusedSimpArgs false
def vv : V → Value
  | .int k n => .int k n
  | .bool b => .bool b
  | .str s => .string s
  | _ => undef
def V.plain : V → Bool
  | .int .. | .bool _ | .str _ => true
  | _ => false
theorem aGU {w : World} {A : Nat → Prop} {u : V} {c : Value} (hp : u.plain = true) (h : Rc w A u c) : c = vv u := by
  cases u <;> first | (cases h; rfl) | exact absurd hp (by simp [V.plain])
theorem aES {w : World} {A : Nat → Prop} {u : V} (hp : u.plain = true) : Rc w A u (vv u) := by
  cases u <;> first | exact .int _ _ | exact .bool _ | exact .str _ | exact absurd hp (by simp [V.plain])
theorem vK {u : V} (hp : u.plain = true) : (vv u).oneCell' = true := by
  cases u <;> first | rfl | exact absurd hp (by simp [V.plain])
section
variable {α : Type} [Inhabited α]
def jL (en : α → List V) (x : α) : List Value := (en x).map vv
def lF (lt : α → α → Bool) (xs : List α) : List α := (pdq lt xs.toArray 0 xs.length (Lib.bitLen xs.length) true true).toList
theorem lT {lt : α → α → Bool} (hO : SWO lt) (xs : List α) : (lF lt xs).length = xs.length ∧ (lF lt xs).Perm xs ∧ (lF lt xs).Pairwise (fun a b => lt b a = false) := by
  have h := pdq_sorts lt hO xs.toArray 0 xs.length (Lib.bitLen xs.length) true true (Nat.zero_le _) (by simp) (Or.inl rfl)
  unfold lF
  generalize pdq lt xs.toArray 0 xs.length (Lib.bitLen xs.length) true true = d at h
  obtain ⟨⟨h1, _, h3⟩, h4⟩ := h
  have hs : d.size = xs.length := by simpa using h1
  refine ⟨by simpa using hs, ?_, ?_⟩
  · have e1 : (d.extract 0 xs.length).toList = d.toList := by rw [← hs]; simp
    have e2 : ((xs.toArray).extract 0 xs.length).toList = xs := by simp
    rwa [e1, e2] at h3
  · rw [List.pairwise_iff_getElem]
    intro i j hi hj hij
    have := h4 i j (Nat.zero_le _) hij (by rw [← hs]; simpa using hj)
    have e : ∀ q, (hq : q < d.toList.length) → d[q]! = d.toList[q] := fun q hq => by
      have hq' : q < d.size := by simpa using hq
      simp [hq']
    rwa [e i hi, e j hj] at this
theorem aEV {lt : α → α → Bool} (hO : SWO lt) {xs : List α} (h : xs.length ≤ 1) : lF lt xs = xs := by
  obtain ⟨h1, h2, _⟩ := lT hO xs
  rcases xs with _ | ⟨x, _ | ⟨_, _⟩⟩
  · exact List.length_eq_zero_iff.1 h1
  · exact List.perm_singleton.1 h2
  · simp at h
omit [Inhabited α] in
theorem vJ {k : Nat} (en : α → List V) (hk : ∀ x, (en x).length = k) (xs : List α) (t : Nat) (ht : t < xs.length * k) : ∃ u, (xs.map en).flatten[t]? = some u := by
  refine ⟨_, List.getElem?_eq_getElem ?_⟩
  rw [gY (sz := k) _ (fun p hp => by simp at hp; obtain ⟨x, _, rfl⟩ := hp; exact hk x)]; simpa using ht
theorem tS {k : Nat} (en : α → List V) (hk : ∀ x, (en x).length = k) (xs : List α) (t : Nat) (ht : t < xs.length * k) (u : V) (hu : (xs.map en).flatten[t]? = some u) : (flatK (jL en) k xs.toArray)[t]! = vv u ∧ ∃ x, u ∈ en x := by
  obtain ⟨p, h1, h2⟩ := kG (sz := k) _ t u (fun p hp => by simp at hp; obtain ⟨x, _, rfl⟩ := hp; exact hk x) hu
  simp at h1
  obtain ⟨x, hx, rfl⟩ := h1
  refine ⟨?_, x, List.mem_of_getElem? h2⟩
  rw [get_flatK _ _ _ t (by simpa using ht)]
  have e : xs.toArray[t / k]! = x := by
    obtain ⟨hlt, he⟩ := List.getElem?_eq_some_iff.1 hx
    simp [hlt, he]
  rw [e]
  unfold jL
  obtain ⟨hlt, he⟩ := List.getElem?_eq_some_iff.1 h2
  simp [hlt, he]
end
theorem vA {w w' : World} {A : Nat → Prop} {μ : Nat → Option Loc} {mi mo : List Ob} {v : Value} {n : Nat} (hn : mi.length = n) (hO : wJ w A μ mi (fun _ => True)) (hbd : ∀ b, A b → b < w.heap.size) (hos : w'.os = w.os) (hta : w'.tape = w.tape) (hout : w'.output = w.output) (hsz : w.heap.size ≤ w'.heap.size)
    (hlen : mo.length = mi.length) (D : Nat → Prop) (hD : ∀ b, D b → blk μ mi.length b ∧ ¬ A b) (hold : ∀ b, b < w.heap.size → ¬ D b → w'.heap[b]? = w.heap[b]?)
    (hob : ∀ (m : Nat) (ob : Ob), mo[m]? = some ob → (mi[m]? = some ob ∧ ∀ l b, μ m = some l → l.has b → ¬ D b) ∨ ∃ l, μ m = some l ∧ gP w' A μ l ob) : aGH w A μ n n mo .und v w' A μ := by
  subst hn
  have hcell : ∀ ad c, A ad.block → w.cell? ad = some c → w'.cell? ad = some c := fun ad c hA hc => by
    rw [World.cell?_of_block (hold ad.block (hbd _ hA) (fun h => (hD _ h).2 hA))]; exact hc
  refine ⟨hos, hta, hout, hsz, fun b hb hnb => hold b hb (fun h => hnb (hD b h).1), fun b h => ⟨Nat.lt_of_lt_of_le (hbd b h) hsz, .inl h⟩, fun _ h => h, .c (.und _), fun _ _ => rfl, ⟨fun m ob hm => ?_, fun i j li lj b hi hj => hO.ap i j li lj b (by omega) (by omega), fun i hi => by rw [hlen]; exact hO.bd i hi⟩⟩
  have hml : m < mi.length := by rw [← hlen]; exact (List.getElem?_eq_some_iff.1 hm).1
  obtain ⟨l0, hl0, ho0, hb0⟩ := hO.ob m _ (List.getElem?_eq_getElem hml)
  have fin : ∀ b, l0.has b → b < w'.heap.size ∧ ¬ A b ∧ (blk μ mi.length b ∨ w.heap.size ≤ b) := fun b hb => ⟨Nat.lt_of_lt_of_le (hb0 b hb).1 hsz, (hb0 b hb).2.1, .inl ⟨m, l0, hml, hl0, hb⟩⟩
  rcases hob m ob hm with ⟨h1, h2⟩ | ⟨l, h1, h2⟩
  · rw [List.getElem?_eq_getElem hml] at h1; injection h1 with h1
    rw [h1] at ho0
    exact ⟨l0, hl0, ho0.mono (fun _ h => h) hcell (fun _ _ h => h) (fun b hb => hold b (hb0 b hb).1 (h2 l0 b hl0 hb)), fin⟩
  · rw [hl0] at h1; injection h1 with h1; subst h1
    exact ⟨l0, hl0, h2, fin⟩
theorem qX {P : Program} {ρ : Ren} (L : LaysGg.n6 P ρ) {n : FuncId} (hf : Fok P n) (hn : ρ.f 6 = n) (G : Nat → Option Obj) (t e : TypeId) (i ie : TypeInfo) (hi : P.info? t = some i) (hd : i.desc = .slice e) (hpk : P.packed t = false) (hie : P.info? e = some ie) (ke : Nat) (hke : ∀ w, (Extern.Rtype.kind e).run P w = .ok ke w)
    (hf0 : ∀ m, m ≤ 1 → ∃ f, P.funcs.findIdx? (·.name == "internal/reflectlite" ++ ".Swapper$" ++ toString (Lib.swapperK m ie ke)) = some f)
    (hf2 : ∀ m, 2 ≤ m → ∃ f gS, P.funcs.findIdx? (·.name == "internal/reflectlite" ++ ".Swapper$" ++ toString (Lib.swapperK m ie ke)) = some f ∧ ∀ args W, (callFunc f args).run P W = ((Extern.ReflectliteSwapper.swap gS args).run P W).andThen fun v w' => .ok (.value v) w')
    {α : Type} [Inhabited α] (en : α → List V) (k : Nat) (hk : ∀ x, (en x).length = k) (hpl : ∀ x, (en x).all V.plain = true) (hs1 : ie.size = k) (hagg : ∀ w, (isAgg e).run P w = .ok true w) (lt : α → α → Bool) (hO : SWO lt) (g : Nat) (eg : ∀ args w, (callFunc g args).run P w = .ok (.enter g args) w) (fo : Nat)
    (hcl : ∀ (gb c Bs Pb size : Nat) (W : World) (F : Nat → α), W.cell? ⟨Bs, 0, none⟩ = some (.pointer (some ⟨Pb, 0, none⟩)) → W.cell? ⟨Pb, fo, none⟩ = some (.slice (some ⟨gb, 0, none⟩) size c) →
      (∀ t, t < size → ∀ j u, (en (F t))[j]? = some u → W.cell? ⟨gb, t * k + j, none⟩ = some (vv u)) → size < 4611686018427387904 → ∀ i j, i < size → j < size →
      Calls P g #[.int .i64 i, .int .i64 j, .pointer (some ⟨Bs, 0, none⟩)] W fun e w' => e = .returned (.bool (lt (F i) (F j))) ∧ ∃ q, w' = W.drewN q)
    {xs : List α} (hlen : xs.length < 4611686018427387904) {cs : List V} {rest : List Ob} (hcs : cs[fo]? = some (.own 0 xs.length)) :
    lP P G n (rest.length + 3) (.arr e k (xs.map en) :: .box [.bp 2 0] :: .box cs :: rest) [.ifs t 0 xs.length, .cf g 1] (.arr e k ((lF lt xs).map en) :: .box [.bp 2 0] :: .box cs :: rest) .und := by
  subst hn
  refine ⟨hf, fun w A μ vs hvs hv hbd hG hO' => ?_⟩
  obtain ⟨vs⟩ := vs
  rcases vs with _ | ⟨v0, _ | ⟨v1, _ | ⟨_, _⟩⟩⟩ <;> simp at hvs
  obtain ⟨l, hl, hob, hb⟩ := hO'.ob 0 _ rfl
  obtain ⟨l1, hl1, ⟨b1, arr1, el1, hb1, hh1, hz1, hr1⟩, hbb1⟩ := hO'.ob 1 _ rfl
  obtain ⟨l2, hl2, ⟨b2, arr2, el2, hb2, hh2, hz2, hr2⟩, hbb2⟩ := hO'.ob 2 _ rfl
  obtain ⟨l', hl', hlen', rfl⟩ := (hv 0 _ v0 rfl rfl).ifs_inv
  obtain rfl : l' = l := by rw [hl] at hl'; injection hl' with q; exact q.symm
  obtain ⟨l1', b1', hl1', hb1', rfl⟩ := (hv 1 _ v1 rfl rfl).cf_inv
  obtain rfl : l1' = l1 := by rw [hl1] at hl1'; injection hl1' with q; exact q.symm
  obtain rfl : b1' = b1 := by rw [hb1] at hb1'; injection hb1' with q; exact q.symm
  obtain ⟨h1, h2, h3, csv, ⟨ho1, ho2⟩, hone, h5⟩ := hob
  have h2' : l'.len = xs.length := by rw [h2]; simp
  have hmo : ∀ (m : Nat) (ob : Ob), (Ob.arr e k ((lF lt xs).map en) :: .box [.bp 2 0] :: .box cs :: rest)[m]? = some ob → m ≠ 0 → (Ob.arr e k (xs.map en) :: .box [.bp 2 0] :: .box cs :: rest)[m]? = some ob := fun m ob hm h0 => by
    rcases m with _ | m
    · exact absurd rfl h0
    · exact hm
  by_cases hle : xs.length ≤ 1
  · obtain ⟨f, hff⟩ := hf0 l'.len (by omega)
    refine (Any.sort_Slice_tiny L t e i ie hi hd hpk hie ke hke _ _ _ (by omega) f hff (.func g) #[] _ w).mono ?_
    rintro e' w' ⟨rfl, os, rfl⟩
    refine ⟨_, A, μ, rfl, vA rfl hO' hbd rfl rfl rfl (by simp) rfl (fun _ => False) (fun _ h => h.elim) (fun b hb _ => heap_grow_old _ _ hb) (fun m ob hm => ?_)⟩
    rw [aEV hO hle] at hm
    exact .inl ⟨hm, fun _ _ _ _ h => h⟩
  · obtain ⟨gb, cap, cur, e1, e2, e3, e4, e5, e6, e7⟩ := ho2.resolve_left (fun h => by have := h.2; omega)
    injection e1 with e1 _ ecap
    have hlb : l'.b = some gb := by
      cases hlb : l'.b with
      | none => rw [hlb] at e1; simp at e1
      | some b => rw [hlb] at e1; simp at e1; rw [e1]
    obtain ⟨hgs, hgA, _⟩ := hb gb (.inl hlb)
    have hn1 : b1' ≠ gb := fun h => by
      have := hO'.ap 0 1 l' l1' gb (by simp) (by simp) hl hl1 (.inl hlb) (.inl (h ▸ hb1)); cases this
    have hn2 : b2 ≠ gb := fun h => by
      have := hO'.ap 0 2 l' l2 gb (by simp) (by simp) hl hl2 (.inl hlb) (.inl (h ▸ hb2)); cases this
    have hc1 : w.cell? ⟨b1', 0, none⟩ = some (.pointer (some ⟨b2, 0, none⟩)) := by
      rw [fE hh1]
      obtain ⟨c, hc⟩ : ∃ c, arr1[0]? = some c := ⟨_, Array.getElem?_eq_getElem (by rw [hz1]; exact Nat.one_pos)⟩
      obtain ⟨l2', b2', q1, q2, rfl⟩ := (hr1 0 (.bp 2 0) c rfl hc).bp_inv
      rw [hl2] at q1; injection q1 with q1; subst q1
      rw [hb2] at q2; injection q2 with q2; subst q2
      exact hc
    have hc2 : w.cell? ⟨b2, fo, none⟩ = some (.slice (some ⟨gb, 0, none⟩) xs.length l'.cap) := by
      rw [fE hh2]
      have hlt : fo < arr2.size := by rw [hz2]; exact (List.getElem?_eq_some_iff.1 hcs).1
      obtain ⟨c, hc⟩ : ∃ c, arr2[fo]? = some c := ⟨_, Array.getElem?_eq_getElem hlt⟩
      obtain ⟨l0, q1, q2, rfl⟩ := (hr2 fo _ c hcs hc).own_inv
      rw [hl] at q1; injection q1 with q1; subst q1
      rw [hc, hlb, h2']; rfl
    have hcur : ∀ q, q < xs.length * k → cur[q]? = some ((flatK (jL en) k xs.toArray)[q]!) := fun q hq => by
      obtain ⟨u, hu⟩ := vJ en hk xs q hq
      obtain ⟨f1, x, f2⟩ := tS en hk xs q hq u hu
      have hql : q < csv.length := by rw [ho1, h2']; exact hq
      have hcq := List.getElem?_eq_getElem hql
      have hval := aGU (List.all_eq_true.1 (hpl x) u f2) (h5 q u _ hu hcq)
      rw [hval] at hcq
      rw [f1, ← hcq, ← e7, List.getElem?_take_of_lt (by rw [h2']; exact hq)]; simp
    have hH : HoldsK (jL en) k w gb 0 xs.toArray := fun q hq => by
      have hq' : q < xs.length * k := by simpa using hq
      constructor
      · rw [Nat.zero_add, fE e3]; exact hcur q hq'
      · simp [World.frozen?, e3]
    have hk' : ∀ x, (jL en x).length = k := fun x => by simp [jL, hk]
    have h1' : ∀ x, ∀ v ∈ jL en x, v.oneCell' = true := fun x v hv => by
      simp [jL] at hv; obtain ⟨u, hu, rfl⟩ := hv; exact vK (List.all_eq_true.1 (hpl x) u hu)
    have hless : LessReadsK P g #[.pointer (some ⟨b1', 0, none⟩)] (jL en) k lt gb 0 xs.toArray.size w := by
      intro m os dk hs i j hi hj
      have ew : sortWorldK (jL en) k w gb 0 m dk os = putRowK (jL en) k (grow (Sort.ahead w m) os) gb 0 dk := by
        unfold sortWorldK; rw [putRowK_grow _ _ (Sort.ahead w m) _ gb 0 _ hgs]
      have hHg : HoldsK (jL en) k (grow (Sort.ahead w m) os) gb 0 xs.toArray := holdsK_grow _ _ _ _ gb 0 _ hgs (holdsK_ahead _ _ _ _ _ _ _ hH)
      refine hcl gb l'.cap b1' b2 xs.toArray.size _ (fun t => dk[t]!) ?_ ?_ (fun q hq j' u hu => ?_) (by simpa using hlen) i j hi hj
      · rw [ew, cell?_putRowK_other _ _ _ gb 0 dk _ (by exact hn1), cell?_grow _ _ _ (by exact (hbb1 b1' (.inl hb1)).1)]; exact hc1
      · rw [ew, cell?_putRowK_other _ _ _ gb 0 dk _ (by exact hn2), cell?_grow _ _ _ (by exact (hbb2 b2 (.inl hb2)).1)]; simpa using hc2
      · have hj' : j' < k := by rw [← hk dk[q]!]; exact (List.getElem?_eq_some_iff.1 hu).1
        have := ((holdsK_putRowK _ _ _ gb 0 xs.toArray dk hHg hs).cell (i := q) (c := j') (by omega) hj').1
        rw [ew]
        rw [Nat.zero_add] at this
        rw [this]
        obtain ⟨hlt, he⟩ := List.getElem?_eq_some_iff.1 hu
        simp [jL, hlt, he]
    obtain ⟨f, gS, hff, hx⟩ := hf2 xs.length (by omega)
    have hS := Any.sort_Slice_cells_eq L t e i ie hi hd hpk hie ke hke (jL en) k hk' hs1 hagg h1' lt hO g #[.pointer (some ⟨b1', 0, none⟩)] eg gb 0 l'.cap xs.toArray (by simp; omega) (by simpa using hlen) f (by simpa using hff) gS hx w hless hH hgs
    rw [hlb, h2']
    have hsz0 : xs.toArray.size = xs.length := by simp
    rw [hsz0] at hS
    refine hS.mono ?_
    rintro e' w' ⟨rfl, nd, os, rfl⟩
    have hd' : pdq lt xs.toArray 0 xs.length (Lib.bitLen xs.length) true true = (lF lt xs).toArray := by unfold lF; simp
    rw [hd']
    have hpl' : (lF lt xs).length = xs.length := (lT hO xs).1
    have hold : ∀ b, b < w.heap.size → b ≠ gb → (grow (putRowK (jL en) k (Sort.ahead w nd) gb 0 (lF lt xs).toArray) os).heap[b]? = w.heap[b]? := fun b hb hbg => by
      rw [heap_grow_old _ _ (by simpa [size_putRowK] using hb)]
      simp only [putRowK, putRow, mapBlock, heap_ahead, Array.getElem?_modify]
      rw [if_neg (Ne.symm hbg)]
    have hg' : (grow (putRowK (jL en) k (Sort.ahead w nd) gb 0 (lF lt xs).toArray) os).heap[gb]? = some (.cells (putCells id 0 (flatK (jL en) k (lF lt xs).toArray) cur) e (0, 0)) := by
      rw [heap_grow_old _ _ (by simpa [size_putRowK] using hgs)]
      simp only [putRowK, putRow, mapBlock, heap_ahead, Array.getElem?_modify]
      rw [e3]; simp [onCells]
    refine ⟨_, A, μ, rfl, vA rfl hO' hbd rfl rfl rfl (by simp [size_putRowK]) rfl (fun b => b = gb) (fun b h => by subst h; exact ⟨⟨0, l', by simp, hl, .inl hlb⟩, hgA⟩) hold (fun m ob hm => ?_)⟩
    by_cases hm0 : m = 0
    · subst hm0
      simp at hm; subst hm
      refine .inr ⟨l', hl, h1, by simp [h2', hpl'], fun p hp => (by simp at hp; obtain ⟨x, _, rfl⟩ := hp; exact hk x), (flatK (jL en) k (lF lt xs).toArray).toList, ⟨by simp [hpl', h2'], .inr ⟨gb, cap, _, by rw [hlb, ecap]; rfl, Nat.zero_le _, hg', e4, e5, by simpa [putCells] using e6, ?_⟩⟩, fun c hc => ?_, fun q u c hu hc => ?_⟩
      · apply List.ext_getElem?
        intro q
        by_cases hq : q < xs.length * k
        · rw [List.getElem?_take_of_lt (by rw [h2']; exact hq)]
          have := hcur q hq
          simp [putCells, this, hq, hpl']
        · rw [List.getElem?_eq_none (by simp [h2']; omega), List.getElem?_eq_none (by simp [hpl']; omega)]
      · obtain ⟨q, hq, rfl⟩ := List.getElem_of_mem hc
        have hq' : q < (lF lt xs).length * k := by simpa using hq
        obtain ⟨u, hu⟩ := vJ en hk _ q hq'
        obtain ⟨f1, x, f2⟩ := tS en hk _ q hq' u hu
        have : (flatK (jL en) k (lF lt xs).toArray).toList[q] = (flatK (jL en) k (lF lt xs).toArray)[q]! := by
          rw [getElem!_pos _ q (by simpa using hq')]; simp
        rw [this, f1]; exact vK (List.all_eq_true.1 (hpl x) u f2)
      · have hq' : q < (lF lt xs).length * k := by simpa using (List.getElem?_eq_some_iff.1 hc).1
        obtain ⟨f1, x, f2⟩ := tS en hk _ q hq' u hu
        have : c = (flatK (jL en) k (lF lt xs).toArray)[q]! := by
          obtain ⟨hlt, he⟩ := List.getElem?_eq_some_iff.1 hc
          rw [getElem!_pos _ q (by simpa using hq'), ← he]; simp
        rw [this, f1]; exact aES (List.all_eq_true.1 (hpl x) u f2)
    · refine .inl ⟨hmo m ob hm hm0, fun lm b hlm hb => ?_⟩
      intro hbg; subst hbg
      have hml : m < rest.length + 3 := by simpa using (List.getElem?_eq_some_iff.1 hm).1
      exact hm0 (hO'.ap 0 m l' lm b (by simp) (by simpa using hml) hl hlm (.inl hlb) hb).symm
theorem aGX : ∀ (x y : List UInt8), Op.bytesLess x y = decide (x < y)
  | [], [] => by simp [Op.bytesLess]
  | _ :: _, [] => by simp [Op.bytesLess]
  | [], _ :: _ => by simp [Op.bytesLess]
  | a :: x, b :: y => by
    rw [Op.bytesLess, aGX x y]
    simp only [List.cons_lt_cons_iff]
    by_cases h1 : a < b <;> by_cases h2 : a = b <;> by_cases h3 : x < y <;> simp [h1, h2, h3]
theorem lU {x y z : List UInt8} (h : Op.bytesLess x y = true) (k : Op.bytesLess y z = true) : Op.bytesLess x z = true := by
  rw [aGX, decide_eq_true_eq] at *; exact List.lt_trans h k
theorem vP {x y z : List UInt8} (h : Op.bytesLess x y = false) (k : Op.bytesLess y z = false) : Op.bytesLess x z = false := by
  rw [aGX, decide_eq_false_iff_not, List.not_lt] at *; exact List.le_trans k h
def aAO {α : Type} (key : α → ByteArray) (x y : α) : Bool := Op.bytesLess (key x).toList (key y).toList
theorem rN {α : Type} (key : α → ByteArray) : SWO (aAO key) := ⟨fun x => lV _, fun x y z h k => lU h k, fun x y z h k => vP h k⟩
def pZ {α : Type} (k1 k2 : α → ByteArray) (x y : α) : Bool := Op.bytesLess (k1 x).toList (k1 y).toList || ((k1 x).toList == (k1 y).toList && Op.bytesLess (k2 x).toList (k2 y).toList)
theorem mH {α : Type} {k1 k2 : α → ByteArray} {x y : α} : pZ k1 k2 x y = false ↔ Op.bytesLess (k1 y).toList (k1 x).toList = true ∨ ((k1 x).toList = (k1 y).toList ∧ Op.bytesLess (k2 x).toList (k2 y).toList = false) := by
  unfold pZ
  rcases rB (k1 x).toList (k1 y).toList with h | h | h
  · have := mI _ _ h
    constructor
    · intro q; rw [h] at q; cases q
    · rintro (q | ⟨q, _⟩)
      · rw [this] at q; cases q
      · rw [q, lV] at h; cases h
  · rw [h, lV]; simp
  · have g := mI _ _ h
    have : ((k1 x).toList == (k1 y).toList) = false := by
      rw [beq_eq_false_iff_ne]; intro e; rw [e, lV] at h; cases h
    rw [g, this, h]; simp
theorem pO {α : Type} {k1 k2 : α → ByteArray} {x y : α} : pZ k1 k2 x y = true ↔ Op.bytesLess (k1 x).toList (k1 y).toList = true ∨ ((k1 x).toList = (k1 y).toList ∧ Op.bytesLess (k2 x).toList (k2 y).toList = true) := by
  unfold pZ; simp
theorem xB {α : Type} (k1 k2 : α → ByteArray) : SWO (pZ k1 k2) := by
  refine ⟨fun x => mH.2 (.inr ⟨rfl, lV _⟩), fun x y z h k => pO.2 ?_, fun x y z h k => mH.2 ?_⟩
  · rcases pO.1 h with h | ⟨h, h'⟩ <;> rcases pO.1 k with k | ⟨k, k'⟩
    · exact .inl (lU h k)
    · exact .inl (k ▸ h)
    · exact .inl (h ▸ k)
    · exact .inr ⟨h.trans k, lU h' k'⟩
  · rcases mH.1 h with h | ⟨h, h'⟩ <;> rcases mH.1 k with k | ⟨k, k'⟩
    · exact .inl (lU k h)
    · exact .inl (k ▸ h)
    · exact .inl (h ▸ k)
    · exact .inr ⟨h.trans k, vP h' k'⟩
theorem aBG {α : Type} [Inhabited α] {lt : α → α → Bool} {l r : List α} (h : (if l.length < 4611686018427387904 then some (lF lt l) else none) = some r) : l.length < 4611686018427387904 ∧ r = lF lt l := by
  split at h
  · rename_i hl; injection h with h; exact ⟨hl, h.symm⟩
  · cases h
#print axioms qX
end Go.Aw
