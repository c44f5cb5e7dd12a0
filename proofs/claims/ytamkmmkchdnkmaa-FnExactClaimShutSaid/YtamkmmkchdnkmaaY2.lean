/- Words of a way to tell what a function does with data: an interpreter over values, and the proof that what it tells is so. -/
import Derived.Test.YtamkmmkchdnkmaaY1
import Derived.Laws.Strings
import Derived.RowKit
import Derived.Deep.Slices
import Derived.WideShapes
import Derived.ChangeArms
import Derived.DataReads
import Derived.ProofKit
import Derived.OpenShut
import Derived.WalkKit
import Derived.ShutString
import Derived.ChangeOld
import Derived.Below
import Derived.SizedLaws
set_option linter.unusedVariables false
set_option linter.unusedSimpArgs false
set_option linter.unusedVariables false
namespace Go.Aw
open Go.RowKit
def rd (xs : List Int) (i : Int) : Int := xs.getD i.toNat 0
def rdOf {α : Type} (d : α) (xs : List α) (i : Int) : α := xs.getD i.toNat d
def Ev {α : Type} (g : Nat → Option α) (r : α) : Prop := ∃ K, ∀ k, K ≤ k → g k = some r
theorem Ev.now {α : Type} (r : α) : Ev (fun _ => some r) r := ⟨0, fun _ _ => rfl⟩
theorem Ev.rounds {α : Type} {g : Nat → Option α} {r : α} (h : Ev g r) : ∃ k, g k = some r := by
  obtain ⟨K, h⟩ := h
  exact ⟨K, h K (Nat.le_refl _)⟩
theorem Ev.bind {α β : Type} {g : Nat → Option α} {f : Nat → α → Option β} {a : α} {r : β} (h : Ev g a) (k : Ev (fun n => f n a) r) : Ev (fun n => (g n).bind (f n)) r := by
  obtain ⟨K, h⟩ := h
  obtain ⟨L, k⟩ := k
  refine ⟨max K L, fun n hn => ?_⟩
  show (g n).bind (f n) = some r
  rw [h n (by omega)]
  exact k n (by omega)
theorem Ev.step {α : Type} {g f : Nat → Option α} {r : α} (h : ∀ k, g (k + 1) = f k) (k : Ev f r) : Ev g r := by
  obtain ⟨K, k⟩ := k
  refine ⟨K + 1, fun n hn => ?_⟩
  obtain ⟨m, rfl⟩ : ∃ m, n = m + 1 := ⟨n - 1, by omega⟩
  rw [h m]
  exact k m (by omega)
theorem Ev.congr {α : Type} {g f : Nat → Option α} {r : α} (h : ∀ k, g k = f k) (k : Ev f r) : Ev g r := by
  obtain ⟨K, k⟩ := k
  exact ⟨K, fun n hn => (h n).trans (k n hn)⟩

variable {α : Type} {X Y : Prop} {A B : Option α} {r : α}
theorem br_t {b : Bool} (H : (if b = true then A else B) = some r) (h1 : b = true → A = some r → X) (h2 : b = false → B = some r → Y) : Br b X Y := by
  cases b
  · exact Br.f rfl (h2 rfl H)
  · exact Br.t rfl (h1 rfl H)
theorem br_nt {b : Bool} (H : (if b = true then A else B) = some r) (h1 : b = true → A = some r → Y) (h2 : b = false → B = some r → X) : Br (!b) X Y := by
  cases b
  · exact Br.t rfl (h2 rfl H)
  · exact Br.f rfl (h1 rfl H)
theorem br_nnt {b : Bool} (H : (if b = true then A else B) = some r) (h1 : b = true → A = some r → X) (h2 : b = false → B = some r → Y) : Br (!(!b)) X Y := by
  cases b
  · exact Br.f rfl (h2 rfl H)
  · exact Br.t rfl (h1 rfl H)
theorem br_d {p : Prop} [Decidable p] (H : (if p then A else B) = some r) (h1 : p → A = some r → X) (h2 : ¬ p → B = some r → Y) : Br (decide p) X Y := by
  by_cases c : p
  · rw [if_pos c] at H; exact Br.t (decide_eq_true c) (h1 c H)
  · rw [if_neg c] at H; exact Br.f (decide_eq_false c) (h2 c H)
theorem br_nd {p : Prop} [Decidable p] (H : (if p then A else B) = some r) (h1 : p → A = some r → Y) (h2 : ¬ p → B = some r → X) : Br (!decide p) X Y := by
  by_cases c : p
  · rw [if_pos c] at H; exact Br.f (by rw [decide_eq_true c]; rfl) (h1 c H)
  · rw [if_neg c] at H; exact Br.t (by rw [decide_eq_false c]; rfl) (h2 c H)
theorem br_nnd {p : Prop} [Decidable p] (H : (if p then A else B) = some r) (h1 : p → A = some r → X) (h2 : ¬ p → B = some r → Y) : Br (!(!decide p)) X Y := by
  rw [Bool.not_not]; exact br_d H h1 h2
theorem nd_ {p : Prop} [Decidable p] (H : (if p then A else none) = some r) (h : p → A = some r → X) : Nd p X := by
  by_cases c : p
  · rw [if_pos c] at H; exact Nd.mk c (h c H)
  · rw [if_neg c] at H; cases H

theorem wr64 (x : Int) : wr .i64 x = wrap64 x := rfl
/-- equalities of lists and lengths, as they come -/
theorem lm_ {P : Prop} (h : P := by
    first | rfl | with_reducible assumption | omega | (simp only [List.length_append, List.length_cons, List.length_nil, List.length_map, List.length_set, List.length_replicate, List.length_take, List.length_drop, List.map_append, List.map_cons, List.map_nil, List.map_set, List.set_set, List.map_replicate, List.map_take, List.map_drop] <;> first | rfl | omega | (simp only [wr64] at * <;> omega)) | (simp only [wr64] at * <;> omega) | (simp only [wr64, List.length_append, List.length_cons, List.length_nil, List.length_take, List.length_drop, List.length_map] at * <;> omega)) : P := h
theorem fm_ {P : Prop} (h : P := by
    first | rfl | (conv => lhs; whnf
                   all_goals (first | rfl | (simp only [List.map_append, List.map_cons, List.map_nil, List.map_set, List.set_set, List.map_replicate, List.map_take, List.map_drop]; rfl)))) : P := h
theorem fi_ {P : Prop} (h : P := by repeat (first | exact trivial | refine ⟨rfl, ?_⟩)) : P := h
theorem lt_ {P : Prop} (h : P := by first | omega | (dsimp only; omega)) : P := h
/-- values that are the same, one by one -/
def LE : List V → List V → Prop
  | [], [] => True
  | a :: l, b :: k => a = b ∧ LE l k
  | _, _ => False
theorem le_eq : ∀ {us vs : List V}, LE us vs → us = vs
  | [], [], _ => rfl
  | a :: l, b :: k, ⟨h, g⟩ => by rw [h, le_eq g]
  | [], _ :: _, h => h.elim
  | _ :: _, [], h => h.elim
theorem sl_e {u : V} {sz a n : Nat} {xs ys : List (List V)} (h0 : u = .sl sz a xs) (h : a = n) (k : xs = ys) : u = .sl sz n ys := by rw [h0, h, k]
theorem ag_e {u : V} {us vs : List V} (h0 : u = .agg us) (h : LE us vs) : u = .agg vs := by rw [h0, le_eq h]
theorem bx_eq {o : Option Ob} {us vs : List V} (h0 : o = some (.box us)) (h : LE us vs) : o = some (.box vs) := by rw [h0, le_eq h]
theorem bo_nil : ∀ ob ∈ ([] : List Ob), BareO ob := fun ob h => by cases h
theorem bo_cons {ob : Ob} {l : List Ob} (h : BareO ob) (k : ∀ ob ∈ l, BareO ob) : ∀ o ∈ ob :: l, BareO o := fun o ho => by
  rcases List.mem_cons.1 ho with rfl | ho
  · exact h
  · exact k o ho
theorem bo_arr {α : Type} {e sz : Nat} {en : α → List V} {l : List α} (h : ∀ x, (en x).all V.bare = true) : BareO (.arr e sz (l.map en)) := fun p hp u hu => by
  obtain ⟨x, _, rfl⟩ := List.mem_map.1 hp
  unfold V.bareE
  rw [List.all_eq_true.1 (h x) u hu]; rfl
theorem bo_arrE {α : Type} {e sz : Nat} {en : α → List V} {l : List α} (h : ∀ x ∈ l, (en x).all V.bareE = true) : BareO (.arr e sz (l.map en)) := fun p hp u hu => by
  obtain ⟨x, hx, rfl⟩ := List.mem_map.1 hp
  exact List.all_eq_true.1 (h x hx) u hu
theorem el_of {xs ys : List (List V)} {i : Nat} {p : List V} (h : xs = ys) (k : ys[i]? = some p) : xs[i]? = some p := by rw [h]; exact k
theorem rdms {α : Type} (en : α → List V) (l : List α) (i : Int) (r : α) (h0 : 0 ≤ i) (h1 : i < (l.length : Int)) : ((l.set i.toNat r).map en)[i.toNat]? = some (en r) := by
  have : i.toNat < l.length := by omega
  simp [this]
theorem mt_own {i a b : Nat} (h : a = b) : V.own i a = V.own i b := by rw [h]
theorem mt_sl {sz a b : Nat} {xs ys : List (List V)} (h : a = b) (k : xs = ys) : V.sl sz a xs = V.sl sz b ys := by rw [h, k]
section
variable {ck : Nat → Bool} {m : Nat → Option Ob}
theorem av_ownD {i len e sz n : Nat} {xs ys : List (List V)} (hc : ck i = true) (hm : m i = some (.arr e sz xs)) (h : len = n) (k : xs = ys) : Av ck m (.own i len) (.sl sz n ys) := by subst h; subst k; exact av_own hc hm
theorem avA_ownD {i len e sz n : Nat} {xs ys : List (List V)} (hc : ck i = true) (hm : m i = some (.arr e sz xs)) (h : len = n) (k : xs = ys) : AvA ck m (.own i len) (.sl sz n ys) := av_ownD (len := len) hc hm h k
theorem av_slD {sz a n : Nat} {xs ys : List (List V)} (h : a = n) (k : xs = ys) : Av ck m (.sl sz a xs) (.sl sz n ys) := by subst h; subst k; exact av_shut' rfl
theorem avA_slD {sz a n : Nat} {xs ys : List (List V)} (h : a = n) (k : xs = ys) : AvA ck m (.sl sz a xs) (.sl sz n ys) := by subst h; subst k; exact avA_shut' rfl
end
section
variable {σ : St} {rn : List (Option Nat)} {fz : List Nat}
theorem rt_slD {sz a n : Nat} {xs ys : List (List V)} (h : a = n) (k : xs = ys) : Rt σ rn fz (.sl sz a xs) (.sl sz n ys) := by subst h; subst k; exact rt_eq rfl
theorem rtA_slD {sz a n : Nat} {xs ys : List (List V)} (h : a = n) (k : xs = ys) : RtA σ rn fz (.sl sz a xs) (.sl sz n ys) := by subst h; subst k; exact rtA_eq rfl
theorem rt_fzD {i len e sz n : Nat} {xs ys : List (List V)} (hm : σ.mem i = some (.arr e sz xs)) (h : len = n) (k : xs = ys) (hf : memB fz i = true) : Rt σ rn fz (.own i len) (.sl sz n ys) := by subst h; subst k; exact rt_fz hm ((memB_iff _ _).1 hf)
theorem rtA_fzD {i len e sz n : Nat} {xs ys : List (List V)} (hm : σ.mem i = some (.arr e sz xs)) (h : len = n) (k : xs = ys) (hf : memB fz i = true) : RtA σ rn fz (.own i len) (.sl sz n ys) := by subst h; subst k; exact rtA_fz hm ((memB_iff _ _).1 hf)
theorem rt_fz' {i len e sz : Nat} {xs : List (List V)} (hm : σ.mem i = some (.arr e sz xs)) (hf : memB fz i = true) : Rt σ rn fz (.own i len) (.sl sz len xs) := rt_fz hm ((memB_iff _ _).1 hf)
theorem rtA_fz' {i len e sz : Nat} {xs : List (List V)} (hm : σ.mem i = some (.arr e sz xs)) (hf : memB fz i = true) : RtA σ rn fz (.own i len) (.sl sz len xs) := rtA_fz hm ((memB_iff _ _).1 hf)
end
end Go.Aw

set_option linter.unusedVariables false
namespace Go.Aw
open Go.RowKit Go.Deep Go.ChangeShapes Go.WideShapes Go.ChangeAt
/-! ### arguments read as data: what they hold -/
def RcL (w : World) (A : Nat → Prop) (us : List V) (cs : List Value) : Prop := cs.length = us.length ∧ ∀ (i : Nat) (u : V) (c : Value), us[i]? = some u → cs[i]? = some c → Rc w A u c ∧ c.oneCell' = true
theorem RcL.one {w : World} {A : Nat → Prop} {u : V} {c : Value} (h : Rc w A u c) (h1 : c.oneCell' = true) : RcL w A [u] [c] := ⟨rfl, fun i u' c' hu hc => by
  cases i with
  | zero => simp at hu hc; subst hu; subst hc; exact ⟨h, h1⟩
  | succ i => simp at hu⟩
theorem RcL.append {w : World} {A : Nat → Prop} {us vs : List V} {cs ds : List Value} (h : RcL w A us cs) (k : RcL w A vs ds) : RcL w A (us ++ vs) (cs ++ ds) := by
  refine ⟨by simp [h.1, k.1], fun i u c hu hc => ?_⟩
  by_cases hi : i < us.length
  · rw [List.getElem?_append_left hi] at hu
    rw [List.getElem?_append_left (by rw [h.1]; exact hi)] at hc
    exact h.2 i u c hu hc
  · rw [List.getElem?_append_right (by omega)] at hu
    rw [List.getElem?_append_right (by rw [h.1]; omega), h.1] at hc
    exact k.2 _ u c hu hc
/-- all that lies there -/
def Lies (w : World) : Nat → Prop := fun b => b < w.heap.size
def Opn {α : Type} (P : Program) (t : TypeId) (enc : α → List V) (okx : α → Prop) : Prop :=
  ∀ (H : Type) (en : TypeId × Value → H) (w : World) (fuel : Nat) (cs : List Value) (y : DataW H × List MemPlace),
    DataW.trod en P w 0 (fun _ => true) true fuel t cs = some y → (∀ n ∈ y.1.weights P t, n ≤ reachBytes) → ∃ x, RcL w (Lies w) (enc x) cs ∧ okx x
theorem opn_bool {P : Program} {t : TypeId} (ht : P.underlying t = some .bool) : Opn P t (fun x : Bool => [.bool x]) (fun _ => True) := by
  intro H en w fuel cs y h _
  obtain ⟨b, rfl, _⟩ := DataW.trod_bool ht h
  exact ⟨b, .one (.bool b) rfl, trivial⟩
theorem opn_int {P : Program} {t : TypeId} {k : IntKind} (ht : P.underlying t = some (.int k)) : Opn P t (fun x : Int => [.int k x]) (fun x => (Lit.int k x).wf = true) := by
  intro H en w fuel cs y h _
  obtain ⟨n, rfl, _, hw⟩ := DataW.trod_int ht h
  exact ⟨n, .one (.int k n) rfl, hw⟩
theorem opn_string {P : Program} {t : TypeId} (ht : P.underlying t = some .string) : Opn P t (fun x : ByteArray => [.str x]) (fun x => x.size ≤ 140737488351232) := by
  intro H en w fuel cs y h hw
  obtain ⟨s, rfl, rfl, _⟩ := DataW.trod_string ht h
  refine ⟨s, .one (.str s) rfl, ?_⟩
  have := hw s.data.toList.length (by simp [DataW.weights])
  rw [Array.length_toList] at this
  exact this
theorem ex_list {α : Type} (Q : Nat → α → Prop) (n : Nat) (h : ∀ i, i < n → ∃ x, Q i x) : ∃ xs : List α, xs.length = n ∧ ∀ (j : Nat) (p : α), xs[j]? = some p → Q j p := by
  induction n with
  | zero => exact ⟨[], rfl, fun j p hp => by simp at hp⟩
  | succ n ih =>
    obtain ⟨xs, hl, hx⟩ := ih (fun i hi => h i (by omega))
    obtain ⟨x, hq⟩ := h n (by omega)
    refine ⟨xs ++ [x], by simp [hl], fun j p hp => ?_⟩
    by_cases c : j < n
    · rw [List.getElem?_append_left (by omega)] at hp; exact hx j p hp
    · have hj : j = n := by
        have := (List.getElem?_eq_some_iff.1 hp).1
        simp [hl] at this; omega
      subst hj
      rw [List.getElem?_append_right (by omega), hl, Nat.sub_self] at hp
      injection hp with hp
      exact hp ▸ hq
theorem weightsAll_mem {H : Type} {P : Program} {e : TypeId} {d : DataW H} : ∀ {ds : List (DataW H)}, d ∈ ds → ∀ n ∈ d.weights P e, n ∈ DataW.weightsAll P e ds
  | d0 :: ds, hd, n, hn => by
    simp only [DataW.weightsAll, List.mem_append]
    rcases List.mem_cons.1 hd with rfl | hd
    · exact Or.inl hn
    · exact Or.inr (weightsAll_mem hd n hn)
theorem weightsAll_len {H : Type} (D : Nat → DataW H) (len m : Nat) (hl : len ≤ m) (i : Nat) (hi : i < len) : D i ∈ (List.range len).map D := List.mem_map.2 ⟨i, List.mem_range.2 hi, rfl⟩
theorem cell_lies {w : World} {a : Addr} {v : Value} (h : w.cell? a = some v) : a.block < w.heap.size := by
  unfold World.cell? at h
  split at h
  · rename_i hb; exact (Array.getElem?_eq_some_iff.1 hb).1
  · cases h
theorem opn_slice {α : Type} {P : Program} {t e : TypeId} {enc : α → List V} {okx : α → Prop} {b sz : Nat} (ht : P.underlying t = some (.slice e)) (hc : P.cellsOf e = sz) (hp : 0 < sz) (hb0 : P.bytesOf e = b) (hlen : ∀ x, (enc x).length = sz) (he : Opn P e enc okx) :
    Opn P t (fun xs : List α => [.sl sz xs.length (xs.map enc)]) (fun xs => (xs.length ≤ 9223372036854775807 ∧ xs.length * b ≤ 140737488351232) ∧ ∀ x ∈ xs, okx x) := by
  subst hb0
  intro H en w fuel cs y h hw
  rcases open_slice ht h with ⟨rfl, rfl⟩ | ⟨a, len, cap, m, n, D, Pl, rfl, _, hl, hm, hmm, rfl, hel⟩
  · exact ⟨[], .one (.sl sz 0 [] rfl none 0 (fun _ => undef) (Nat.le_refl _) (fun _ h => by cases h) (fun h => absurd rfl h) (fun _ _ _ h => by cases h) (fun _ _ h => by simp at h) (fun _ _ h => by simp at h)) rfl, ⟨by simp, by simp⟩, fun x hx => by cases hx⟩
  have hm2 : m = cap := by simpa using hmm
  subst hm2
  simp only [DataW.weights, ht, List.mem_cons, List.mem_append] at hw
  have hex : ∀ i, i < len → ∃ x, (∃ c, w.cells? 0 (a.add (i * P.cellsOf e)) (P.cellsOf e) = some c ∧ RcL w (Lies w) (enc x) c) ∧ okx x := fun i hi => by
    obtain ⟨cs', h1, h2⟩ := hel i (by omega)
    obtain ⟨x, hk, ho⟩ := he _ en w n cs' _ h2 (fun q hq => hw q (Or.inr (Or.inl (weightsAll_mem (weightsAll_len D len m hl i hi) q hq))))
    exact ⟨x, ⟨cs', h1, hk⟩, ho⟩
  obtain ⟨xs, hxl, hx⟩ := ex_list _ len hex
  have hb : (len + (m - len)) * P.bytesOf e ≤ reachBytes := by
    have := hw _ (Or.inl rfl)
    simpa using this
  have hu : ∀ p ∈ xs.map enc, p.length = sz := fun p hp => by
    obtain ⟨x, _, rfl⟩ := List.mem_map.1 hp
    exact hlen x
  have key : ∀ (k : Nat) (u : V), (xs.map enc).flatten[k]? = some u → ∃ c, w.cell? (a.add k) = some c ∧ Rc w (Lies w) u c ∧ c.oneCell' = true := fun k u hk => by
    obtain ⟨p, h1, h2⟩ := flat_inv _ k u hu hk
    simp only [List.getElem?_map, Option.map_eq_some_iff] at h1
    obtain ⟨x, h1, rfl⟩ := h1
    obtain ⟨⟨c, g1, g2⟩, _⟩ := hx _ x h1
    have hlt : k % sz < c.length := by rw [g2.1, hlen]; exact Nat.mod_lt _ hp
    obtain ⟨_, hcl, hcc⟩ := World.cells?_some g1
    have e1 := hcc (k % sz) (by rw [hc]; exact Nat.mod_lt _ hp)
    rw [Go.Deep.add_add, hc, Nat.div_add_mod' k sz, List.getElem?_eq_getElem hlt] at e1
    obtain ⟨q1, q2⟩ := g2.2 _ u _ h2 (List.getElem?_eq_getElem hlt)
    exact ⟨_, e1, q1, q2⟩
  subst hxl
  refine ⟨xs, .one (.sl sz xs.length (xs.map enc) (by simp) (some a) m (fun k => (w.cell? (a.add k)).getD undef) (by simpa using hl) hu (fun hn => ⟨a, rfl, ?_⟩) (fun ad k u ha hk => ?_) (fun k u hk => ?_) (fun k u hk => ?_)) rfl, ⟨?_, ?_⟩, fun x hxm => ?_⟩
  · have h0 : xs ≠ [] := fun h => hn (by rw [h]; rfl)
    have hl0 : 0 < xs.length := List.length_pos_iff.2 h0
    have hfl := flat_len (xs.map enc) hu
    obtain ⟨c, h1, _⟩ := key 0 _ (List.getElem?_eq_getElem (by rw [hfl]; exact Nat.mul_pos (by simpa using hl0) hp))
    have := cell_lies h1
    rwa [add_block] at this
  · injection ha with ha; subst ha
    obtain ⟨c, h1, _⟩ := key k u hk
    rw [h1]; rfl
  · obtain ⟨c, h1, h2, _⟩ := key k u hk
    rw [h1]; exact h2
  · obtain ⟨c, h1, _, h2⟩ := key k u hk
    rw [h1]; exact h2
  · unfold maxLen at hm; omega
  · exact Nat.le_trans (Nat.mul_le_mul_right _ (by omega)) hb
  · obtain ⟨j, hj, hj2⟩ := List.getElem_of_mem hxm
    exact (hx j x (by rw [List.getElem?_eq_getElem hj, hj2])).2
/-- fields in line, from the cell 'off' on -/
def OpnF {α : Type} (P : Program) (fs : List Field) (off sz : Nat) (enc : α → List V) (okx : α → Prop) : Prop :=
  ∀ (H : Type) (en : TypeId × Value → H) (w : World) (fuel : Nat) (cs : List Value) (xs : List (DataW H × List MemPlace)), cs.length = off + sz → xs.length = fs.length →
    (∀ (i : Nat) (f : Field), fs[i]? = some f → DataW.trod en P w 0 (fun _ => true) true fuel f.type ((cs.drop f.offset).take (P.cellsOf f.type)) = xs[i]?) →
    (∀ n ∈ DataW.weightsEach P (fs.map (·.type)) (xs.map (·.1)), n ≤ reachBytes) → ∃ x, RcL w (Lies w) (enc x) (cs.drop off) ∧ okx x
theorem opnF_one {α : Type} {P : Program} {f : Field} {off sz : Nat} {enc : α → List V} {okx : α → Prop} (ho : f.offset = off) (hc : P.cellsOf f.type = sz) (h : Opn P f.type enc okx) : OpnF P [f] off sz enc okx := by
  intro H en w fuel cs xs hl hxl hx hw
  match xs, hxl with
  | [y], _ =>
    have h0 := hx 0 f rfl
    rw [ho, hc, List.take_of_length_le (by rw [List.length_drop]; omega)] at h0
    exact h _ en w fuel _ y h0 (fun n hn => hw n (by simp only [List.map_cons, List.map_nil, DataW.weightsEach, List.append_nil]; exact hn))
theorem opnF_cons {α β : Type} {P : Program} {f : Field} {fs : List Field} {off sa sb : Nat} {a : α → List V} {b : β → List V} {oka : α → Prop} {okb : β → Prop} (ho : f.offset = off) (hc : P.cellsOf f.type = sa) (h : Opn P f.type a oka) (hr : OpnF P fs (off + sa) sb b okb) :
    OpnF P (f :: fs) off (sa + sb) (fun x : α × β => a x.1 ++ b x.2) (fun x => oka x.1 ∧ okb x.2) := by
  intro H en w fuel cs xs hl hxl hx hw
  match xs, hxl with
  | y :: ys, hxl =>
    have h0 := hx 0 f rfl
    rw [ho, hc] at h0
    simp only [List.map_cons, DataW.weightsEach, List.mem_append] at hw
    obtain ⟨x0, k0, o0⟩ := h _ en w fuel _ y h0 (fun n hn => hw n (Or.inl hn))
    obtain ⟨x1, k1, o1⟩ := hr _ en w fuel cs ys (by omega) (by simpa using hxl) (fun i g hg => hx (i + 1) g (by simpa using hg)) (fun n hn => hw n (Or.inr hn))
    refine ⟨(x0, x1), ?_, o0, o1⟩
    have := k0.append k1
    rwa [← List.drop_drop, List.take_append_drop] at this
theorem opn_struct {α β : Type} {P : Program} {t : TypeId} {fs : Array Field} {sz : Nat} {enc : α → List V} {e : β → List V} {okx : α → Prop} {f : β → α} (ht : P.underlying t = some (.struct fs)) (hc : P.cellsOf t = sz) (h : OpnF P fs.toList 0 sz enc okx) (hf : ∀ x, ∃ y, f y = x) (hee : ∀ y, e y = enc (f y)) :
    Opn P t e (fun y => okx (f y)) := by
  intro H en w fuel cs y hy hw
  obtain ⟨xs, n, rfl, rfl, hl, hlen, hx⟩ := DataW.trod_struct ht hy
  simp only [DataW.weights, ht] at hw
  obtain ⟨x, hk, ho⟩ := h _ en w n cs xs (by rw [hl, hc, Nat.zero_add]) (by simpa using hlen) (fun i g hg => hx i g (by simpa using hg)) hw
  obtain ⟨z, rfl⟩ := hf x
  exact ⟨z, by rw [hee]; exact hk, ho⟩
/-- a struct argument: its cells, laid open -/
theorem opn_arg {β : Type} {P : Program} {t : TypeId} {fs : Array Field} {e : β → List V} {okx : β → Prop} {H : Type} {en : TypeId × Value → H} {w : World} {r : Reach} {b0 : Nat} {v : Value} {d : DataW H} {p : List MemPlace}
    (ht : P.underlying t = some (.struct fs)) (ho : Opn P t e okx) (hv : Value.okWide P w r b0 t v) (h : DataW.Trod en P w 0 (fun _ => true) true t v d p) (hw : ∀ n ∈ d.weights P t, n ≤ reachBytes) :
    ∃ x, Rv w (Lies w) (fun _ => none) (.agg (e x)) v ∧ okx x := by
  obtain ⟨cs, rfl, hsz⟩ := okWide_struct ht hv
  obtain ⟨fuel, hf⟩ := h
  obtain ⟨x, hk, hx⟩ := ho _ en w fuel _ _ hf hw
  exact ⟨x, .agg _ _ (by have := hk.1; simpa [Value.cells] using this) (fun i u c hu hc => .c (hk.2 i u c hu (by simpa [Value.cells] using hc)).1), hx⟩
theorem opn_slice_arg {β : Type} {P : Program} {t e : TypeId} {en0 : β → V} {okx : β → Prop} {H : Type} {en : TypeId × Value → H} {w : World} {r : Reach} {b0 : Nat} {v : Value} {d : DataW H} {p : List MemPlace}
    (ht : P.underlying t = some (.slice e)) (ho : Opn P t (fun x => [en0 x]) okx) (hv : Value.okWide P w r b0 t v) (h : DataW.Trod en P w 0 (fun _ => true) true t v d p) (hw : ∀ n ∈ d.weights P t, n ≤ reachBytes) :
    ∃ x, Rv w (Lies w) (fun _ => none) (en0 x) v ∧ okx x := by
  obtain ⟨a, len, cap, rfl⟩ := okWide_slice ht hv
  obtain ⟨fuel, hf⟩ := h
  obtain ⟨x, hk, hx⟩ := ho _ en w fuel _ _ hf hw
  exact ⟨x, .c (hk.2 0 _ _ rfl rfl).1, hx⟩
/-- values handed in, one by one -/
theorem rvs_nil {w : World} {A : Nat → Prop} {μ : Nat → Option Loc} : ∀ (i : Nat) (x : V) (v : Value), ([] : List V)[i]? = some x → (#[] : Array Value)[i]? = some v → Rv w A μ x v := fun i x v h => by simp at h
def RvL (w : World) (A : Nat → Prop) : List V → List Value → Prop
  | [], [] => True
  | x :: xs, v :: vs => Rv w A (fun _ => none) x v ∧ RvL w A xs vs
  | _, _ => False
theorem RvL.get {w : World} {A : Nat → Prop} : ∀ (xs : List V) (vs : List Value), RvL w A xs vs → vs.length = xs.length ∧ ∀ (i : Nat) (x : V) (v : Value), xs[i]? = some x → vs[i]? = some v → Rv w A (fun _ => none) x v
  | [], [], _ => ⟨rfl, fun i x v h => by simp at h⟩
  | [], _ :: _, h => h.elim
  | _ :: _, [], h => h.elim
  | x :: xs, v :: vs, ⟨a, b⟩ => by
    obtain ⟨g1, g2⟩ := RvL.get xs vs b
    refine ⟨by simp [g1], fun i y u hy hu => ?_⟩
    cases i with
    | zero => simp at hy hu; subst hy; subst hu; exact a
    | succ i => exact g2 i y u (by simpa using hy) (by simpa using hu)
/-- a function that takes data and says yes or no -/
theorem calls_bool {P : Program} {G : Nat → Option Obj} {f : FuncId} {Vs : List V} {b : Bool} (h : ACalls P G f [] Vs [] (.bool b)) {w : World} {vs : List Value} (hv : RvL w (Lies w) Vs vs) (hG : Gl G w (Lies w)) :
    Calls P f vs.toArray w fun e w' => e = .returned (.bool b) ∧ Below w.heap.size w w' := by
  obtain ⟨g1, g2⟩ := RvL.get Vs vs hv
  refine (h.2 w (Lies w) (fun _ => none) vs.toArray (by simpa using g1) (fun i x v hx hv => g2 i x v hx (by simpa using hv)) (fun b hb => hb) hG ⟨fun m ob hm => by simp at hm, fun i j li lj b hi => by simp at hi, fun i hi => absurd rfl hi⟩).mono fun e w' ⟨v, A', μ', he, hp⟩ => ?_
  subst he
  have := hp.res.bool_inv; subst this
  exact ⟨rfl, hp.os, hp.tape, hp.out, hp.size, fun k hk => hp.old k hk (fun ⟨m, l, hm, _⟩ => by simp at hm)⟩
theorem gl_none {w : World} {A : Nat → Prop} : Gl (fun _ => none) w A := fun g o h => by cases h
end Go.Aw

