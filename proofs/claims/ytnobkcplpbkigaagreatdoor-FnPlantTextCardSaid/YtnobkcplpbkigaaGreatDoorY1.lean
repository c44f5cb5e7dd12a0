import Derived.Test.YtnobkcplpbkigaaGreatDoorY0
import Derived.Laws.OwnMore
import Derived.MapKept
set_option linter.unusedVariables false
set_option linter.unusedSimpArgs false
set_option linter.unusedVariables false
namespace Go.Aw
section
variable {P : Program} {T : TypeId → Option TI} {ck : Nat → Bool} {w0 : World} {X A0 : Nat → Prop} {N : Nat} {bd : Nat → Prop} {σ : St} {a : Act} {w : World} {A : Nat → Prop} {μ : Nat → Option Loc} {Q : Exit → Act → World → Prop}
theorem qE {z : Array Value} {n sz k : Nat} (hz : z.size = sz) (hs : 0 < sz) (hk : k < n) : (madeCells z n)[k]? = z[k % sz]? := by
  have hlt : k % sz < z.size := by rw [hz]; exact Nat.mod_lt _ hs
  unfold madeCells
  subst hz
  simp [hk, getElem!_pos z (k % z.size) hlt]
theorem nN {o : Oper} {t : TypeId} {lo co : Operand} {l c : Int} {id : Nat} (ho : o.op = .makeSlice t lo co) (hT : TOk P T) (h : Ok w0 X A0 N bd σ a w A μ) (hid : μ id = none) (hd : ∀ n, o.dst = some n → n < N)
    {ti ei : TI} (ht : T t = some ti) (he : T ti.elem = some ei) (hsl : ti.sl = true) (hl : σ.ev lo = .int .i64 l) (hc : σ.ev co = .int .i64 c) (hbr : ei.zero.all V.bare = true) (h0 : 0 ≤ l) (h1 : l ≤ c) (h2 : c * (ei.bytes : Int) ≤ 140737488355328) :
    o.wp P a w (iJ w0 X A0 N (fun i => bd i ∨ (id ≤ i ∧ i < id + 8)) ((σ.put o.dst (.own id l.toNat)).eff (Eff.set id (.arr ti.elem ei.size (List.replicate l.toNat ei.zero)))) o.dst.toList a w A μ) Q := by
  obtain ⟨d, hdd, _, _, _, h4, _⟩ := (hT _ _ ht).desc
  have hd1 := (h4 hsl).1; subst hd1
  obtain ⟨i, z, g1, g2, g3, g4, g5, g6⟩ := lY (hT _ _ he)
  have hby : i.bytes = ei.bytes := by
    obtain ⟨i', z', k1, k2, k3, _⟩ := (hT _ _ he).info
    rw [g1] at k1; injection k1 with k1; subst k1; exact k3
  have hpos := (hT _ _ he).pos
  have hbp := (hT _ _ he).bpos
  have hlv := h.ev lo; rw [hl] at hlv
  have hcv := h.ev co; rw [hc] at hcv
  have hcb : c ≤ 140737488355328 := by
    have : c * 1 ≤ c * (ei.bytes : Int) := Int.mul_le_mul_of_nonneg_left (by omega) (by omega)
    omega
  have hbm : (i.bytes : Int) * c ≤ 281474976710656 := by rw [hby, Int.mul_comm]; omega
  have hrun : (execOp a.eval o).run P w = .ok (.value (.slice (some ⟨w.heap.size, 0, none⟩) l.toNat c.toNat)) (w.alloc (.cells (madeCells z.cells (c.toNat * i.size)) ti.elem)) := by
    simp only [execOp, ho, hlv.int_inv, hcv.int_inv, Sem.run_bind, run_make w t ti.elem i z hdd g1 g2 .i64 .i64 l c h0 h1 hbm (by omega), Result.andThen_ok]; rfl
  rw [g3] at hrun
  unfold Oper.wp
  rw [hrun]
  have hrc : ∀ (w' : World) (k : Nat) (u : V) (c' : Value), ei.zero[k]? = some u → z.cells[k]? = some c' → Rc w' A u c' ∧ c'.oneCell' = true := fun w' k u c' hu hc => by
    have hb := List.all_eq_true.1 hbr u (List.mem_of_getElem? hu)
    have hv := g6 w' A μ k u c' hu hc
    cases u <;> first | (cases hb; done) | skip
    case int => cases hv with | c h => exact ⟨h, by cases h; rfl⟩
    case bool => cases hv with | c h => exact ⟨h, by cases h; rfl⟩
    case str => cases hv with | c h => exact ⟨h, by cases h; rfl⟩
    case nil => cases hv with | c h => exact ⟨h, by cases h; rfl⟩
    case fn => cases hv with | c h => exact ⟨h, by cases h; rfl⟩
  have hone : ∀ (k : Nat) (c' : Value), z.cells[k]? = some c' → c'.oneCell' = true := fun k c' hc => by
    have hlt : k < ei.zero.length := by
      have := (Array.getElem?_eq_some_iff.1 hc).1
      omega
    exact (hrc w k _ c' (List.getElem?_eq_getElem hlt) hc).2
  have hrl : ∀ p ∈ List.replicate l.toNat ei.zero, p.length = ei.size := fun p hp => by rw [List.eq_of_mem_replicate hp]; exact g5
  have hmul : l.toNat * ei.size ≤ c.toNat * ei.size := Nat.mul_le_mul_right _ (by omega)
  refine ⟨A, upμ μ id ⟨some w.heap.size, l.toNat, c.toNat, ei.size, []⟩, h.new hid rfl ?_ (.own _ ⟨some w.heap.size, l.toNat, c.toNat, ei.size, []⟩ (upμ_self ..)) hd⟩
  refine ⟨rfl, by simp, hrl, (madeCells z.cells (c.toNat * ei.size)).toList.take (l.toNat * ei.size), jG (heap_alloc_new w _) (by show l.toNat ≤ c.toNat; omega) (by show c.toNat ≤ maxLen; unfold maxLen; omega) (size_madeCells _ _) rfl, fun c' hc' => ?_, fun k u c' hk hck => ?_⟩
  · obtain ⟨k, hk⟩ := List.getElem?_of_mem hc'
    rw [List.getElem?_take] at hk
    split at hk
    · rename_i hlt
      rw [Array.getElem?_toList, qE g4 hpos (by omega)] at hk
      exact hone _ _ hk
    · cases hk
  · obtain ⟨p, hp1, hp2⟩ := kG _ k u hrl hk
    have := List.eq_of_mem_replicate (List.mem_of_getElem? hp1); subst this
    rw [List.getElem?_take] at hck
    split at hck
    · rename_i hlt
      rw [Array.getElem?_toList, qE g4 hpos (by omega)] at hck
      exact (hrc _ _ _ _ hp2 hck).1
    · cases hck
end
end Go.Aw
set_option linter.unusedVariables false
namespace Go.Aw
section
variable {P : Program} {T : TypeId → Option TI} {ck : Nat → Bool} {w0 : World} {X A0 : Nat → Prop} {N : Nat} {bd : Nat → Prop} {σ : St} {a : Act} {w : World} {A : Nat → Prop} {μ : Nat → Option Loc} {Q : Exit → Act → World → Prop}
theorem sW (k : Nat) : ∀ n, k < n → ((List.range n).map (fun j => (⟨j, none, 0, 0⟩ : Hd))).find? (fun h => Nat.beq h.k k) = some ⟨k, none, 0, 0⟩
  | 0, h => by omega
  | n + 1, h => by
    rw [List.range_succ, List.map_append, List.find?_append]
    by_cases c : k < n
    · rw [sW k n c]; rfl
    · have e : k = n := by omega
      subst e
      have : ((List.range k).map (fun j => (⟨j, none, 0, 0⟩ : Hd))).find? (fun h => Nat.beq h.k k) = none := by
        rw [List.find?_eq_none]
        intro x hx
        obtain ⟨j, hj, rfl⟩ := List.mem_map.1 hx
        have := List.mem_range.1 hj
        intro hc
        have : j = k := Nat.eq_of_beq_eq_true hc
        omega
      rw [this]
      simp [Nat.beq_refl]
theorem wK {w' : World} {l : Loc} {es : List TypeId} {sz k : Nat} {u : V} {c : Value} (hb : u.bare = true) (h : Rc w A u c) : Dc w' l es sz k u c := by
  have h2 : Rc w' (fun _ => False) u c := oH hb h
  cases u <;> first | (cases hb; done) | exact ⟨hb, h2⟩
theorem lS {u : V} (hb : u.bare = true) : u.shut = true := by cases u <;> first | rfl | cases hb
theorem aJX {w' : World} {u : V} {c : Value} (hb : u.rowOk = true) (h : Rv w A μ u c) : Dr w' μ u c := by
  by_cases ho : ∃ m n, u = .own m n
  · obtain ⟨m, n, rfl⟩ := ho
    obtain ⟨l, hl, rfl, rfl⟩ := h.own_inv
    exact ⟨.inr (.inl ⟨m, _, rfl⟩), .own m l hl⟩
  · by_cases hd : ∃ i x o n, u = .dsl i x o n
    · obtain ⟨i, x, o, n, rfl⟩ := hd
      obtain ⟨l, d, hl, hd, rfl, rfl⟩ := h.dsl_inv
      exact ⟨.inr (.inr ⟨i, x, o, _, rfl⟩), .dsl i x o l d hl hd⟩
    · have hb : u.bare = true := by cases u <;> first | exact hb | exact absurd ⟨_, _, rfl⟩ ho | exact absurd ⟨_, _, _, _, rfl⟩ hd
      exact ⟨.inl hb, .c (oH hb (iT h (lS hb)))⟩
theorem uU {o : Oper} {t : TypeId} {lo co : Operand} {l c : Int} {id : Nat} (es : List TypeId) (ho : o.op = .makeSlice t lo co) (hT : TOk P T) (h : Ok w0 X A0 N bd σ a w A μ) (hid : μ id = none) (hd : ∀ n, o.dst = some n → n < N)
    {ti ei : TI} (ht : T t = some ti) (he : T ti.elem = some ei) (hsl : ti.sl = true) (hl : σ.ev lo = .int .i64 l) (hc : σ.ev co = .int .i64 c) (hbr : ei.zero.all V.bare = true) (h0 : 0 ≤ l) (h1 : l ≤ c) (h2 : c * (ei.bytes : Int) ≤ 140737488355328)
    {zs : List V} (hz1 : zs.length = ei.zero.length) (hz2 : ∀ (j : Nat) (u' : V), zs[j]? = some u' → ∃ u, ei.zero[j]? = some u ∧ (u' = u ∨ (u = .nil ∧ ∃ sz, u' = .sl sz 0 []))) :
    o.wp P a w (iJ w0 X A0 N (fun i => bd i ∨ (id ≤ i ∧ i < id + 8)) ((σ.put o.dst (.own id l.toNat)).eff (Eff.set id (.deep ti.elem ei.size es (List.replicate l.toNat zs)))) o.dst.toList a w A μ) Q := by
  obtain ⟨d, hdd, _, _, _, h4, _⟩ := (hT _ _ ht).desc
  have hd1 := (h4 hsl).1; subst hd1
  obtain ⟨i, z, g1, g2, g3, g4, g5, g6⟩ := lY (hT _ _ he)
  have hby : i.bytes = ei.bytes := by
    obtain ⟨i', z', k1, k2, k3, _⟩ := (hT _ _ he).info
    rw [g1] at k1; injection k1 with k1; subst k1; exact k3
  have hpos := (hT _ _ he).pos
  have hbp := (hT _ _ he).bpos
  have hlv := h.ev lo; rw [hl] at hlv
  have hcv := h.ev co; rw [hc] at hcv
  have hcb : c ≤ 140737488355328 := by
    have : c * 1 ≤ c * (ei.bytes : Int) := Int.mul_le_mul_of_nonneg_left (by omega) (by omega)
    omega
  have hbm : (i.bytes : Int) * c ≤ 281474976710656 := by rw [hby, Int.mul_comm]; omega
  have hrun : (execOp a.eval o).run P w = .ok (.value (.slice (some ⟨w.heap.size, 0, none⟩) l.toNat c.toNat)) (w.alloc (.cells (madeCells z.cells (c.toNat * i.size)) ti.elem)) := by
    simp only [execOp, ho, hlv.int_inv, hcv.int_inv, Sem.run_bind, run_make w t ti.elem i z hdd g1 g2 .i64 .i64 l c h0 h1 hbm (by omega), Result.andThen_ok]; rfl
  rw [g3] at hrun
  unfold Oper.wp
  rw [hrun]
  have hrc : ∀ (w' : World) (k : Nat) (u : V) (c' : Value), ei.zero[k]? = some u → z.cells[k]? = some c' → Rc w' A u c' ∧ c'.oneCell' = true := fun w' k u c' hu hc => by
    have hb := List.all_eq_true.1 hbr u (List.mem_of_getElem? hu)
    have hv := g6 w' A μ k u c' hu hc
    have h3 := iT hv (lS hb)
    refine ⟨h3, ?_⟩
    cases u <;> first | (cases hb; done) | (cases h3; rfl)
  have hone : ∀ (k : Nat) (c' : Value), z.cells[k]? = some c' → c'.oneCell' = true := fun k c' hc => by
    have hlt : k < ei.zero.length := by
      have := (Array.getElem?_eq_some_iff.1 hc).1
      omega
    exact (hrc w k _ c' (List.getElem?_eq_getElem hlt) hc).2
  have hrl : ∀ p ∈ List.replicate l.toNat zs, p.length = ei.size := fun p hp => by rw [List.eq_of_mem_replicate hp, hz1]; exact g5
  have hmul : l.toNat * ei.size ≤ c.toNat * ei.size := Nat.mul_le_mul_right _ (by omega)
  let L : Loc := ⟨some w.heap.size, l.toNat, c.toNat, ei.size, (List.range (l.toNat * ei.size)).map (fun j => (⟨j, none, 0, 0⟩ : Hd))⟩
  have hnone : ∀ h ∈ L.fp, h.b = none := fun h hh => by
    obtain ⟨j, _, rfl⟩ := List.mem_map.1 hh; rfl
  refine ⟨A, upμ μ id L, h.new hid rfl ?_ (.own _ L (upμ_self ..)) hd hnone⟩
  refine ⟨fun k h b hk hb => ?_, rfl, by simp [L], hrl, (madeCells z.cells (c.toNat * ei.size)).toList.take (l.toNat * ei.size), jG (heap_alloc_new w _) (by show l.toNat ≤ c.toNat; omega) (by show c.toNat ≤ maxLen; unfold maxLen; omega) (size_madeCells _ _) rfl, fun c' hc' => ?_, fun k u c hk hck => ?_⟩
  · rw [hnone h (List.mem_of_find?_eq_some hk)] at hb; cases hb
  · obtain ⟨k, hk⟩ := List.getElem?_of_mem hc'
    rw [List.getElem?_take] at hk
    split at hk
    · rename_i hlt
      rw [Array.getElem?_toList, qE g4 hpos (by omega)] at hk
      exact hone _ _ hk
    · cases hk
  · obtain ⟨p, hp1, hp2⟩ := kG _ k u hrl hk
    have := List.eq_of_mem_replicate (List.mem_of_getElem? hp1); subst this
    rw [List.getElem?_take] at hck
    split at hck
    · rename_i hlt
      rw [Array.getElem?_toList, qE g4 hpos (by omega)] at hck
      obtain ⟨u0, hu0, hne⟩ := hz2 _ _ hp2
      have hR := (hrc w _ _ _ hu0 hck).1
      rcases hne with rfl | ⟨rfl, s, rfl⟩
      · exact wK (List.all_eq_true.1 hbr u (List.mem_of_getElem? hu0)) hR
      · cases hR
        exact ⟨⟨k, none, 0, 0⟩, sW k _ hlt, rfl, rfl, rfl, rfl, fun _ h => (by cases h), [], ⟨by simp, .inl ⟨rfl, rfl⟩⟩, fun _ h => (by cases h), fun k u c hk => by simp at hk⟩
    · cases hck
theorem sH {o : Oper} {t : TypeId} {x y : Operand} {i idx off : Nat} {e : TypeId} {sz : Nat} {es : List TypeId} {xs : List (List V)} {p : List V} (ho : o.op = .store t x y) (hT : TOk P T) (h : Ok w0 X A0 N bd σ a w A μ) (hd : ∀ n, o.dst = some n → n < N) {ti : TI} (ht : T t = some ti)
    (hc : (σ.ev y).cells.length = ti.size) (hx : σ.ev x = .ep i idx off) (hi : σ.mem i = some (.deep e sz es xs)) (hp : xs[idx]? = some p) {v : V} {eff : Eff} (hs : stD i idx off ti.size e sz es xs p (σ.ev y).cells (fun v' e' => v' = v ∧ e' = eff)) :
    o.wp P a w (iJ w0 X A0 N bd ((σ.put o.dst v).eff eff) o.dst.toList a w A μ) Q := by
  have hpos := (hT _ _ ht).pos
  have hxv := h.ev x; rw [hx] at hxv
  obtain ⟨l, b, hl, hlb, hxe⟩ := hxv.ep_inv
  obtain ⟨l', hl', hob, _⟩ := h.ob i _ hi
  obtain rfl : l' = l := by rw [hl] at hl'; injection hl' with e; exact e.symm
  obtain ⟨hH, hsz, hlen, hu, cs, ⟨ho1, ho2⟩, hones, hrc⟩ := hob
  rcases ho2 with ⟨e1, e2⟩ | ⟨g, cap, cur, e1, e2, e3, e4, e5, e6, e7⟩
  · rw [hlb] at e1; simp at e1
  rw [hlb] at e1; simp at e1
  obtain ⟨rfl, rfl⟩ := e1
  obtain ⟨g1, g2⟩ := kD (h.ev y) (by omega)
  have hpl : p.length = sz := hu p (List.mem_of_getElem? hp)
  have hidx : idx < xs.length := (List.getElem?_eq_some_iff.1 hp).1
  have hmul : idx * sz + sz ≤ l'.len * sz := by rw [hlen]; have := Nat.mul_le_mul_right sz hidx; rw [Nat.succ_mul] at this; exact this
  have hcap : l'.len * sz ≤ cur.size := by rw [e6]; exact Nat.mul_le_mul_right _ e4
  have hvl : (a.eval y).cells.toList.length = (σ.ev y).cells.length := by simpa using g1
  have hcl : cs.length = l'.len * sz := ho1
  have hflen : xs.flatten.length = l'.len * sz := by rw [gY xs hu, hlen]
  -- what a store into row idx leaves
  have core : ∀ (ob : Ob), off + ti.size ≤ p.length → (σ.ev y).cells.all V.rowOk = true →
      (∀ (w' : World), (∀ k, k ≠ b → w'.heap[k]? = w.heap[k]?) → (∀ ad c, A ad.block → w.cell? ad = some c → w'.cell? ad = some c) →
        (∀ R : Nat → V → Value → Prop, (∀ k u c, xs.flatten[k]? = some u → ¬ (idx * sz + off ≤ k ∧ k < idx * sz + off + ti.size) → Dc w' l' es sz k u c → R k u c) → (∀ k u c, (idx * sz + off ≤ k ∧ k < idx * sz + off + ti.size) → (σ.ev y).cells[k - (idx * sz + off)]? = some u → Rv w A μ u c → R k u c) →
          Row w' l' e sz (xs.set idx (iI p off (σ.ev y).cells)) R) → gP w' A μ l' ob) →
      o.wp P a w (iJ w0 X A0 N bd ((σ.put o.dst (.tup [])).eff (Eff.set i ob)) o.dst.toList a w A μ) Q := fun ob hle hrow hOb => by
    have hone : ∀ v ∈ (a.eval y).cells.toList, v.oneCell' = true := fun v hv => by
      obtain ⟨k, hk, rfl⟩ := List.getElem_of_mem hv
      have hk' : k < (σ.ev y).cells.length := by rw [← hvl]; exact hk
      have := List.all_eq_true.1 hrow _ (List.getElem_mem hk')
      refine (g2 k _ _ (List.getElem?_eq_getElem hk') (by simp at hk ⊢)).one ?_ ?_ ?_
      · intro e; rw [e] at this; cases this
      · intro xs e; rw [e] at this; cases this
      · intro xs e; rw [e] at this; cases this
    unfold Oper.wp
    rw [lK (P := P) ho (hT _ _ ht) (by rw [hxe, hsz]) e3 (g1.trans hc) (by omega) hone]
    refine ⟨A, μ, h.chg hi hl hlb rfl rfl rfl (by simp) (fun k hk => setRow_other w b k _ hk) (fun hcell => hOb _ (fun k hk => setRow_other w b k _ hk) hcell (fun R hR1 hR2 => ?_)) (.inr rfl) (.tup [] #[] rfl (fun i x c h => by simp at h)) hd⟩
    refine ⟨hsz, by simpa using hlen, fun q hq => ?_, iI cs (idx * sz + off) (a.eval y).cells.toList, ⟨?_, .inr ⟨b, l'.cap, _, by rw [hlb]; rfl, Nat.zero_le _, setRow_heap w b cur _ e _ e3, e4, e5, ?_, ?_⟩⟩, fun c hcm => ?_, fun k u c hk hck => ?_⟩
    · rcases List.mem_or_eq_of_mem_set hq with hq | rfl
      · exact hu q hq
      · rw [gE (by omega), hpl]
    · rw [gE (by omega), hcl]
    · rw [List.size_toArray, gE (by simp; omega)]; simpa using e6
    · show (iI cur.toList _ _).take _ = _
      rw [rK (by omega) (by simp; omega), e7]
    · obtain ⟨k, hk, rfl⟩ := List.getElem_of_mem hcm
      have hk' : (iI cs (idx * sz + off) (a.eval y).cells.toList)[k]? = some ((iI cs (idx * sz + off) (a.eval y).cells.toList)[k]) := List.getElem?_eq_getElem hk
      rw [fN (by omega)] at hk'
      split at hk'
      · exact hone _ (List.mem_of_getElem? hk')
      · exact hones _ (List.mem_of_getElem? hk')
    · rw [mK xs idx p hu hp (by omega), fN (by omega)] at hk
      rw [fN (by omega), hvl] at hck
      by_cases c1 : idx * sz + off ≤ k ∧ k < idx * sz + off + (σ.ev y).cells.length
      · rw [if_pos c1] at hk hck
        exact hR2 k u c (by rw [← hc]; exact c1) hk (g2 _ u c hk (by simpa using hck))
      · rw [if_neg c1] at hk hck
        refine hR1 k u c hk (by rw [← hc]; exact c1) ((hrc k u c hk hck).mono (fun d b' hd' hb' => setRow_other w b b' _ ?_))
        intro e; exact (hH k d b' hd' hb').1 (by rw [e]; exact hlb)
  unfold stD at hs
  split at hs
  · rename_i hbare
    split at hs
    · rename_i hle
      obtain ⟨rfl, rfl⟩ := hs
      refine core _ (Nat.le_of_ble_eq_true hle) (List.all_eq_true.2 fun u hu => ?_) (fun w' hw1 hw2 hRow => ⟨hH, hRow _ (fun k u c _ _ h => h) (fun k u c _ hk hv => ?_)⟩)
      · have hb := List.all_eq_true.1 hbare u hu
        cases u <;> first | exact hb | cases hb
      · have hb := List.all_eq_true.1 hbare u (List.mem_of_getElem? hk)
        exact wK hb (iT hv (lS hb))
    · exact hs.elim
  · split at hs
    · rename_i h1 h2 h3
      obtain ⟨rfl, rfl⟩ := hs
      have e1 := Nat.eq_of_beq_eq_true h1
      have e2 := Nat.eq_of_beq_eq_true h2
      subst e1
      have hset : iI p 0 (σ.ev y).cells = (σ.ev y).cells := by
        unfold iI
        rw [List.take_zero, List.nil_append, List.drop_eq_nil_of_le (by omega), List.append_nil]
      refine core _ (by omega) h3 (fun w' hw1 hw2 hRow => ⟨hH, hidx, ?_⟩)
      rw [← hset]
      have hdiv : ∀ k, (idx * sz + 0 ≤ k ∧ k < idx * sz + 0 + ti.size) ↔ k / sz = idx := fun k => by
        rw [e2, Nat.add_zero]
        have hp0 : 0 < sz := by omega
        constructor
        · rintro ⟨h1, h2⟩
          exact Nat.div_eq_of_lt_le h1 (by rw [Nat.succ_mul]; exact h2)
        · intro h; subst h
          have q1 := Nat.div_add_mod k sz
          have q2 := Nat.mod_lt k hp0
          have q3 := Nat.mul_comm sz (k / sz)
          omega
      refine hRow _ (fun k u c _ hn hD => .inl ⟨fun e => hn ((hdiv k).2 e), hD⟩) (fun k u c hin hk hv => .inr ⟨(hdiv k).1 hin, aJX (List.all_eq_true.1 h3 u (List.mem_of_getElem? hk)) hv⟩)
    · exact hs.elim
end
end Go.Aw
set_option linter.unusedVariables false
namespace Go.Aw
section
variable {P : Program} {T : TypeId → Option TI} {ck : Nat → Bool} {w0 : World} {X A0 : Nat → Prop} {N : Nat} {bd : Nat → Prop} {σ : St} {a : Act} {w : World} {A : Nat → Prop} {μ : Nat → Option Loc} {Q : Exit → Act → World → Prop}
theorem aJG {u : V} {c : Value} (hb : u.rowOk = true) (h : Rv w A μ u c) : c.oneCell' = true := by
  refine h.one ?_ ?_ ?_
  · intro e; rw [e] at hb; cases hb
  · intro xs e; rw [e] at hb; cases hb
  · intro xs e; rw [e] at hb; cases hb
theorem uI {o : Oper} {t : TypeId} {parts : Array (Nat × Operand)} {x : Operand} {id : Nat} (es : List TypeId) (ho : o.op = .buildSlice t 1 parts) (hpt : parts.toList = [(0, x)]) (hT : TOk P T) (h : Ok w0 X A0 N bd σ a w A μ) (hid : μ id = none) (hd : ∀ n, o.dst = some n → n < N)
    {ti ei : TI} (ht : T t = some ti) (he : T ti.elem = some ei) (hsl : ti.sl = true) (hlen : (σ.ev x).cells.length = ei.size) (hro : (σ.ev x).cells.all V.rowOk = true) (hsm : ei.size ≤ 1000) :
    o.wp P a w (iJ w0 X A0 N (fun i => bd i ∨ (id ≤ i ∧ i < id + 8)) ((σ.put o.dst (.own id 1)).eff (Eff.set id (.dirt ti.elem ei.size es [[]] 0 (σ.ev x).cells))) o.dst.toList a w A μ) Q := by
  obtain ⟨d, hdd, _, _, _, h4, _⟩ := (hT _ _ ht).desc
  have hd1 := (h4 hsl).1; subst hd1
  obtain ⟨i, z, g1, g2, g3, g4, g5, g6⟩ := lY (hT _ _ he)
  have hpos := (hT _ _ he).pos
  obtain ⟨c1, c2⟩ := kD (h.ev x) (by omega)
  have hvs : ∀ v ∈ [a.eval x], v.cells.size = ei.size := fun v hv => by
    rcases List.mem_singleton.1 hv with rfl
    rw [c1, hlen]
  have hp : parts = #[(0, x)] := by apply Array.toList_inj.1; rw [hpt]
  have hf := Great.fill_whole hpos [a.eval x] ((Array.range (1 * i.size)).map (z.cells[· % z.cells.size]!)) hvs (by simp; rw [g3])
  have hrun := run_buildSlice (P := P) w t ti.elem 1 (parts.map fun (i, x) => (i, a.eval x)) _ i z hdd g1 g2 (by rw [g3]; omega) (by rw [g3]; omega)
    (by rw [Array.toList_map, hpt, g3]; rw [g3] at hf; exact hf)
  obtain ⟨arr, hrun, harr⟩ : ∃ arr : Array Value, (execOp a.eval o).run P w = .ok (.value (.slice (some ⟨w.heap.size, 0, none⟩) 1 1)) (w.alloc (.cells arr ti.elem)) ∧ arr.toList = (a.eval x).cells.toList :=
    ⟨_, by simp only [execOp, ho, Sem.run_bind, hrun, Result.andThen_ok]; rfl, by simp⟩
  have hasz : arr.size = ei.size := by rw [← Array.length_toList, harr, Array.length_toList, c1, hlen]
  unfold Oper.wp
  rw [hrun]
  let L : Loc := ⟨some w.heap.size, 1, 1, ei.size, []⟩
  refine ⟨A, upμ μ id L, h.new hid rfl ?_ (.own _ L (upμ_self ..)) hd⟩
  refine ⟨fun k d b hk => (by cases hk), Nat.one_pos, rfl, rfl, fun p hp => ?_, arr.toList, ⟨by simp [hasz, L], .inr ⟨w.heap.size, 1, arr, rfl, Nat.zero_le _, heap_alloc_new w _, Nat.le_refl _, by unfold maxLen; omega, by rw [hasz, Nat.one_mul], by rw [List.take_of_length_le (by simp [hasz, L])]⟩⟩, fun c hc => ?_, fun k u c hk hc => ?_⟩
  · rcases List.mem_singleton.1 (show p ∈ [(σ.ev x).cells] from hp) with rfl
    exact hlen
  · rw [harr] at hc
    obtain ⟨k, hk, rfl⟩ := List.getElem_of_mem hc
    have hk' : k < (σ.ev x).cells.length := by rw [← c1]; simpa using hk
    exact aJG (List.all_eq_true.1 hro _ (List.getElem_mem hk')) (c2 k _ _ (List.getElem?_eq_getElem hk') (by simp at hk ⊢))
  · have hk : (σ.ev x).cells[k]? = some u := by
      have : ([(σ.ev x).cells] : List (List V)).flatten[k]? = some u := hk
      simpa using this
    have hlt := (List.getElem?_eq_some_iff.1 hk).1
    rw [harr] at hc
    refine .inr ⟨Nat.div_eq_of_lt (by omega), aJX (w := w.alloc (.cells arr ti.elem)) (A := A) (List.all_eq_true.1 hro _ (List.mem_of_getElem? hk)) ?_⟩
    exact (c2 k u c hk (by simpa using hc)).mono (fun _ h => h) (fun ad c hA hc => by rw [World.cell?_alloc_lt _ _ _ (h.hA _ hA).1]; exact hc) (upμ_sub _ hid)
theorem aDO {o : Oper} {c : Call} {t : TypeId} {s x : Operand} {id : Nat} {v0 : V} {e0 : Eff} (ho : o.op = .call c) (hcal : c.callee = .builtin .append) (hat : c.argTypes.toList = [t, t]) (har : c.args.toList = [s, x]) (hT : TOk P T)
    (h : Ok w0 X A0 N bd σ a w A μ) (hid : μ id = none) (hd : ∀ n, o.dst = some n → n < N) {ti ei : TI} (i0 len : Nat) (e : TypeId) (sz : Nat) (es : List TypeId) (xs : List (List V)) (ht : T t = some ti) (he : T ti.elem = some ei) (hsl : ti.sl = true) (hes : σ.ev s = .own i0 len) (hmem : σ.mem i0 = some (.deep e sz es xs))
    (happ : wC ck id σ.mem ti.elem ei i0 len e sz es xs (σ.ev x) (fun v e => v = v0 ∧ e = e0)) :
    o.wp P a w (iJ w0 X A0 N (fun i => bd i ∨ (id ≤ i ∧ i < id + 8)) ((σ.put o.dst v0).eff e0) o.dst.toList a w A μ) Q := by
  obtain ⟨d, hdd, _, _, _, h4, _⟩ := (hT _ _ ht).desc
  have hd1 := (h4 hsl).1; subst hd1
  obtain ⟨i, z, g1, g2, g3, g4, g5, g6⟩ := lY (hT _ _ he)
  have hby : i.bytes = ei.bytes := by
    obtain ⟨i', z', k1, k2, k3, _⟩ := (hT _ _ he).info
    rw [g1] at k1; injection k1 with k1; subst k1; exact k3
  have hpos := (hT _ _ he).pos
  have hzs : z.cells.size = i.size := by rw [g4, g3]
  have hs := h.ev s
  rw [hes] at hs
  have hx := h.ev x
  unfold wC at happ
  split at happ
  case h_2 => exact happ.elim
  rename_i j n0 hex
  rw [hex] at hx
  split at happ
  case h_2 => exact happ.elim
  rename_i e2 sz2 es2 p0 row _ hmj
  split at happ
  case h_2 => exact happ.elim
  rename_i he1 he2 he3
  have he1 := Nat.eq_of_beq_eq_true he1
  have he2 := Nat.eq_of_beq_eq_true he2
  have he3 := Nat.eq_of_beq_eq_true he3
  subst he1; subst he2; subst he3
  obtain ⟨hb, rfl, rfl⟩ := happ.out
  obtain ⟨l, hl, hlen, hsv⟩ := hs.own_inv
  obtain ⟨l', hl', ⟨hH, q1, q2, q3, cs, ⟨ho1, ho2⟩, q4, q5⟩, hobb⟩ := h.ob i0 _ hmem
  obtain rfl : l' = l := by rw [hl] at hl'; injection hl' with e; exact e.symm
  obtain ⟨lj, hlj, hljn, hxv⟩ := hx.own_inv
  obtain ⟨lj', hlj', ⟨_, _, p1, p2, p3, news, ⟨hn1, hn2⟩, hone, prc⟩, hjb⟩ := h.ob j _ hmj
  obtain rfl : lj' = lj := by rw [hlj] at hlj'; injection hlj' with e; exact e.symm
  have hj1 : lj'.len = 1 := p2
  have hrl : row.length = ei.size := p3 row (by simp)
  have hnl : news.length = 1 * ei.size := by rw [hn1, hj1]
  subst hlen
  have hcl : cs.length = xs.length * ei.size := by rw [ho1, q2]
  have hcl' : cs.length = l'.len * ei.size := ho1
  have hset : (xs ++ [[]]).set xs.length row = xs ++ [row] := by simp
  have hall : ∀ p ∈ xs ++ [row], p.length = ei.size := fun p hp => (List.mem_append.1 hp).elim (q3 p) (fun hp => by rcases List.mem_singleton.1 hp with rfl; exact hrl)
  have hone2 : ∀ c ∈ cs ++ news, c.oneCell' = true := fun c hc => (List.mem_append.1 hc).elim (q4 c) (hone c)
  have hlenxy : l'.len + 1 = (xs ++ [row]).length := by rw [List.length_append, q2]; rfl
  have hbig : l'.len + 1 ≤ 140737488355328 := Nat.le_trans (Nat.le_mul_of_pos_right _ (hT _ _ he).bpos) hb
  have hoth : ∀ (k : Nat), l'.has k → ∃ l o, μ i0 = some l ∧ l.has k ∧ σ.mem i0 = some o := fun k hk => ⟨l', _, hl, hk, hmem⟩
  -- what is appended
  obtain ⟨bj, hbj, hrd⟩ : ∃ bj, lj'.b = some bj ∧ ∀ (k : Nat) (u : Value), news[k]? = some u → w.cell? ((⟨bj, 0, none⟩ : Addr).add k) = some u := by
    rcases hn2 with ⟨e1, e2⟩ | ⟨g, cap, cur, e1, e2, e3, e4, e5, e6, e7⟩
    · omega
    · cases hlb : lj'.b with
      | none => rw [hlb] at e1; simp at e1
      | some b =>
        rw [hlb] at e1; simp at e1
        obtain ⟨rfl, _⟩ := e1
        refine ⟨b, rfl, fun k u hk => ?_⟩
        have hlt := (List.getElem?_eq_some_iff.1 hk).1
        rw [gH, fE e3, Nat.zero_add, ← hk, ← e7, List.getElem?_take, if_pos (by rw [← hn1]; exact hlt)]
        simp
  rw [hbj] at hxv
  -- the new row
  have rel : ∀ {w' : World} {l2 : Loc}, l2.fp = l'.fp → (∀ (d : Hd) (b k : Nat), l'.hd k = some d → d.b = some b → w'.heap[b]? = w.heap[b]?) → ∀ (k : Nat) (u : V) (c : Value), (xs ++ [row]).flatten[k]? = some u → (cs ++ news)[k]? = some c →
      (k / ei.size ≠ xs.length ∧ Dc w' l2 es ei.size k u c) ∨ (k / ei.size = xs.length ∧ Dr w' (upμ μ id l2) u c) := fun {w' l2} hfp hkeep k u c hk hc => by
    rw [List.flatten_append] at hk
    have hfl := gY xs q3
    by_cases hlt : k < cs.length
    · rw [List.getElem?_append_left hlt] at hc
      rw [List.getElem?_append_left (by omega)] at hk
      have hD := (q5 k u c hk hc).mono (w' := w') (fun d b h1 h2 => hkeep d b k h1 h2)
      refine .inl ⟨fun e => ?_, ?_⟩
      · have := Nat.div_lt_of_lt_mul (show k < ei.size * xs.length by rw [Nat.mul_comm, ← hcl]; exact hlt)
        omega
      · cases u with
        | sl s n ys =>
          obtain ⟨d, f1, f2⟩ := hD
          exact ⟨d, by unfold Loc.hd at f1 ⊢; rw [hfp]; exact f1, f2⟩
        | _ => exact hD
    · rw [List.getElem?_append_right (by omega)] at hc
      rw [List.getElem?_append_right (by omega), hfl, ← hcl] at hk
      have hlt2 : k - cs.length < ei.size := by
        have := (List.getElem?_eq_some_iff.1 hc).1
        omega
      refine .inr ⟨?_, ?_⟩
      · exact Nat.div_eq_of_lt_le (by omega) (by rw [Nat.succ_mul]; omega)
      · rcases prc (k - cs.length) u c hk hc with q | q
        · exact absurd (Nat.div_eq_of_lt hlt2) q.1
        · exact q.2.mono (upμ_sub l2 hid)
  unfold Oper.wp
  rcases ho2 with ⟨e1, e2⟩ | ⟨g, cap, cur, e1, e2, e3, e4, e5, e6, e7⟩
  · -- the object has no block yet
    injection e1 with e1 _ e9
    have hx0 : xs = [] := List.eq_nil_of_length_eq_zero (by omega)
    subst hx0
    have hc0 : cs = [] := List.eq_nil_of_length_eq_zero (by rw [hcl]; simp)
    subst hc0
    have hsv' : a.eval s = .slice none 0 0 := by rw [hsv, e1, e2, e9]
    rw [e2, Nat.zero_add] at hb hbig
    have hr := run_append_nil (P := P) w t o.type ti.elem i z hdd g1 g2 ⟨bj, 0, none⟩ 1 lj'.cap news (by rw [g3]; exact hnl) hrd (by omega) (by omega) (by rw [hby]; omega)
    rw [fQ ho hcal hat har (by rw [hsv', hxv, hj1]; exact hr)]
    have hge := grownCap_ge w 1 0 ti.elem
    let L : Loc := ⟨some w.heap.size, 1, grownCap w 1 0 ti.elem, ei.size, l'.fp⟩
    refine ⟨A, upμ μ id L, h.app (ob0 := fun _ => False) hid rfl rfl rfl (by simp) (fun k hk _ => heap_alloc_old w.drew _ k hk) (fun _ h => h.elim) (fun k hk => ?_) (fun hc => ?_)
      (by rw [e2, Nat.zero_add]; exact .own _ L (upμ_self ..)) hd⟩
    · rcases hk with hk | hk
      · injection hk with hk; subst hk; exact .inr ⟨rfl, by simp⟩
      · exact .inl (hoth k (.inr hk))
    · have hfpb : ∀ (k : Nat) (d : Hd) (b : Nat), l'.hd k = some d → d.b = some b → b < w.heap.size := fun k d b h1 h2 => (hobb b (Loc.hd_has h1 h2)).1
      refine ⟨fun k d b hk hdb => ⟨fun hb' => ?_, (hH k d b hk hdb).2⟩, by simp, ?_⟩
      · injection hb' with hb'
        have := hfpb k d b hk hdb
        omega
      · rw [hset]
        refine ⟨rfl, rfl, hall, news, jG (heap_alloc_new w.drew _) hge (grownCap_le_maxLen _ _ _ _ (by unfold maxLen; omega)) ?_ ?_, hone, fun k u c hk hcc => rel (l2 := L) rfl (fun d b k h1 h2 => heap_alloc_old w.drew _ b (hfpb k d b h1 h2)) k u c hk (by simpa using hcc)⟩
        · show _ = grownCap w 1 0 ti.elem * ei.size
          simp only [Array.size_append, List.size_toArray, size_zeroCells, hzs, hnl, g3, ← Nat.add_mul]; congr 1; omega
        · show List.take (1 * ei.size) _ = _
          simp only [Array.toList_append]; rw [← hnl]; exact List.take_left
  · cases hlb : l'.b with
    | none => rw [hlb] at e1; simp at e1
    | some b =>
      rw [hlb] at e1; simp at e1
      obtain ⟨rfl, rfl⟩ := e1
      rw [hlb] at hsv
      by_cases hroom : l'.len + 1 ≤ l'.cap
      · have hfit : l'.len * i.size + news.length ≤ cur.size := by rw [hnl, e6, g3, ← Nat.add_mul]; exact Nat.mul_le_mul_right _ hroom
        have hr := run_append_room (P := P) w t o.type ti.elem i hdd g1 b l'.len l'.cap cur e3 ⟨bj, 0, none⟩ 1 lj'.cap news (by rw [g3]; exact hnl) hrd hone hroom hfit
        rw [fQ ho hcal hat har (by rw [hsv, hxv, hj1]; exact hr)]
        let L : Loc := ⟨some b, l'.len + 1, l'.cap, ei.size, l'.fp⟩
        refine ⟨A, upμ μ id L, h.app (ob0 := fun k => k = b) hid rfl rfl rfl (by simp) (fun k _ hk => setRow_other w b k _ hk) (fun k e => hoth k (.inl (by rw [hlb, e]))) (fun k hk => .inl (hoth k (by
            rcases hk with hk | hk
            · exact .inl (by rw [hlb]; exact hk)
            · exact .inr hk))) (fun hc => ?_)
          (.own _ L (upμ_self ..)) hd⟩
        refine ⟨fun k d b' hk hdb => ⟨fun hb' => (hH k d b' hk hdb).1 (by rw [hlb]; exact hb'), (hH k d b' hk hdb).2⟩, by simp, ?_⟩
        rw [hset]
        refine ⟨rfl, hlenxy, hall, cs ++ news, jG (setRow_heap w b cur _ ti.elem _ e3) hroom e5 ?_ ?_, hone2, fun k u c hk hcc => rel (l2 := L) rfl (fun d b' k h1 h2 => setRow_other w b b' _ (fun e => (hH k d b' h1 h2).1 (by rw [hlb, e]))) k u c hk hcc⟩
        · rw [g3] at hfit ⊢
          show _ = l'.cap * ei.size
          simp only [List.size_toArray, List.length_append, List.length_take, List.length_drop, Array.length_toList]
          omega
        · show List.take ((l'.len + 1) * ei.size) _ = _
          rw [g3, e7]
          have e9 : (l'.len + 1) * ei.size = (cs ++ news).length := by rw [List.length_append, hcl', hnl, Nat.add_mul]
          rw [e9]; exact List.take_left
      · have holds : ∀ (j : Nat) (u : Value), cs[j]? = some u → w.cell? ((⟨b, 0, none⟩ : Addr).add j) = some u := fun j u hj => by
          have hlt := (List.getElem?_eq_some_iff.1 hj).1
          rw [gH, fE e3, Nat.zero_add, ← hj, ← e7, List.getElem?_take, if_pos (by rw [← hcl']; exact hlt)]
          simp
        have hr := run_append_grow (P := P) w t o.type ti.elem i z hdd g1 g2 ⟨b, 0, none⟩ l'.len l'.cap cs (by rw [g3]; exact hcl') holds ⟨bj, 0, none⟩ 1 lj'.cap news (by rw [g3]; exact hnl) hrd (by omega) (by omega) (growslice_fits (by omega) (by rw [hby]; exact hb))
        rw [fQ ho hcal hat har (by rw [hsv, hxv, hj1]; exact hr)]
        have hge := grownCap_ge w (l'.len + 1) l'.cap ti.elem
        let L : Loc := ⟨some w.heap.size, l'.len + 1, grownCap w (l'.len + 1) l'.cap ti.elem, ei.size, l'.fp⟩
        refine ⟨A, upμ μ id L, h.app (ob0 := fun _ => False) hid rfl rfl rfl (by simp) (fun k hk _ => heap_alloc_old w.drew _ k hk) (fun _ h => h.elim) (fun k hk => ?_) (fun hc => ?_)
          (.own _ L (upμ_self ..)) hd⟩
        · rcases hk with hk | hk
          · injection hk with hk; subst hk; exact .inr ⟨rfl, by simp⟩
          · exact .inl (hoth k (.inr hk))
        · have hfpb : ∀ (k : Nat) (d : Hd) (b : Nat), l'.hd k = some d → d.b = some b → b < w.heap.size := fun k d b h1 h2 => (hobb b (Loc.hd_has h1 h2)).1
          refine ⟨fun k d b hk hdb => ⟨fun hb' => ?_, (hH k d b hk hdb).2⟩, by simp, ?_⟩
          · injection hb' with hb'
            have := hfpb k d b hk hdb
            omega
          · rw [hset]
            refine ⟨rfl, hlenxy, hall, cs ++ news, jG (heap_alloc_new w.drew _) hge (grownCap_le_maxLen _ _ _ _ (by unfold maxLen; omega)) ?_ ?_, hone2, fun k u c hk hcc => rel (l2 := L) rfl (fun d b k h1 h2 => heap_alloc_old w.drew _ b (hfpb k d b h1 h2)) k u c hk hcc⟩
            · show _ = grownCap w (l'.len + 1) l'.cap ti.elem * ei.size
              simp only [Array.size_append, List.size_toArray, size_zeroCells, hzs, hnl, hcl', g3, ← Nat.add_mul]; congr 1; omega
            · show List.take ((l'.len + 1) * ei.size) _ = _
              simp only [Array.toList_append]
              have e9 : (l'.len + 1) * ei.size = (cs ++ news).length := by rw [List.length_append, hcl', hnl, Nat.add_mul]
              rw [e9]; exact List.take_left
end
end Go.Aw
set_option linter.unusedVariables false
namespace Go.Aw
section
variable {P : Program} {T : TypeId → Option TI} {ck : Nat → Bool} {w0 : World} {X A0 : Nat → Prop} {N : Nat} {bd : Nat → Prop} {σ : St} {a : Act} {w : World} {A : Nat → Prop} {μ : Nat → Option Loc} {Q : Exit → Act → World → Prop}
theorem sJ {o : Oper} {t : TypeId} {len : Nat} {parts : Array (Nat × Operand)} {id : Nat} (es : List TypeId) (ho : o.op = .buildSlice t len parts) (hT : TOk P T) (h : Ok w0 X A0 N bd σ a w A μ) (hid : μ id = none) (hd : ∀ n, o.dst = some n → n < N)
    {ti ei : TI} (ht : T t = some ti) (he : T ti.elem = some ei) (hsl : ti.sl = true) (hr : rows σ.ev ei.size 0 parts.toList = some []) (hl : ([] : List (List V)).length = len) (hsm : len * ei.size ≤ 1000) :
    o.wp P a w (iJ w0 X A0 N (fun i => bd i ∨ (id ≤ i ∧ i < id + 8)) ((σ.put o.dst (.own id len)).eff (Eff.set id (.deep ti.elem ei.size es []))) o.dst.toList a w A μ) Q := by
  let L : Loc := ⟨some w.heap.size, len, len, ei.size, []⟩
  obtain ⟨arr, hrun, hob⟩ := lD ho hT h ht he hsl hr hl hsm (upμ μ id L)
  unfold Oper.wp
  rw [hrun]
  obtain ⟨q1, q2, q3, cs, q4, q5, q6⟩ := hob
  exact ⟨A, upμ μ id L, h.new hid rfl ⟨fun k d b hk => (by cases hk), q1, q2, q3, cs, q4, q5, fun k u c hk => by simp at hk⟩ (.own _ L (upμ_self ..)) hd⟩
theorem uQ {o : Oper} {t : TypeId} {x y : Operand} {i idx off s j o' : Nat} {e : TypeId} {sz : Nat} {es : List TypeId} {xs : List (List V)} {p : List V} (ho : o.op = .store t x y) (hT : TOk P T) (h : Ok w0 X A0 N bd σ a w A μ) (hd : ∀ n, o.dst = some n → n < N) {ti : TI} (ht : T t = some ti)
    (hc : (σ.ev y).cells.length = ti.size) (hbare : (σ.ev y).cells.all V.bare = true) (hx : σ.ev x = .ip i idx off s j o') (hi : σ.mem i = some (.deep e sz es xs)) (hp : xs[idx]? = some p) {v : V} {eff : Eff} (hs : stI i idx off s j o' ti.size e sz es xs p p[off]? (σ.ev y).cells (fun v' e' => v' = v ∧ e' = eff)) :
    o.wp P a w (iJ w0 X A0 N bd ((σ.put o.dst v).eff eff) o.dst.toList a w A μ) Q := by
  have hpos := (hT _ _ ht).pos
  have hxv := h.ev x; rw [hx] at hxv
  obtain ⟨l, d, b, hl, hd1, hdb, hxe⟩ := hxv.ip_inv
  obtain ⟨l', hl', ⟨hH, r1, r2, r3, cs, r4, r5, r6⟩, hbb⟩ := h.ob i _ hi
  obtain rfl : l' = l := by rw [hl] at hl'; injection hl' with e; exact e.symm
  unfold stI at hs
  split at hs
  case h_2 => exact hs.elim
  rename_i s' n ys hq
  split at hs
  case h_2 => exact hs.elim
  rename_i hss
  have hss := Nat.eq_of_beq_eq_true hss
  subst hss
  obtain ⟨q, hyq, hs⟩ := hs.out
  split at hs
  case h_2 => exact hs.elim
  rename_i hle
  have hle := Nat.le_of_ble_eq_true hle
  obtain ⟨n2, ys2, rfl, rfl, rfl, rfl⟩ := hs
  have hoff : off < sz := by
    have := r3 p (List.mem_of_getElem? hp)
    have := (List.getElem?_eq_some_iff.1 hq).1
    omega
  have hmod : (idx * sz + off) % sz = off := by rw [Nat.mul_comm, Nat.mul_add_mod]; exact Nat.mod_eq_of_lt hoff
  have hflat := flat_get xs idx off p _ r3 hp hq
  obtain ⟨c0, hc0⟩ : ∃ c, cs[idx * sz + off]? = some c := by
    have := (List.getElem?_eq_some_iff.1 hflat).1
    rw [gY xs r3, ← r2] at this
    exact ⟨_, List.getElem?_eq_getElem (by rw [r4.1]; exact this)⟩
  obtain ⟨d', d1, d2, d3, hsz, hlen, hu, cs2, ⟨ho1, ho2⟩, hones, hrc⟩ := r6 _ _ _ hflat hc0
  rw [r1] at hd1
  rw [hd1] at d1; injection d1 with d1; subst d1
  rw [hmod] at ho2
  rcases ho2 with ⟨e1, e2⟩ | ⟨g, cap, cur, e1, e2, e3, e4, e5, e6, e7⟩
  · rw [hdb] at e1; simp at e1
  rw [hdb] at e1; simp at e1
  obtain ⟨rfl, rfl⟩ := e1
  obtain ⟨g1, g2⟩ := kD (h.ev y) (by omega)
  have hql : q.length = s := hu q (List.mem_of_getElem? hyq)
  have hjl : j < ys.length := (List.getElem?_eq_some_iff.1 hyq).1
  have hlen : d.len = ys.length := hlen
  have hmul : j * s + s ≤ d.len * s := by rw [hlen]; have := Nat.mul_le_mul_right s hjl; rw [Nat.succ_mul] at this; exact this
  have e4 : d.len ≤ d.cap := e4
  have e6 : cur.size = d.cap * s := e6
  have e7 : cur.toList.take (d.len * s) = cs2 := e7
  have hcap : d.len * s ≤ cur.size := by rw [e6]; exact Nat.mul_le_mul_right _ e4
  have hvl : (a.eval y).cells.toList.length = (σ.ev y).cells.length := by simpa using g1
  have hcl : cs2.length = d.len * s := ho1
  have hflen : ys.flatten.length = d.len * s := by rw [gY ys hu, hlen]
  have hone : ∀ v ∈ (a.eval y).cells.toList, v.oneCell' = true := fun v hv => by
    obtain ⟨k, hk, rfl⟩ := List.getElem_of_mem hv
    have hk' : k < (σ.ev y).cells.length := by rw [← hvl]; exact hk
    exact (g2 k _ _ (List.getElem?_eq_getElem hk') (by simp at hk ⊢)).one' (lS (List.all_eq_true.1 hbare _ (List.getElem_mem hk')))
  unfold Oper.wp
  rw [lK (P := P) ho (hT _ _ ht) hxe e3 (g1.trans hc) (by omega) hone]
  let w' := w.setRow b (iI cur.toList (j * s + o') (a.eval y).cells.toList).toArray
  have hkeep : ∀ k, k ≠ b → w'.heap[k]? = w.heap[k]? := fun k hk => setRow_other w b k _ hk
  obtain ⟨hb1, hb2, hb3⟩ := hbb b (Loc.hd_has hd1 hdb)
  -- the inner row
  have hin : Row w' ⟨d.b, d.len, d.cap, s, []⟩ (es.getD off 0) s (ys.set j (iI q o' (σ.ev y).cells)) (fun _ => Rc w' (fun _ => False)) := by
    refine ⟨rfl, by simpa using hlen, fun r hr => ?_, iI cs2 (j * s + o') (a.eval y).cells.toList, ⟨?_, .inr ⟨b, d.cap, _, by rw [hdb]; rfl, Nat.zero_le _, setRow_heap w b cur _ _ _ e3, e4, e5, ?_, ?_⟩⟩, fun c hcm => ?_, fun k u c hk hck => ?_⟩
    · rcases List.mem_or_eq_of_mem_set hr with hr | rfl
      · exact hu r hr
      · rw [gE (by omega), hql]
    · rw [gE (by omega), hcl]
    · rw [List.size_toArray, gE (by simp; omega)]; simpa using e6
    · show (iI cur.toList _ _).take _ = _
      rw [rK (by omega) (by simp; omega), e7]
    · obtain ⟨k, hk, rfl⟩ := List.getElem_of_mem hcm
      have hk' : (iI cs2 (j * s + o') (a.eval y).cells.toList)[k]? = some ((iI cs2 (j * s + o') (a.eval y).cells.toList)[k]) := List.getElem?_eq_getElem hk
      rw [fN (by omega)] at hk'
      split at hk'
      · exact hone _ (List.mem_of_getElem? hk')
      · exact hones _ (List.mem_of_getElem? hk')
    · rw [mK ys j q hu hyq (by omega), fN (by omega)] at hk
      rw [fN (by omega), hvl] at hck
      by_cases c1 : j * s + o' ≤ k ∧ k < j * s + o' + (σ.ev y).cells.length
      · rw [if_pos c1] at hk hck
        have hb := List.all_eq_true.1 hbare u (List.mem_of_getElem? hk)
        exact oH hb (iT (g2 _ u c hk (by simpa using hck)) (lS hb))
      · rw [if_neg c1] at hk hck
        exact (hrc k u c hk hck).nomem
  have hlb : ∀ b', l'.b = some b' → b' ≠ b := fun b' hb' e => (hH _ d b hd1 hdb).1 (by rw [hb', e])
  refine ⟨A, μ, h.step (Tc := fun k => k = b) rfl rfl rfl (by simp) (fun k _ hk => hkeep k hk) (fun k e => e ▸ hb2) (fun k e => e ▸ hb3) (fun _ h => h) (fun k hk => ⟨by simpa using (h.hA k hk).1, .inl hk⟩) (fun _ _ h => h) h.bd (.tup [] #[] rfl (fun i x c h => by simp at h)) hd
    (fun i2 ob l2 k he hm' hl2 hk e => ?_) (fun i2 ob he => ?_) (fun i2 ob he k hk li lk b' h1 h2 h3 h4 => ?_)⟩
  · subst e
    have := h.ap i i2 l' l2 k (by rw [hi]; simp) (by rw [hm']; simp) hl hl2 (Loc.hd_has hd1 hdb) hk
    subst this
    rw [Eff.set_eq, if_pos rfl] at he; cases he
  · rw [Eff.set_eq] at he
    split at he
    · rename_i e2; subst e2; injection he with he; injection he with he; subst he
      refine ⟨l', hl, ⟨hH, r1, by simpa using r2, fun q' hq' => ?_, cs, ?_, r5, fun k u c hk hc => ?_⟩, fun b' hb' => ?_⟩
      · rcases List.mem_or_eq_of_mem_set hq' with hq' | rfl
        · exact r3 q' hq'
        · simpa using r3 p (List.mem_of_getElem? hp)
      · refine ⟨r4.1, ?_⟩
        rcases r4.2 with ⟨e1, e2⟩ | ⟨g, cap, cur', e1, e2, e3', e4'⟩
        · exact .inl ⟨e1, e2⟩
        · refine .inr ⟨g, cap, cur', e1, e2, ?_, e4'⟩
          cases hlb2 : l'.b with
          | none => rw [hlb2] at e1; simp at e1
          | some b2 =>
            rw [hlb2] at e1; simp at e1
            rw [hkeep g (by rw [← e1.1]; exact hlb b2 hlb2)]; exact e3'
      · rcases xO r3 hp hoff k u hk with ⟨rfl, rfl⟩ | ⟨hne, hk'⟩
        · rw [hc0] at hc; injection hc with hc; subst hc
          refine ⟨d, hd1, d2, d3, ?_⟩
          rw [hmod]; exact hin
        · refine (r6 k u c hk' hc).mono (fun d5 b5 f1 f2 => hkeep b5 (fun e => hne ?_))
          subst e
          exact (hH _ d5 b5 f1 f2).2 _ d hd1 hdb
      · obtain ⟨z1, z2, z3⟩ := hbb b' hb'
        exact ⟨by simpa using z1, z2, z3⟩
    · cases he
  · rw [Eff.set_eq] at he
    split at he
    · rename_i e2; subst e2
      have hk' : σ.mem k ≠ none := by
        rcases hk with ⟨ob2, hk⟩ | ⟨_, hk⟩
        · rw [Eff.set_eq] at hk
          split at hk
          · rename_i e3; subst e3; rw [hi]; simp
          · cases hk
        · exact hk
      exact h.ap _ k li lk b' (by rw [hi]; simp) hk' h1 h2 h3 h4
    · cases he
end
end Go.Aw
set_option linter.unusedVariables false
namespace Go.Aw
section
variable {P : Program} {G : Nat → Option Obj} {T : TypeId → Option TI} {ck : Nat → Bool} {w0 : World} {X A0 : Nat → Prop} {N : Nat} {bd : Nat → Prop} {σ : St} {a : Act} {w : World} {A : Nat → Prop} {μ : Nat → Option Loc} {Q : Exit → Act → World → Prop}
theorem nY (s : ByteArray) : ∀ (ms : List MapEntry) (ps : List (ByteArray × Int)) (i : Nat), ms.map (fun x => (x.key, x.val)) = ps.map (fun p => (Value.string p.1, Value.int .i64 p.2)) →
    (mpH ps s = false → Instr.findNow .string (.string s) ms i = some none) ∧ (mpH ps s = true → ∃ j, Instr.findNow .string (.string s) ms i = some (some (j, .int .i64 (mpG ps s))))
  | [], ps, i, h => by
    have : ps = [] := by cases ps with | nil => rfl | cons p ps => cases h
    subst this
    exact ⟨fun _ => rfl, fun h => by cases h⟩
  | x :: ms, [], i, h => by cases h
  | x :: ms, p :: ps, i, h => by
    rw [List.map_cons, List.map_cons] at h
    injection h with h1 h2
    injection h1 with hk hv
    obtain ⟨g1, g2⟩ := nY s ms ps (i + 1) h2
    have e1 : mpH (p :: ps) s = ((s == p.1) || mpH ps s) := rfl
    have e2 : mpG (p :: ps) s = if (s == p.1) = true then p.2 else mpG ps s := rfl
    have e3 : Instr.findNow .string (.string s) (x :: ms) i = (match (some (s == p.1) : Option Bool) with | some true => some (some (i, x.val)) | some false => Instr.findNow .string (.string s) ms (i + 1) | none => none) := by
      show (match Instr.sameNow .string (.string s) x.key with | some true => some (some (i, x.val)) | some false => Instr.findNow .string (.string s) ms (i + 1) | none => none) = _
      rw [hk]; rfl
    rw [e1, e2, e3]
    cases hb : (s == p.1) with
    | true => exact ⟨fun h => (by cases h), fun _ => ⟨i, by rw [hv]; rfl⟩⟩
    | false => exact ⟨fun h => g1 h, fun h => g2 h⟩
theorem oE {key : TypeId} (hk : P.underlying key = some .string) (s : ByteArray) (ms : List MapEntry) {r : Option (Nat × Value)} (h : Instr.findNow .string (.string s) ms 0 = some r) : (Instr.findKey key (.string s) ms).run P w = .ok r w := by
  simp only [Instr.findKey, Sem.run_bind, run_underlying hk, Result.andThen_ok, h, Sem.run_pure]
theorem uV {key : TypeId} (hk : P.underlying key = some .string) (s : ByteArray) (b : Bool) (n : Nat) : (Instr.checkKey b (n + 1) key (.string s)).run P w = .ok () w := by
  simp only [Instr.checkKey, Sem.run_bind, run_underlying hk, Result.andThen_ok, Sem.run_pure]
theorem mZ {key : TypeId} (hk : P.underlying key = some .string) (s : ByteArray) (b : Bool) : (Instr.checkKey b 10000 key (.string s)).run P w = .ok () w := uV hk s b 9999
theorem wO {o : Oper} {t : TypeId} {id : Nat} (ho : o.op = .makeMap t none) (h : Ok w0 X A0 N bd σ a w A μ) (hid : μ id = none) (hd : ∀ n, o.dst = some n → n < N) :
    o.wp P a w (iJ w0 X A0 N (fun i => bd i ∨ (id ≤ i ∧ i < id + 8)) ((σ.put o.dst (.mp id)).eff (Eff.set id (.mp []))) o.dst.toList a w A μ) Q := by
  have hrun : (execOp a.eval o).run P w = .ok (.value (.map (some w.heap.size))) (w.alloc (.map #[] 0)) := by
    simp [execOp, ho, Instr.makeMap]
  unfold Oper.wp
  rw [hrun]
  refine ⟨A, upμ μ id ⟨some w.heap.size, 1, 1, 1, []⟩, h.new hid rfl ?_ (.mp _ _ _ (upμ_self ..) rfl) hd⟩
  exact ⟨rfl, w.heap.size, #[], 0, rfl, heap_alloc_new w _, rfl⟩
theorem yG {o : Oper} {t : TypeId} {x y z : Operand} {i : Nat} {s : ByteArray} {n : Int} {es : List (ByteArray × Int)} (ho : o.op = .insert t x y z) (h : Ok w0 X A0 N bd σ a w A μ) (hd : ∀ n, o.dst = some n → n < N)
    (hx : σ.ev x = .mp i) (hy : σ.ev y = .str s) (hz : σ.ev z = .int .i64 n) (hm : σ.mem i = some (.mp es)) (hT : aHU P t) (hn : mpH es s = false) :
    o.wp P a w (iJ w0 X A0 N bd ((σ.put o.dst (.tup [])).eff (Eff.set i (.mp (es ++ [(s, n)])))) o.dst.toList a w A μ) Q := by
  have hxv := h.ev x; rw [hx] at hxv
  have hyv := h.ev y; rw [hy] at hyv
  have hzv := h.ev z; rw [hz] at hzv
  have hyv := hyv.str_inv
  have hzv := hzv.int_inv
  obtain ⟨l, b, hl, hlb, hxe⟩ := hxv.mp_inv
  obtain ⟨l', hl', hob, _⟩ := h.ob i _ hm
  obtain rfl : l' = l := by rw [hl] at hl'; injection hl' with e; exact e.symm
  obtain ⟨h0, b', ms, clock, hb', hheap, hms⟩ := hob
  obtain rfl : b' = b := by rw [hlb] at hb'; injection hb' with e; exact e.symm
  obtain ⟨key, e, hu, hk, _⟩ := hT
  have hf := (nY s ms.toList es 0 hms).1 hn
  have hbl : b' < w.heap.size := (Array.getElem?_eq_some_iff.1 hheap).1
  have hrun : (execOp a.eval o).run P w = .ok .skip { w with heap := w.heap.setIfInBounds b' (.map (ms.push { key := .string s, val := .int .i64 n, born := clock }) (clock + 1)) } := by
    have h3 : (Instr.mapUpdate t (a.eval x) (a.eval y) (a.eval z)).run P w = .ok () { w with heap := w.heap.setIfInBounds b' (.map (ms.push { key := .string s, val := .int .i64 n, born := clock }) (clock + 1)) } := by
      rw [hxe, hyv, hzv]
      simp only [Instr.mapUpdate, Sem.run_bind, run_underlying hu, MapKept.run_getObj_map hheap, mZ hk, oE hk s _ hf, Result.andThen_ok, MapKept.run_setObj_map _ hheap]
    simp only [execOp, ho, Sem.run_bind, h3, Result.andThen_ok]
    rfl
  unfold Oper.wp
  rw [hrun]
  refine ⟨A, μ, h.chg hm hl hlb rfl rfl rfl (by simp) (fun k hk => by simp [Array.getElem?_setIfInBounds, Ne.symm hk]) (fun hcell => ?_) (.inr rfl) (.tup [] #[] rfl (fun i x c h => by simp at h)) hd⟩
  refine ⟨h0, b', _, _, hlb, by simp [Array.getElem?_setIfInBounds, hbl]; exact ⟨rfl, rfl⟩, ?_⟩
  rw [Array.toList_push, List.map_append, List.map_append, hms]; rfl
theorem yL {o : Oper} {t : TypeId} {x y : Operand} {i : Nat} {s : ByteArray} {es : List (ByteArray × Int)} (ho : o.op = .lookup t x y true) (h : Ok w0 X A0 N bd σ a w A μ) (hd : ∀ n, o.dst = some n → n < N)
    (hx : σ.ev x = .mp i) (hy : σ.ev y = .str s) (hm : σ.mem i = some (.mp es)) (hT : aHU P t) :
    o.wp P a w (iJ w0 X A0 N bd ((σ.put o.dst (.tup [.int .i64 (mpG es s), .bool (mpH es s)])).eff Eff.no) o.dst.toList a w A μ) Q := by
  have hxv := h.ev x; rw [hx] at hxv
  have hyv := h.ev y; rw [hy] at hyv
  have hyv := hyv.str_inv
  obtain ⟨l, b, hl, hlb, hxe⟩ := hxv.mp_inv
  obtain ⟨l', hl', hob, _⟩ := h.ob i _ hm
  obtain rfl : l' = l := by rw [hl] at hl'; injection hl' with e; exact e.symm
  obtain ⟨h0, b', ms, clock, hb', hheap, hms⟩ := hob
  obtain rfl : b' = b := by rw [hlb] at hb'; injection hb' with e; exact e.symm
  obtain ⟨key, e, hu, hk, hzr⟩ := hT
  obtain ⟨f1, f2⟩ := nY s ms.toList es 0 hms
  have hrun : (execOp a.eval o).run P w = .ok (.value (.tuple #[.int .i64 (mpG es s), .bool (mpH es s)])) w := by
    have h3 : (Instr.lookup t (a.eval x) (a.eval y) true).run P w = .ok (.tuple #[.int .i64 (mpG es s), .bool (mpH es s)]) w := by
      rw [hxe, hyv]
      cases hb : mpH es s with
      | false =>
        have hg : mpG es s = 0 := by
          clear f1 f2 hms hheap hm h
          induction es with
          | nil => rfl
          | cons p es ih =>
            have e1 : mpH (p :: es) s = ((s == p.1) || mpH es s) := rfl
            rw [e1, Bool.or_eq_false_iff] at hb
            show (if (s == p.1) = true then p.2 else mpG es s) = 0
            rw [hb.1]; exact ih hb.2
        rw [hg]
        simp only [Instr.lookup, Sem.run_bind, run_underlying hu, MapKept.run_getObj_map hheap, mZ hk, oE hk s _ (f1 hb), Result.andThen_ok, hzr, Sem.run_pure, if_true]
      | true =>
        obtain ⟨j, hj⟩ := f2 hb
        simp only [Instr.lookup, Sem.run_bind, run_underlying hu, MapKept.run_getObj_map hheap, mZ hk, oE hk s _ hj, Result.andThen_ok, Sem.run_pure, if_true]
    simp only [execOp, ho, Sem.run_bind, h3, Result.andThen_ok]
    rfl
  unfold Oper.wp
  rw [hrun]
  refine ⟨A, μ, h.val ?_ hd⟩
  refine .tup _ _ rfl (fun i x c hx hc => ?_)
  rcases i with _ | _ | i <;> simp at hx hc
  · subst hx; subst hc; exact .c (.int _ _)
  · subst hx; subst hc; exact .c (.bool _)
end
end Go.Aw
set_option linter.unusedVariables false
namespace Go.Aw
section
variable {P : Program} {G : Nat → Option Obj} {T : TypeId → Option TI} {ck : Nat → Bool} {w0 : World} {X A0 : Nat → Prop} {N : Nat} {bd : Nat → Prop} {σ : St} {a : Act} {w : World} {A : Nat → Prop} {μ : Nat → Option Loc} {Q : Exit → Act → World → Prop}
theorem aBT {μ' : Nat → Option Loc} {ρ : Nat → Nat} {n : Nat} (hρ : ∀ i l, i < n → μ (ρ i) = some l → μ' i = some l) {l : Loc} {ob : Ob} (hr : ob.rOk n = true) (h : gP w A μ l (ob.rn1 ρ)) : gP w A μ' l ob := by
  cases ob with
  | box cs =>
    obtain ⟨b, arr, el, h1, h2, h3, h4⟩ := h
    refine ⟨b, arr, el, h1, h2, by simpa using h3, fun i u c hi hc => ?_⟩
    have hu := List.all_eq_true.1 hr u (List.mem_of_getElem? hi)
    rw [Bool.and_eq_true] at hu
    exact aAY hρ hu.1 hu.2 (h4 i _ c (by simp [hi]) hc)
  | arr e sz xs => exact h
  | deep e sz es xs => exact h
  | _ => cases hr
theorem aGB {μ' : Nat → Option Loc} {ρ : Nat → Nat} {n : Nat} (hρ : ∀ i l, μ i = some l → μ' (ρ i) = some l) {l : Loc} {ob : Ob} (hr : ob.rOk n = true) (h : gP w A μ l ob) : gP w A μ' l (ob.rn1 ρ) := by
  cases ob with
  | box cs =>
    obtain ⟨b, arr, el, h1, h2, h3, h4⟩ := h
    refine ⟨b, arr, el, h1, h2, by simpa using h3, fun i u c hi hc => ?_⟩
    simp at hi
    obtain ⟨u', hu', rfl⟩ := hi
    have hu := List.all_eq_true.1 hr u' (List.mem_of_getElem? hu')
    rw [Bool.and_eq_true] at hu
    exact wS hρ hu.1 (h4 i _ c hu' hc)
  | arr e sz xs => exact h
  | deep e sz es xs => exact h
  | _ => cases hr
theorem aBU {l : List Nat} {j : Nat} : l.any (Nat.beq j) = true ↔ j ∈ l := by
  rw [List.any_eq_true]
  constructor
  · rintro ⟨x, hx, hb⟩; have := Nat.eq_of_beq_eq_true hb; subst this; exact hx
  · intro h; exact ⟨j, h, Nat.beq_refl j⟩
theorem aFC {kp id : Nat} {ids : List Nat} {mo : List Ob} {j : Nat} {ob : Ob} (hk : kp ≤ ids.length) (h : Eff.atK kp id ids mo j = some (some ob)) : ∃ n, mo[n]? = some ob ∧ j = uG kp id ids n := by
  unfold Eff.atK at h
  rcases pF (ids.take kp) (mo.take kp) j with ⟨n, ob', q1, q2, q3⟩ | ⟨q, _⟩
  · rw [q3] at h; injection h with h; injection h with h; subst h
    rw [List.getElem?_take] at q1 q2
    split at q1
    · rename_i hn
      rw [if_pos hn] at q2
      refine ⟨n, q2, ?_⟩
      unfold uG
      rw [show Nat.blt n kp = true from Nat.ble_eq_true_of_le hn]
      simp [q1]
    · cases q1
  · rw [q] at h
    simp only at h
    split at h
    · cases h
    · rw [nE] at h
      split at h
      · rename_i hc
        injection h with h
        rw [List.getElem?_drop] at h
        refine ⟨kp + (j - id), h, ?_⟩
        unfold uG
        rw [show Nat.blt (kp + (j - id)) kp = false by
          cases hb : Nat.blt (kp + (j - id)) kp with
          | false => rfl
          | true => have : kp + (j - id) < kp := Nat.le_of_ble_eq_true hb
                    omega]
        simp only; omega
      · cases h
theorem xP {kp id : Nat} {ids : List Nat} {mo : List Ob} {j : Nat} (hk2 : kp ≤ mo.length) (h : Eff.atK kp id ids mo j = none) (n : Nat) (hn : ids[n]? = some j) : False := by
  unfold Eff.atK at h
  rcases pF (ids.take kp) (mo.take kp) j with ⟨m, ob', q1, q2, q3⟩ | ⟨q, q'⟩
  · rw [q3] at h; cases h
  · rw [q] at h
    simp only at h
    by_cases hc : n < kp
    · exact q' n mo[n] (by rw [List.getElem?_take, if_pos hc]; exact hn) (by rw [List.getElem?_take, if_pos hc]; exact List.getElem?_eq_getElem (by omega))
    · have : (ids.drop kp).any (Nat.beq j) = true := aBU.2 (List.mem_of_getElem? (i := n - kp) (by rw [List.getElem?_drop, show kp + (n - kp) = n by omega]; exact hn))
      rw [this] at h; cases h
theorem aFT {kp id : Nat} {ids : List Nat} {mo : List Ob} {j : Nat} (h : Eff.atK kp id ids mo j ≠ none) : j ∈ ids ∨ (id ≤ j ∧ j < id + (mo.length - kp)) := by
  unfold Eff.atK at h
  rcases pF (ids.take kp) (mo.take kp) j with ⟨m, ob', q1, q2, q3⟩ | ⟨q, q'⟩
  · exact .inl (List.mem_of_mem_take (List.mem_of_getElem? q1))
  · rw [q] at h
    simp only at h
    split at h
    · rename_i hb; exact .inl (List.mem_of_mem_drop (aBU.1 hb))
    · rw [nE] at h
      split at h
      · rename_i hc; rw [List.length_drop] at hc; exact .inr hc
      · exact absurd rfl h
theorem pJ {o : Oper} {us : List V} {f : FuncId} {id kp : Nat} {ids : List Nat} {Vs : List V} {mi mo : List Ob} {r : V} (hcal : sU P o a w A μ f us) (hG : GX G w0 X A0) (h : Ok w0 X A0 N bd σ a w A μ) (hid : ∀ m, m < 8 → μ (id + m) = none) (hd : ∀ n, o.dst = some n → n < N)
    (hf : lP P G f kp mi Vs mo r) (hli : ids.length = mi.length) (hk1 : kp ≤ mi.length) (hk2 : kp ≤ mo.length) (hk3 : mo.length ≤ kp + 8) (hnd : ids.Nodup) (hmi : ∀ (n i : Nat), ids[n]? = some i → σ.mem i = (mi[n]?).map (Ob.rn1 fun n => ids.getD n 0)) (hok : (mi.all (Ob.rOk mi.length) && mo.all (Ob.rOk mo.length)) = true)
    (hav : us = Vs.map (V.ren fun n => ids.getD n 0)) (hVf : Vs.all (fun v => v.flat2 && v.refs mi.length) = true) (hrb : r.clo = true) :
    o.wp P a w (iJ w0 X A0 N (fun i => bd i ∨ (id ≤ i ∧ i < id + 8)) ((σ.put o.dst r).eff (Eff.atK kp id ids (mo.map (Ob.rn1 (uG kp id ids))))) o.dst.toList a w A μ) Q := by
  rw [Bool.and_eq_true] at hok
  unfold Oper.wp
  obtain ⟨vs, hrun, hvs1, hvs2⟩ := hcal
  rw [hrun]
  let μc : Nat → Option Loc := fun n => if n < mi.length then μ (ids.getD n 0) else none
  have hμc : ∀ n i, ids[n]? = some i → μc n = μ i := fun n i hn => by
    have hlt := (List.getElem?_eq_some_iff.1 hn).1
    show (if n < mi.length then μ (ids.getD n 0) else none) = _
    rw [if_pos (by omega)]
    congr 1
    simp [hn]
  have hρc : ∀ n l, n < mi.length → μ (ids.getD n 0) = some l → μc n = some l := fun n l hn hl => by
    show (if n < mi.length then μ (ids.getD n 0) else none) = some l
    rw [if_pos hn]; exact hl
  have hids : ∀ (n : Nat) (ob : Ob), mi[n]? = some ob → ∃ i, ids[n]? = some i ∧ σ.mem i = some (ob.rn1 fun n => ids.getD n 0) := fun n ob hn => by
    have hlt : n < ids.length := by rw [hli]; exact (List.getElem?_eq_some_iff.1 hn).1
    refine ⟨ids[n], List.getElem?_eq_getElem hlt, ?_⟩
    rw [hmi n _ (List.getElem?_eq_getElem hlt), hn]; rfl
  have hlenV : Vs.length = us.length := by
    have := congrArg List.length hav; simpa using this.symm
  have hobj : wJ w A μc mi (fun _ => True) := by
    refine ⟨fun m ob hm => ?_, fun i j li lj b hi hj h1 h2 h3 h4 => ?_, fun i hi => ?_⟩
    · obtain ⟨i, g1, g2⟩ := hids m ob hm
      obtain ⟨l, hl, ho', hb⟩ := h.ob i _ g2
      exact ⟨l, by rw [hμc m i g1]; exact hl, aBT hρc (List.all_eq_true.1 hok.1 ob (List.mem_of_getElem? hm)) ho', fun b hb' => ⟨(hb b hb').1, (hb b hb').2.1, trivial⟩⟩
    · obtain ⟨oi, hoi⟩ : ∃ oi, mi[i]? = some oi := ⟨_, List.getElem?_eq_getElem hi⟩
      obtain ⟨oj, hoj⟩ : ∃ oj, mi[j]? = some oj := ⟨_, List.getElem?_eq_getElem hj⟩
      obtain ⟨i', a1, a2⟩ := hids i oi hoi
      obtain ⟨j', b1, b2⟩ := hids j oj hoj
      rw [hμc i i' a1] at h1
      rw [hμc j j' b1] at h2
      have := h.ap i' j' li lj b (by rw [a2]; simp) (by rw [b2]; simp) h1 h2 h3 h4
      subst this
      obtain ⟨l1, e1⟩ := List.getElem?_eq_some_iff.1 a1
      obtain ⟨l2, e2⟩ := List.getElem?_eq_some_iff.1 b1
      exact (List.getElem_inj hnd).1 (e1.trans e2.symm)
    · have hi2 : (if i < mi.length then μ (ids.getD i 0) else none) ≠ none := hi
      split at hi2
      · assumption
      · exact absurd rfl hi2
  have hcalls := hf.2 w A μc vs (by rw [hlenV, hvs1]) (fun i x v hx hv => by
      have e1 : (Vs.map (V.ren fun n => ids.getD n 0))[i]? = some (x.ren fun n => ids.getD n 0) := by simp [hx]
      rw [← hav] at e1
      have hy' := hvs2 i _ v e1 hv
      exact aHG hρc (List.all_eq_true.1 hVf x (List.mem_of_getElem? hx)) hy') (fun b hb => (h.hA b hb).1) (h.gl hG) hobj
  refine hcalls.mono fun e w' ⟨v, A', μ', he, hp⟩ => ?_
  subst he
  have hblk : ∀ b, blk μc mi.length b → ∃ i ob l, σ.mem i = some ob ∧ μ i = some l ∧ l.has b ∧ ∃ n : Nat, ids[n]? = some i := fun b ⟨m, l, hm, hl, hb⟩ => by
    obtain ⟨i, g1, g2⟩ := hids m _ (List.getElem?_eq_getElem hm)
    exact ⟨i, _, l, g2, by rw [← hμc m i g1]; exact hl, hb, m, g1⟩
  have hfacts : ∀ b, blk μc mi.length b → b < w.heap.size ∧ ¬ A b ∧ (X b ∨ w0.heap.size ≤ b) := fun b hb => by
    obtain ⟨i, ob, l, g1, g2, g3, _⟩ := hblk b hb
    obtain ⟨l', hl', _, hbb⟩ := h.ob i ob g1
    rw [g2] at hl'; injection hl' with hl'; subst hl'
    exact hbb b g3
  let μ2 : Nat → Option Loc := fun i => if id ≤ i ∧ i < id + 8 then μ' (i - id + kp) else μ i
  have hsub : ∀ i l, μ i = some l → μ2 i = some l := fun i l hi => by
    show (if id ≤ i ∧ i < id + 8 then μ' (i - id + kp) else μ i) = some l
    split
    · rename_i hc
      have := hid (i - id) (by omega)
      rw [show id + (i - id) = i by omega, hi] at this; cases this
    · exact hi
  have hν : ∀ n l, μ' n = some l → μ2 (uG kp id ids n) = some l := fun n l hl => by
    have hlt : n < mo.length := hp.objs.bd n (by rw [hl]; simp)
    unfold uG
    cases hb : Nat.blt n kp with
    | true =>
      have hn : n < kp := Nat.le_of_ble_eq_true hb
      rw [hp.same n hn] at hl
      have e : ids[n]? = some (ids.getD n 0) := by
        rw [List.getD_eq_getElem?_getD, List.getElem?_eq_getElem (by omega : n < ids.length)]; rfl
      rw [hμc n _ e] at hl
      exact hsub _ l hl
    | false =>
      have hn : ¬ n < kp := fun hn => by rw [show Nat.blt n kp = true from Nat.ble_eq_true_of_le hn] at hb; cases hb
      show (if id ≤ id + (n - kp) ∧ id + (n - kp) < id + 8 then μ' (id + (n - kp) - id + kp) else μ _) = some l
      rw [if_pos (by omega), show id + (n - kp) - id + kp = n by omega]; exact hl
  have hmem : ∀ i ob, Eff.atK kp id ids (mo.map (Ob.rn1 (uG kp id ids))) i = some (some ob) → ∃ (n : Nat) (ob' : Ob), mo[n]? = some ob' ∧ ob = ob'.rn1 (uG kp id ids) ∧ i = uG kp id ids n := fun i ob he => by
    obtain ⟨n, h1, h2⟩ := aFC (by omega) he
    simp at h1
    obtain ⟨ob', h3, rfl⟩ := h1
    exact ⟨n, ob', h3, rfl, h2⟩
  refine ⟨A', μ2, h.step (Tc := blk μc mi.length) hp.os hp.tape hp.out hp.size hp.old (fun b hb => (hfacts b hb).2.1) (fun b hb => (hfacts b hb).2.2) hp.sub hp.hA hsub (fun i hi => ?_) (vZ hrb hp.res) hd (fun i ob l b he hm hl hb hbk => ?_) (fun i ob he => ?_) (fun i ob he j hj li lj b h1 h2 h3 h4 => ?_)⟩
  · by_cases hc : id ≤ i ∧ i < id + 8
    · exact .inr hc
    · refine .inl (h.bd i (fun e => hi ?_))
      show (if id ≤ i ∧ i < id + 8 then μ' (i - id + kp) else μ i) = none
      rw [if_neg hc]; exact e
  · obtain ⟨i', ob', l', g1, g2, g3, n, g4⟩ := hblk b hbk
    have := h.ap i i' l l' b (by rw [hm]; simp) (by rw [g1]; simp) hl g2 hb g3
    subst this
    exact xP (by simpa using hk2) he n g4
  · obtain ⟨n, ob', g1, rfl, rfl⟩ := hmem i ob he
    obtain ⟨l, hl, ho', hb⟩ := hp.objs.ob n ob' g1
    refine ⟨l, hν n l hl, aGB hν (List.all_eq_true.1 hok.2 ob' (List.mem_of_getElem? g1)) ho', fun b hb' => ⟨(hb b hb').1, (hb b hb').2.1, ?_⟩⟩
    rcases (hb b hb').2.2 with hq | hq
    · exact (hfacts b hq).2.2
    · exact .inr (Nat.le_trans h.size hq)
  · obtain ⟨n, ob', g1, rfl, rfl⟩ := hmem i ob he
    obtain ⟨l, hl, _, hb⟩ := hp.objs.ob n ob' g1
    have e := hν n l hl
    rw [h1] at e; injection e with e; subst e
    have hn := (List.getElem?_eq_some_iff.1 g1).1
    rcases hj with ⟨ob2, hj⟩ | ⟨hj, hjm⟩
    · obtain ⟨m, ob3, q1, rfl, rfl⟩ := hmem j ob2 hj
      obtain ⟨l2, hl2, _, _⟩ := hp.objs.ob m ob3 q1
      have e := hν m l2 hl2
      rw [h2] at e; injection e with e; subst e
      have := hp.objs.ap n m li lj b hn (List.getElem?_eq_some_iff.1 q1).1 hl hl2 h3 h4
      rw [this]
    · exfalso
      obtain ⟨oj, hoj⟩ := Option.ne_none_iff_exists'.1 hjm
      obtain ⟨l2, hl2, _, hb2⟩ := h.ob j oj hoj
      have e := hsub j l2 hl2
      rw [h2] at e; injection e with e; subst e
      rcases (hb b h3).2.2 with hq | hq
      · obtain ⟨i', ob4, l', p1, p2, p3, m, p4⟩ := hblk b hq
        have := h.ap j i' lj l' b hjm (by rw [p1]; simp) hl2 p2 h4 p3
        subst this
        exact xP (by simpa using hk2) hj m p4
      · have := (hb2 b h4).1; omega
end
end Go.Aw
set_option linter.unusedVariables false
namespace Go.Aw
section
variable {P : Program} {G : Nat → Option Obj} {T : TypeId → Option TI} {ck : Nat → Bool} {ev : Operand → V} {m : Nat → Option Ob} {id : Nat}
def Is (v : V) (e : Eff) : V → Eff → Prop := fun v' e' => v' = v ∧ e' = e
theorem nK {v : V} {e : Eff} {k : V → Eff → Prop} (h : k v e) : ∃ v' e', Is v' e' v e ∧ k v' e' := ⟨v, e, ⟨rfl, rfl⟩, h⟩
theorem mC {c : Prop} {F : (V → Eff → Prop) → Prop} {k : V → Eff → Prop} (hF : F k → ∃ v e, F (Is v e) ∧ k v e) (h : Nd c (F k)) : ∃ v e, Nd c (F (Is v e)) ∧ k v e := by
  obtain ⟨h0, h⟩ := h.out
  obtain ⟨v, e, h1, h2⟩ := hF h
  exact ⟨v, e, Nd.mk h0 h1, h2⟩
theorem xD {xs : List (List V)} {i : Nat} {F : List V → (V → Eff → Prop) → Prop} {k : V → Eff → Prop} (hF : ∀ p, F p k → ∃ v e, F p (Is v e) ∧ k v e) (h : El xs i (fun p => F p k)) : ∃ v e, El xs i (fun p => F p (Is v e)) ∧ k v e := by
  obtain ⟨p, h0, h⟩ := h.out
  obtain ⟨v, e, h1, h2⟩ := hF p h
  exact ⟨v, e, El.mk h0 h1, h2⟩
theorem aCN {o : Op} {k : V → Eff → Prop} (h : opv T ck ev m o fun v => k v Eff.no) : ∃ v e, (opv T ck ev m o fun v' => Is v e v' Eff.no) ∧ k v e := by
  obtain ⟨v, h1, h2⟩ := aAS h
  refine ⟨v, Eff.no, ?_, h2⟩
  have : (fun v' => Is v Eff.no v' Eff.no) = (fun u => u = v) := by funext u; simp [Is]
  rw [this]; exact h1
theorem sR {size : Nat} {x : V} {F : List (List V) → Nat → (V → Eff → Prop) → Prop} {k : V → Eff → Prop} (hF : ∀ ys n, F ys n k → ∃ v e, F ys n (Is v e) ∧ k v e) (h : sE ck m size x (fun ys n => F ys n k)) :
    ∃ v e, sE ck m size x (fun ys n => F ys n (Is v e)) ∧ k v e := by
  unfold sE at *
  split at h
  · exact hF _ _ h
  · split at h
    · exact hF _ _ h
    · exact h.elim
  · split at h
    · split at h
      · exact hF _ _ h
      · exact h.elim
    · exact h.elim
  · exact h.elim
theorem aFD {te : TypeId} {ei : TI} {i len : Nat} {e : TypeId} {sz : Nat} {es : List TypeId} {xs : List (List V)} {x : V} {k : V → Eff → Prop} (h : wC ck id m te ei i len e sz es xs x k) : ∃ v e', wC ck id m te ei i len e sz es xs x (Is v e') ∧ k v e' := by
  unfold wC at *
  split at h
  · split at h
    · split at h
      · exact mC (F := fun k => k _ _) nK h
      · exact h.elim
    · exact h.elim
  · exact h.elim
theorem aIV {ti ei : TI} {len : Nat} {parts : List (Nat × Operand)} {k : V → Eff → Prop} (h : bsD ev id ti ei len parts k) : ∃ v e', bsD ev id ti ei len parts (Is v e') ∧ k v e' := by
  unfold bsD at *
  split at h
  · split at h
    · obtain ⟨es, h⟩ := h; exact ⟨_, _, ⟨es, rfl, rfl⟩, h⟩
    · exact h.elim
  · exact h.elim
theorem aIL {t : TypeId} {s x : Operand} {k : V → Eff → Prop} (h : uT T ck id ev m t s x k) : ∃ v e, uT T ck id ev m t s x (Is v e) ∧ k v e := by
  unfold uT at *
  split at h
  · exact h.elim
  · split at h
    · split at h
      · exact sR (F := fun ys n k => Nd (n * _ ≤ 140737488355328) (k (.own id n) (Eff.set id (.arr _ _ ys)))) (fun ys n => mC (F := fun k => k _ _) nK) h
      · split at h
        · split at h
          · exact sR (F := fun ys n k => Nd ((_ + n) * _ ≤ 140737488355328) (k (.own id (_ + n)) (Eff.app _ id (.arr _ _ (_ ++ ys))))) (fun ys n => mC (F := fun k => k _ _) nK) h
          · exact h.elim
        · exact aFD h
        · exact h.elim
      · exact h.elim
    · exact h.elim
theorem aJE {i idx off size : Nat} {e : TypeId} {sz : Nat} {es : List TypeId} {xs : List (List V)} {p cs : List V} {k : V → Eff → Prop} (h : stD i idx off size e sz es xs p cs k) : ∃ v e', stD i idx off size e sz es xs p cs (Is v e') ∧ k v e' := by
  unfold stD at *
  split at h
  · split at h
    · exact nK h
    · exact h.elim
  · split at h
    · exact nK h
    · exact h.elim
theorem aIH {i idx off s j o size : Nat} {e : TypeId} {sz : Nat} {es : List TypeId} {xs : List (List V)} {p : List V} {c : Option V} {cs : List V} {k : V → Eff → Prop} (h : stI i idx off s j o size e sz es xs p c cs k) : ∃ v e', stI i idx off s j o size e sz es xs p c cs (Is v e') ∧ k v e' := by
  unfold stI at *
  split at h
  · split at h
    · refine xD (F := fun q k => match Nat.ble (o + size) q.length with | true => ∃ (n' : Nat) (ys' : List (List V)), n' = _ ∧ ys' = List.set _ j (iI q o cs) ∧ k (.tup []) (Eff.set i (.deep e sz es (xs.set idx (p.set off (.sl _ n' ys'))))) | false => False) (fun q h => ?_) h
      split at h
      · obtain ⟨n', ys', h1, h2, h⟩ := h
        exact ⟨_, _, ⟨n', ys', h1, h2, rfl, rfl⟩, h⟩
      · exact h.elim
    · exact h.elim
  · exact h.elim
theorem tR {f : FuncId} {us : List V} {k : V → Eff → Prop} (h : jW P G ck id us m f k) : ∃ v e, jW P G ck id us m f (Is v e) ∧ k v e := by
  rcases h with ⟨Vs, mo, r, h1, h2, h3, h4, h5, h6, h7⟩ | ⟨ids, Vs, mi, mo, r, h1, h2, h3, h4, h5, h5', h6, h7, h8, h9, h10, h11⟩ | ⟨i, idx, off, n, n', Vs, e, e', sz, s, es, xs, p, ys, ys', r, h1, h2, h3, h4, h5, h6, h7, h8, h9, h10, h11, h12, h13⟩ | ⟨ids, Vs, mi, mo, r, h1, h2, h3, h4, h5, h6, h7, h8, h9, h10, h11⟩ | ⟨kp, ids, Vs, mi, mo, r, h1, h2, h3, h4, h5, h6, h7, h8, h9, h10, h11, h12, h13, h14⟩
  · exact ⟨_, _, .inl ⟨Vs, mo, r, h1, h2, h3, h4, h5, h6, rfl, rfl⟩, h7⟩
  · exact ⟨_, _, .inr (.inl ⟨ids, Vs, mi, mo, r, h1, h2, h3, h4, h5, h5', h6, h7, h8, h9, h10, rfl, rfl⟩), h11⟩
  · exact ⟨_, _, .inr (.inr (.inl ⟨i, idx, off, n, n', Vs, e, e', sz, s, es, xs, p, ys, ys', r, h1, h2, h3, h4, h5, h6, h7, h8, h9, h10, h11, h12, rfl, rfl⟩)), h13⟩
  · exact ⟨_, _, .inr (.inr (.inr (.inl ⟨ids, Vs, mi, mo, r, h1, h2, h3, h4, h5, h6, h7, h8, h9, h10, rfl, rfl⟩))), h11⟩
  · exact ⟨_, _, .inr (.inr (.inr (.inr ⟨kp, ids, Vs, mi, mo, r, h1, h2, h3, h4, h5, h6, h7, h8, h9, h10, h11, h12, h13, rfl, rfl⟩))), h14⟩
theorem uK {o : Op} {k : V → Eff → Prop} (h : lG P G T ck id o ev m k) : ∃ v e, lG P G T ck id o ev m (Is v e) ∧ k v e := by
  cases o <;> simp only [lG] at h ⊢ <;> first
    | exact aCN h
    | skip
  case box t x => split at h
                  · split at h <;> first | exact nK h | exact h.elim
                  · exact h.elim
  case alloc t => split at h <;> first | exact nK h | exact h.elim
  case buildSlice t len parts =>
    split at h
    · split at h
      · split at h
        · split at h
          · rcases h with h | h
            · obtain ⟨v, e, h1, h2⟩ := nK h; exact ⟨v, e, .inl h1, h2⟩
            · rcases h with h | ⟨hx, es, h⟩
              · obtain ⟨v, e, h1, h2⟩ := nK h; exact ⟨v, e, .inr (.inl h1), h2⟩
              · obtain ⟨v, e, h1, h2⟩ := nK h; exact ⟨v, e, .inr (.inr ⟨hx, es, h1⟩), h2⟩
          · exact h.elim
        · exact aIV h
      · exact h.elim
    · exact h.elim
  case makeSlice t lo co =>
    split at h
    · split at h
      · split at h
        · split at h
          · split at h
            · refine mC (F := fun k => Nd _ (Nd _ (k (.own id _) _))) (fun h => ?_) h
              refine mC (F := fun k => Nd _ (k (.own id _) _)) (fun h => ?_) h
              exact mC (F := fun k => k (.own id _) _) nK h
            · refine mC (F := fun k => Nd _ (Nd _ (k (.own id _) _ ∨ ∃ es, k (.own id _) (Eff.set id (.deep _ _ es _))))) (fun h => ?_) h
              refine mC (F := fun k => Nd _ (k (.own id _) _ ∨ ∃ es, k (.own id _) (Eff.set id (.deep _ _ es _)))) (fun h => ?_) h
              refine mC (F := fun k => k (.own id _) _ ∨ ∃ es, k (.own id _) (Eff.set id (.deep _ _ es _))) (fun h => ?_) h
              rcases h with h | ⟨es, h⟩
              · exact ⟨_, _, .inl ⟨rfl, rfl⟩, h⟩
              · exact ⟨_, _, .inr ⟨es, rfl, rfl⟩, h⟩
          · exact h.elim
        · exact h.elim
      · exact h.elim
    · exact h.elim
  case store t a x =>
    split at h
    · split at h
      · split at h
        · split at h
          · split at h <;> first | exact nK h | exact h.elim
          · exact h.elim
        · split at h
          · refine xD (F := fun p k => match Nat.ble _ p.length with | true => k _ (Eff.set _ (.arr _ _ (List.set _ _ (iI p _ _)))) | false => False) (fun p h => ?_) h
            split at h
            · exact nK h
            · exact h.elim
          · exact xD (F := fun p k => stD _ _ _ _ _ _ _ _ p _ k) (fun p h => aJE h) h
          · exact h.elim
        · split at h
          · exact xD (F := fun p k => stI _ _ _ _ _ _ _ _ _ _ _ p _ _ k) (fun p h => aIH h) h
          · exact h.elim
        · exact h.elim
      · exact h.elim
    · exact h.elim
  case makeMap t r =>
    split at h
    · exact nK h
    · exact h.elim
  case insert t x y z =>
    split at h
    · split at h
      · obtain ⟨h1, h2, h3⟩ := h
        obtain ⟨v, e, g1, g2⟩ := nK h3
        exact ⟨v, e, ⟨h1, h2, g1⟩, g2⟩
      · exact h.elim
    · exact h.elim
  case lookup t x y c =>
    split at h
    · split at h
      · obtain ⟨h1, h3⟩ := h
        obtain ⟨v, e, g1, g2⟩ := nK h3
        exact ⟨v, e, ⟨h1, g1⟩, g2⟩
      · exact h.elim
    · exact h.elim
  case call c =>
    split at h
    · exact tR h
    · split at h
      · exact tR h
      · exact tR h
      · exact h.elim
    · split at h
      · split at h
        · exact aIL h
        · exact h.elim
      · exact h.elim
    · exact aCN h
end
end Go.Aw
set_option linter.unusedVariables false
namespace Go.Aw
section
variable {P : Program} {G : Nat → Option Obj} {T : TypeId → Option TI} {ck : Nat → Bool} {w0 : World} {X A0 : Nat → Prop} {N : Nat} {bd : Nat → Prop} {σ : St} {a : Act} {w : World} {A : Nat → Prop} {μ : Nat → Option Loc} {Q : Exit → Act → World → Prop}
theorem zJ {o : Oper} {v : V} {e : Eff} (hT : TOk P T) (h : Ok w0 X A0 N bd σ a w A μ) (hd : ∀ n, o.dst = some n → n < N) (hs : opv T ck σ.ev σ.mem o.op fun v' => Is v e v' Eff.no) :
    o.wp P a w (iJ w0 X A0 N bd ((σ.put o.dst v).eff e) o.dst.toList a w A μ) Q := by
  obtain ⟨v', h1, h2⟩ := aAS hs
  obtain ⟨rfl, rfl⟩ := h2
  obtain ⟨cv, h3, h4⟩ := aIK hT h.ev h.mok h1
  unfold Oper.wp
  rw [h3]
  exact ⟨A, μ, h.val h4 hd⟩
theorem iJ.bdm {bd' : Nat → Prop} {σ' : St} {hv : List Tmp} {a' : Act} {w' : World} (hb : ∀ i, bd i → bd' i) (h : iJ w0 X A0 N bd σ' hv a w A μ a' w') : iJ w0 X A0 N bd' σ' hv a w A μ a' w' := by
  obtain ⟨A', μ', h1, h2⟩ := h
  exact ⟨A', μ', h1.bdm hb, h2⟩
def NE (u u' : V) : Prop := u' = u ∨ (u = .nil ∧ ∃ sz, u' = .sl sz 0 [])
theorem NE.rc {w : World} {A : Nat → Prop} {u u' : V} {c : Value} (h : NE u u') (k : Rc w A u c) : Rc w A u' c := by
  rcases h with rfl | ⟨rfl, sz, rfl⟩
  · exact k
  · cases k
    exact .sl sz 0 [] rfl none 0 (fun _ => undef) (Nat.le_refl _) (fun _ h => (by cases h)) (fun h => absurd rfl h) (fun _ k u _ hk => (by simp at hk)) (fun k u hk => (by simp at hk)) (fun k u hk => (by simp at hk))
theorem aJT (m : Nat) (v : V) : NE v (aLY m v) := by
  unfold aLY
  split
  · exact .inr ⟨rfl, _, rfl⟩
  · exact .inl rfl
theorem pB : ∀ (ms : List Nat) (vs : List V), (nrm ms vs).length = vs.length
  | [], vs => by simp [nrm]
  | _ :: _, [] => by simp [nrm]
  | m :: ms, v :: vs => by simp [nrm, pB ms vs]
theorem sN : ∀ (ms : List Nat) (vs : List V) (j : Nat) (u' : V), (nrm ms vs)[j]? = some u' → ∃ u, vs[j]? = some u ∧ NE u u'
  | [], vs, j, u', h => ⟨u', by simpa [nrm] using h, .inl rfl⟩
  | _ :: _, [], j, u', h => by simp [nrm] at h
  | m :: ms, v :: vs, 0, u', h => by
    simp [nrm] at h; subst h
    exact ⟨v, rfl, aJT m v⟩
  | m :: ms, v :: vs, j + 1, u', h => by
    obtain ⟨u, h1, h2⟩ := sN ms vs j u' (by simpa [nrm] using h)
    exact ⟨u, by simpa using h1, h2⟩
def aHX (xs xs' : List (List V)) : Prop := xs'.length = xs.length ∧ ∀ (i : Nat) (p' : List V), xs'[i]? = some p' → ∃ p, xs[i]? = some p ∧ p'.length = p.length ∧ ∀ (j : Nat) (u' : V), p'[j]? = some u' → ∃ u, p[j]? = some u ∧ NE u u'
theorem aHW {w : World} {A : Nat → Prop} {μ : Nat → Option Loc} {l : Loc} {e : TypeId} {sz : Nat} {xs xs' : List (List V)} (hr : aHX xs xs') (h : gP w A μ l (.arr e sz xs)) : gP w A μ l (.arr e sz xs') := by
  obtain ⟨q1, q2, q3, cs, ho, q4, q5⟩ := h
  have hu : ∀ p ∈ xs', p.length = sz := fun p hp => by
    obtain ⟨i, hi⟩ := List.getElem?_of_mem hp
    obtain ⟨p0, h1, h2, _⟩ := hr.2 i p hi
    rw [h2]; exact q3 p0 (List.mem_of_getElem? h1)
  refine ⟨q1, by rw [q2, hr.1], hu, cs, ho, q4, fun k u c hk hc => ?_⟩
  obtain ⟨p', h1, h2⟩ := kG xs' k u hu hk
  obtain ⟨p, g1, _, g3⟩ := hr.2 _ p' h1
  obtain ⟨u0, k1, k2⟩ := g3 _ u h2
  have := flat_get xs (k / sz) (k % sz) p u0 q3 g1 k1
  rw [Nat.div_add_mod'] at this
  exact k2.rc (q5 k u0 c this hc)
theorem qL {σ1 : St} {i : Nat} {e : TypeId} {sz : Nat} {xs xs' : List (List V)} {bd' : Nat → Prop} {hv : List Tmp} {a' : Act} {w' : World} (hr : aHX xs xs') (h : iJ w0 X A0 N bd' (σ1.eff (Eff.set i (.arr e sz xs))) hv a w A μ a' w') : iJ w0 X A0 N bd' (σ1.eff (Eff.set i (.arr e sz xs'))) hv a w A μ a' w' := by
  obtain ⟨A', μ', h1, h2⟩ := h
  have hm : ∀ (ys : List (List V)) (j : Nat), (σ1.eff (Eff.set i (.arr e sz ys))).mem j = if j = i then some (.arr e sz ys) else σ1.mem j := fun ys j => by
    show (match Eff.set i (.arr e sz ys) j with | some x => x | none => σ1.mem j) = _
    rw [Eff.set_eq]
    by_cases c : j = i
    · rw [if_pos c, if_pos c]
    · rw [if_neg c, if_neg c]
  refine ⟨A', μ', ⟨h1.tm, h1.df, h1.env, h1.os, h1.tape, h1.out, h1.size, h1.old, h1.hA, h1.sub, fun j ob hj => ?_, fun j k lj lk b hj hk => h1.ap j k lj lk b (fun q => hj ?_) (fun q => hk ?_), h1.bd⟩, h2⟩
  · rw [hm] at hj
    by_cases c : j = i
    · rw [if_pos c] at hj; injection hj with hj; subst hj
      obtain ⟨l, g1, g2, g3⟩ := h1.ob j (.arr e sz xs) (by rw [hm, if_pos c])
      exact ⟨l, g1, aHW hr g2, g3⟩
    · rw [if_neg c] at hj
      exact h1.ob j ob (by rw [hm, if_neg c]; exact hj)
  · rw [hm] at q ⊢
    by_cases c : j = i
    · rw [if_pos c] at q; cases q
    · rw [if_neg c] at q ⊢; exact q
  · rw [hm] at q ⊢
    by_cases c : k = i
    · rw [if_pos c] at q; cases q
    · rw [if_neg c] at q ⊢; exact q
theorem aBQ (ms : List Nat) (xs : List (List V)) : aHX xs (xs.map (nrm ms)) := ⟨by simp, fun i p' h => by
  simp only [List.getElem?_map, Option.map_eq_some_iff] at h
  obtain ⟨p, h1, rfl⟩ := h
  exact ⟨p, h1, pB ms p, fun j u' hj => sN ms p j u' hj⟩⟩
theorem aCA (n : Nat) (ms : List Nat) (z : List V) : aHX (List.replicate n z) (List.replicate n (nrm ms z)) := by
  have := aBQ ms (List.replicate n z)
  rwa [List.map_replicate] at this
theorem aJC (ms : List Nat) (xs : List (List V)) (idx off : Nat) (p vs : List V) (hp : xs[idx]? = some p) (hle : off + vs.length ≤ p.length) : aHX (xs.set idx (iI p off vs)) (xs.set idx (iI p off (nrm ms vs))) := by
  refine ⟨by simp, fun i p' h => ?_⟩
  rw [List.getElem?_set] at h
  by_cases c : idx = i
  · rw [if_pos c] at h
    split at h
    · rename_i hlt
      injection h with h; subst h
      refine ⟨iI p off vs, by rw [List.getElem?_set, if_pos c, if_pos hlt], by rw [gE (by rw [pB]; exact hle), gE hle], fun j u' hj => ?_⟩
      rw [fN (by rw [pB]; exact hle)] at hj
      rw [fN hle]
      rw [pB] at hj
      split at hj
      · obtain ⟨u, k1, k2⟩ := sN ms vs _ u' hj
        rename_i hc
        exact ⟨u, by rw [if_pos hc]; exact k1, k2⟩
      · rename_i hc
        exact ⟨u', by rw [if_neg hc]; exact hj, .inl rfl⟩
    · cases h
  · rw [if_neg c] at h
    exact ⟨p', by rw [List.getElem?_set, if_neg c]; exact h, rfl, fun j u' hj => ⟨u', hj, .inl rfl⟩⟩
theorem rE {o : Oper} {t : TypeId} {len : Nat} {parts : Array (Nat × Operand)} (ho : o.op = .buildSlice t len parts) (hT : TOk P T) (h : Ok w0 X A0 N bd σ a w A μ) (hd : ∀ n, o.dst = some n → n < N)
    {ti ei : TI} (ht : T t = some ti) (he : T ti.elem = some ei) (hsl : ti.sl = true) {xs : List (List V)} (hr : rows σ.ev ei.size 0 parts.toList = some xs) (hl : xs.length = len) (hsm : len * ei.size ≤ 1000) :
    o.wp P a w (iJ w0 X A0 N bd ((σ.put o.dst (.sl ei.size len xs)).eff Eff.no) o.dst.toList a w A μ) Q := by
  obtain ⟨arr, hrun, hob⟩ := lD ho hT h ht he hsl hr hl hsm μ
  unfold Oper.wp
  rw [hrun]
  have hrc := xF (A' := fun b => A b ∨ b = w.heap.size) hob (fun b hb => .inl hb) (fun b hb => .inr (by have hb := gV hb; injection hb with hb; exact hb.symm))
  refine ⟨fun b => A b ∨ b = w.heap.size, μ, h.step (Tc := fun _ => False) rfl rfl rfl (by simp) (fun b hb _ => heap_alloc_old _ _ b hb) (fun _ h => h.elim) (fun _ h => h.elim) (fun _ h => .inl h)
    (fun b hb => ?_) (fun _ _ h => h) (fun i hi => h.bd i hi) (.c hrc) hd (fun _ _ _ _ _ _ _ _ h => h) (fun i ob' hi => (by cases hi)) (fun i ob' hi => (by cases hi))⟩
  rcases hb with hb | rfl
  · exact ⟨by have := (h.hA b hb).1; simp; omega, .inl hb⟩
  · exact ⟨by simp, .inr (Nat.le_refl _)⟩
theorem vC {o : Oper} {id : Nat} {v : V} {e : Eff} (hT : TOk P T) (hG : GX G w0 X A0) (h : Ok w0 X A0 N bd σ a w A μ) (hid : ∀ m, m < 8 → μ (id + m) = none) (hd : ∀ n, o.dst = some n → n < N)
    (hs : lG P G T ck id o.op σ.ev σ.mem (Is v e)) : o.wp P a w (iJ w0 X A0 N (fun i => bd i ∨ (id ≤ i ∧ i < id + 8)) ((σ.put o.dst v).eff e) o.dst.toList a w A μ) Q := by
  have hid0 : μ id = none := hid 0 (by omega)
  have lift : ∀ {σ' : St}, o.wp P a w (iJ w0 X A0 N bd σ' o.dst.toList a w A μ) Q → o.wp P a w (iJ w0 X A0 N (fun i => bd i ∨ (id ≤ i ∧ i < id + 8)) σ' o.dst.toList a w A μ) Q :=
    fun h => Oper.wp_mono (fun _ _ => iJ.bdm (fun _ h => .inl h)) h
  cases ho : o.op <;> rw [ho] at hs <;> simp only [lG] at hs <;> first
    | exact lift (zJ hT h hd (by rw [ho]; exact hs))
    | skip
  case box t x =>
    split at hs
    · rename_i ti ht
      split at hs
      · rename_i hb
        obtain ⟨rfl, rfl⟩ := hs
        exact aHQ ho hT h hid0 hd ht (Nat.eq_of_beq_eq_true hb)
      · exact hs.elim
    · exact hs.elim
  case alloc t =>
    split at hs
    · rename_i ti ht
      obtain ⟨rfl, rfl⟩ := hs
      exact aBA ho hT h hid0 hd ht
    · exact hs.elim
  case buildSlice t len parts =>
    split at hs
    · rename_i ti ht
      split at hs
      · rename_i ei he
        split at hs
        · rename_i xs hr
          split at hs
          · rename_i h1 h2
            rw [Bool.and_eq_true] at h2
            rcases hs with ⟨rfl, rfl⟩ | ⟨rfl, rfl⟩ | ⟨rfl, es, rfl, rfl⟩
            · exact Oper.wp_mono (fun _ _ hn => qL (aBQ _ _) hn) (sF ho hT h hid0 hd ht he h2.2 hr (Nat.eq_of_beq_eq_true h1) (Nat.le_of_ble_eq_true h2.1))
            · exact lift (rE ho hT h hd ht he h2.2 hr (Nat.eq_of_beq_eq_true h1) (Nat.le_of_ble_eq_true h2.1))
            · exact sJ es ho hT h hid0 hd ht he h2.2 hr (Nat.eq_of_beq_eq_true h1) (Nat.le_of_ble_eq_true h2.1)
          · exact hs.elim
        · unfold bsD at hs
          split at hs
          · rename_i j x hpt
            split at hs
            · rename_i hc
              simp only [Bool.and_eq_true] at hc
              obtain ⟨⟨⟨⟨⟨c1, c2⟩, c3⟩, c4⟩, c5⟩, c6⟩ := hc
              have c1 := Nat.eq_of_beq_eq_true c1
              have c2 := Nat.eq_of_beq_eq_true c2
              subst c1; subst c2
              obtain ⟨es, rfl, rfl⟩ := hs
              exact uI es ho hpt hT h hid0 hd ht he c3 (Nat.eq_of_beq_eq_true c5) c6 (Nat.le_of_ble_eq_true c4)
            · exact hs.elim
          · exact hs.elim
      · exact hs.elim
    · exact hs.elim
  case makeSlice t lo co =>
    split at hs
    · rename_i ti ht
      split at hs
      · rename_i ei he hsl
        split at hs
        · rename_i l c hl hc
          split at hs
          · rename_i hbr
            split at hs
            · obtain ⟨h0, hs⟩ := hs.out
              obtain ⟨h1, hs⟩ := hs.out
              obtain ⟨h2, hs⟩ := hs.out
              obtain ⟨rfl, rfl⟩ := hs
              exact Oper.wp_mono (fun _ _ hn => qL (aCA _ _ _) hn) (nN ho hT h hid0 hd ht he hsl hl hc hbr h0 h1 h2)
            · obtain ⟨h0, hs⟩ := hs.out
              obtain ⟨h1, hs⟩ := hs.out
              obtain ⟨h2, hs⟩ := hs.out
              rcases hs with ⟨rfl, rfl⟩ | ⟨es, rfl, rfl⟩
              · exact Oper.wp_mono (fun _ _ hn => qL (aCA _ _ _) hn) (nN ho hT h hid0 hd ht he hsl hl hc hbr h0 h1 h2)
              · exact uU es ho hT h hid0 hd ht he hsl hl hc hbr h0 h1 h2 (pB _ _) (fun j u' hj => sN _ _ j u' hj)
          · exact hs.elim
        · exact hs.elim
      · exact hs.elim
    · exact hs.elim
  case store t x y =>
    split at hs
    · rename_i ti ht
      split at hs
      · rename_i hb
        have hlen := Nat.eq_of_beq_eq_true hb
        split at hs
        · rename_i i off hx
          split at hs
          · rename_i cs _ hm hlf
            split at hs
            · rename_i hle
              obtain ⟨rfl, rfl⟩ := hs
              exact lift (uB ho hT h hd ht hlen hlf hx hm (Nat.le_of_ble_eq_true hle))
            · exact hs.elim
          · exact hs.elim
        · rename_i i idx off hx
          split at hs
          · rename_i e' sz xs _ hm hlf
            obtain ⟨p, hp, hs⟩ := hs.out
            split at hs
            · rename_i hle
              obtain ⟨rfl, rfl⟩ := hs
              exact lift (Oper.wp_mono (fun _ _ hn => qL (aJC _ _ _ _ _ _ hp (by rw [hlen]; exact Nat.le_of_ble_eq_true hle)) hn) (uJ ho hT h hd ht hlen hlf hx hm hp (Nat.le_of_ble_eq_true hle)))
            · exact hs.elim
          · rename_i e' sz es xs _ _ hm
            obtain ⟨p, hp, hs⟩ := hs.out
            exact lift (sH ho hT h hd ht hlen hx hm hp hs)
          · exact hs.elim
        · rename_i i idx off s j o' hx
          split at hs
          · rename_i e' sz es xs _ hm hbr
            obtain ⟨p, hp, hs⟩ := hs.out
            exact lift (uQ ho hT h hd ht hlen hbr hx hm hp hs)
          · exact hs.elim
        · exact hs.elim
      · exact hs.elim
    · exact hs.elim
  case makeMap t r =>
    split at hs
    · obtain ⟨rfl, rfl⟩ := hs
      exact wO ho h hid0 hd
    · exact hs.elim
  case insert t x y z =>
    split at hs
    · rename_i i s n hx hy hz
      split at hs
      · rename_i es _ hm
        obtain ⟨h1, h2, rfl, rfl⟩ := hs
        exact lift (yG ho h hd hx hy hz hm h1 h2)
      · exact hs.elim
    · exact hs.elim
  case lookup t x y c =>
    split at hs
    · rename_i i s hx hy
      split at hs
      · rename_i es _ hm
        obtain ⟨h1, rfl, rfl⟩ := hs
        exact lift (yL ho h hd hx hy hm h1)
      · exact hs.elim
    · exact hs.elim
  case call c =>
    split at hs
    · rename_i f hcal
      rcases hs with ⟨Vs, mo, r, h1, h2, h3, h4, h5, h6, rfl, rfl⟩ | ⟨ids, Vs, mi, mo, r, h1, h2, h3, h4, h5, h5', h6, h7, h8, h9, h10, rfl, rfl⟩ | ⟨i, idx, off, n, n', Vs, e, e', sz, s, es, xs, p, ys, ys', r, h1, h2, h3, h4, h5, h6, h7, h8, h9, h10, h11, h12, rfl, rfl⟩ | ⟨ids, Vs, mi, mo, r, h1, h2, h3, h4, h5, h6, h7, h8, h9, h10, rfl, rfl⟩ | ⟨kp, ids, Vs, mi, mo, r, h1, h2, h3, h4, h5, h6, h7, h8, h9, h10, h11, h12, h13, rfl, rfl⟩
      · exact rC (jK h ho (.inl hcal) h1.1) hG h hid hd h1 h2 h3 h4 h5 h6
      · exact lift (pR (jK h ho (.inl hcal) h1.1) hG h hd h1 h2 h3 h4 h6 h7 h8 h9 h10)
      · exact lift (pL (jK h ho (.inl hcal) h1.1) hG h hd h1 h4 h5 h6 h7 h8 h9 h10 h11 h12)
      · exact pK (jK h ho (.inl hcal) h1.1) hG h hid hd h1 h2 h3 h4 h6 h7 h8 h9 h10
      · exact pJ (jK h ho (.inl hcal) h1.1) hG h hid hd h1 h2 h3 h4 h5 h6 h9 h10 h11 h12 h13
    · rename_i t hcal
      split at hs
      · rename_i f hev
        have hv := h.ev (.tmp t)
        rw [hev] at hv
        rcases hs with ⟨Vs, mo, r, h1, h2, h3, h4, h5, h6, rfl, rfl⟩ | ⟨ids, Vs, mi, mo, r, h1, h2, h3, h4, h5, h5', h6, h7, h8, h9, h10, rfl, rfl⟩ | ⟨i, idx, off, n, n', Vs, e, e', sz, s, es, xs, p, ys, ys', r, h1, h2, h3, h4, h5, h6, h7, h8, h9, h10, h11, h12, rfl, rfl⟩ | ⟨ids, Vs, mi, mo, r, h1, h2, h3, h4, h5, h6, h7, h8, h9, h10, rfl, rfl⟩ | ⟨kp, ids, Vs, mi, mo, r, h1, h2, h3, h4, h5, h6, h7, h8, h9, h10, h11, h12, h13, rfl, rfl⟩
        · exact rC (jK h ho (.inr ⟨t, hcal, hv.fn_inv⟩) h1.1) hG h hid hd h1 h2 h3 h4 h5 h6
        · exact lift (pR (jK h ho (.inr ⟨t, hcal, hv.fn_inv⟩) h1.1) hG h hd h1 h2 h3 h4 h6 h7 h8 h9 h10)
        · exact lift (pL (jK h ho (.inr ⟨t, hcal, hv.fn_inv⟩) h1.1) hG h hd h1 h4 h5 h6 h7 h8 h9 h10 h11 h12)
        · exact pK (jK h ho (.inr ⟨t, hcal, hv.fn_inv⟩) h1.1) hG h hid hd h1 h2 h3 h4 h6 h7 h8 h9 h10
        · exact pJ (jK h ho (.inr ⟨t, hcal, hv.fn_inv⟩) h1.1) hG h hid hd h1 h2 h3 h4 h5 h6 h9 h10 h11 h12 h13
      · rename_i f i hev
        rcases hs with ⟨Vs, mo, r, h1, h2, h3, h4, h5, h6, rfl, rfl⟩ | ⟨ids, Vs, mi, mo, r, h1, h2, h3, h4, h5, h5', h6, h7, h8, h9, h10, rfl, rfl⟩ | ⟨i, idx, off, n, n', Vs, e, e', sz, s, es, xs, p, ys, ys', r, h1, h2, h3, h4, h5, h6, h7, h8, h9, h10, h11, h12, rfl, rfl⟩ | ⟨ids, Vs, mi, mo, r, h1, h2, h3, h4, h5, h6, h7, h8, h9, h10, rfl, rfl⟩ | ⟨kp, ids, Vs, mi, mo, r, h1, h2, h3, h4, h5, h6, h7, h8, h9, h10, h11, h12, h13, rfl, rfl⟩
        · exact rC (mR h ho hcal hev h1.1) hG h hid hd h1 h2 h3 h4 h5 h6
        · exact lift (pR (mR h ho hcal hev h1.1) hG h hd h1 h2 h3 h4 h6 h7 h8 h9 h10)
        · exact lift (pL (mR h ho hcal hev h1.1) hG h hd h1 h4 h5 h6 h7 h8 h9 h10 h11 h12)
        · exact pK (mR h ho hcal hev h1.1) hG h hid hd h1 h2 h3 h4 h6 h7 h8 h9 h10
        · exact pJ (mR h ho hcal hev h1.1) hG h hid hd h1 h2 h3 h4 h5 h6 h9 h10 h11 h12 h13
      · exact hs.elim
    · rename_i hcal
      split at hs
      · rename_i t u s x hat har
        split at hs
        · rename_i hb
          have := Nat.eq_of_beq_eq_true hb; subst this
          exact aFL ho hcal hat har hT h hid0 hd hs (fun i len e sz es xs ht he hsl hes hm ha => aDO ho hcal hat har hT h hid0 hd i len e sz es xs ht he hsl hes hm ha)
        · exact hs.elim
      · exact hs.elim
    · exact lift (zJ hT h hd (by rw [ho]; exact hs))
end
end Go.Aw
set_option linter.unusedVariables false
namespace Go.Aw
section
variable {P : Program} {G : Nat → Option Obj} {T : TypeId → Option TI} {ck : Nat → Bool} {w0 : World} {X A0 : Nat → Prop} {N : Nat} {bd : Nat → Prop} {σ : St} {a : Act} {w : World} {A : Nat → Prop} {μ : Nat → Option Loc} {Q : Exit → Act → World → Prop} {ops : Array Oper}
theorem Ext.trans' {hv : List Tmp} {a a1 a2 : Act} {w w1 w2 : World} {A A1 A2 : Nat → Prop} {μ μ1 μ2 : Nat → Option Loc} (h : Ext hv a w A μ a1 w1 A1 μ1) (k : Ext hv a1 w1 A1 μ1 a2 w2 A2 μ2) : Ext hv a w A μ a2 w2 A2 μ2 :=
  (h.trans k).mono (fun t ht => (List.mem_append.1 ht).elim (fun h => h) (fun h => h))
theorem aKX (v : V) (k : V → Prop) : frc v k = k v := by cases v <;> rfl
theorem zN {base i : Nat} {o : Oper} {K : St → Prop} (h : yD P G T ck base i ops o K σ) :
    (∃ v e, lG P G T ck (sid base i) o.op σ.ev σ.mem (Is v e) ∧ K ((σ.put o.dst v).eff e) ∧ (o.guard = none ∨ ∃ j want t, o.guard = some (j, want) ∧ (ops[j]?).bind (·.dst) = some t ∧ σ.env t = .bool want)) ∨
    (K (σ.put o.dst (.tup [])) ∧ ∃ j want t, o.guard = some (j, want) ∧ (ops[j]?).bind (·.dst) = some t ∧ (σ.env t = .bool (!want) ∨ σ.env t = .tup [])) := by
  unfold yD at h
  simp only [aKX] at h
  split at h
  · rename_i hg
    obtain ⟨v, e, h1, h2⟩ := uK h
    exact .inl ⟨v, e, h1, h2, .inl hg⟩
  · rename_i j want hg
    split at h
    · exact h.elim
    · rename_i t ht
      split at h
      · rename_i b hb
        have key : Br b (lG P G T ck (sid base i) o.op σ.ev σ.mem fun v e => K ((σ.put o.dst v).eff e)) (K (σ.put o.dst (.tup []))) ∧ want = true ∨ Br b (K (σ.put o.dst (.tup []))) (lG P G T ck (sid base i) o.op σ.ev σ.mem fun v e => K ((σ.put o.dst v).eff e)) ∧ want = false := by
          unfold Br2 at h
          cases want
          · exact .inr ⟨h, rfl⟩
          · exact .inl ⟨h, rfl⟩
        rcases key with ⟨h, rfl⟩ | ⟨h, rfl⟩
        · cases b with
          | true =>
            obtain ⟨v, e, h1, h2⟩ := uK (h.out.1 rfl)
            exact .inl ⟨v, e, h1, h2, .inr ⟨j, true, t, hg, ht, hb⟩⟩
          | false => exact .inr ⟨h.out.2 rfl, j, true, t, hg, ht, .inl hb⟩
        · cases b with
          | true => exact .inr ⟨h.out.1 rfl, j, false, t, hg, ht, .inl hb⟩
          | false =>
            obtain ⟨v, e, h1, h2⟩ := uK (h.out.2 rfl)
            exact .inl ⟨v, e, h1, h2, .inr ⟨j, false, t, hg, ht, hb⟩⟩
      · rename_i ht0
        exact .inr ⟨h, j, want, t, hg, ht, .inr ht0⟩
      · exact h.elim
theorem Ok.yld (h : Ok w0 X A0 N bd σ a w A μ) {j : Nat} {t : Tmp} (ht : (ops[j]?).bind (·.dst) = some t) {b : Bool} (hb : σ.env t = .bool b) : Go.yielded ops a.tmps j = some b := by
  have := h.env t
  rw [hb] at this
  have := this.bool_inv
  unfold Go.yielded
  rw [ht]
  simp only [Option.bind_some]
  cases hg : a.tmps[t]? with
  | none => simp [Array.getD_eq_getD_getElem?, hg, undef] at this
  | some v => simp [Array.getD_eq_getD_getElem?, hg] at this; subst this; rfl
theorem Ok.yld0 (h : Ok w0 X A0 N bd σ a w A μ) {j : Nat} {t : Tmp} (ht : (ops[j]?).bind (·.dst) = some t) (hb : σ.env t = .tup []) : Go.yielded ops a.tmps j = none := by
  have := h.env t
  rw [hb] at this
  have := this.tup0_inv
  unfold Go.yielded
  rw [ht]
  simp only [Option.bind_some]
  cases hg : a.tmps[t]? with
  | none => rfl
  | some v => simp [Array.getD_eq_getD_getElem?, hg] at this; subst this; rfl
theorem aEM {base i : Nat} {o : Oper} {K : St → Prop} (hT : TOk P T) (hG : GX G w0 X A0) (h : Ok w0 X A0 N bd σ a w A μ) (hid : ∀ m, m < 8 → μ (sid base i + m) = none) (ho : ops[i]? = some o) (hd : ∀ n, o.dst = some n → n < N) (hs : yD P G T ck base i ops o K σ) :
    wpOp P ops Q i (fun a' w' => ∃ σ', K σ' ∧ iJ w0 X A0 N (fun j => bd j ∨ (sid base i ≤ j ∧ j < sid base i + 8)) σ' o.dst.toList a w A μ a' w') a w := by
  unfold wpOp
  rw [ho]
  simp only
  rcases zN hs with ⟨v, e, h1, h2, h3⟩ | ⟨h1, j, want, t, h2, h3, h4⟩
  · have hw : Region.wanted o (yielded ops a.tmps) = true := by
      unfold Region.wanted
      rcases h3 with hg | ⟨j, want, t, hg, ht, hb⟩
      · rw [hg]
      · rw [hg]; simp only; rw [h.yld ht hb]; simp
    rw [if_pos hw]
    exact .inl (Oper.wp_mono (fun a' w' hn => ⟨_, h2, hn⟩) (vC hT hG h hid hd h1))
  · have hw : Region.wanted o (yielded ops a.tmps) = false := by
      unfold Region.wanted
      rw [h2]; simp only
      rcases h4 with hb | hb
      · rw [h.yld h3 hb]; cases want <;> rfl
      · rw [h.yld0 h3 hb]; rfl
    rw [if_neg (by rw [hw]; simp)]
    obtain ⟨g1, g2⟩ := h.val (d := o.dst) (v := .tup []) (cv := undef) (.tup [] #[] rfl (fun i x c h => by simp at h)) hd
    exact ⟨_, h1, A, μ, g1.bdm (fun _ h => .inl h), g2⟩
theorem aCW {base : Nat} {ck2 : Nat → Nat → Bool} {K : St → Prop} {hv : List Tmp} (hT : TOk P T) (hG : GX G w0 X A0) (hdst : ∀ (i : Nat) (o : Oper), ops[i]? = some o → ∀ n, o.dst = some n → n < N ∧ n ∈ hv) :
    ∀ (k i : Nat) (σ : St) (a : Act) (w : World) (A : Nat → Prop) (μ : Nat → Option Loc), i + k = ops.size → Ok w0 X A0 N (fun j => j < base + 8 * i) σ a w A μ → rgo P G T ck2 base ops i (ops.toList.drop i) K σ →
      wpOps P ops (fun e a' w' => e = .normal ∧ ∃ σ', K σ' ∧ iJ w0 X A0 N (fun j => j < base + 8 * ops.size) σ' hv a w A μ a' w') (List.range' i k) a w
  | 0, i, σ, a, w, A, μ, hk, h, hr => by
    have hd : ops.toList.drop i = [] := List.drop_eq_nil_of_le (by simp; omega)
    rw [hd] at hr
    have : i = ops.size := by omega
    subst this
    exact ⟨rfl, σ, hr, A, μ, h, Ext.refl _ _ _ _ _⟩
  | k + 1, i, σ, a, w, A, μ, hk, h, hr => by
    have hlt : i < ops.size := by omega
    have ho : ops[i]? = some ops[i] := Array.getElem?_eq_getElem hlt
    have hd : ops.toList.drop i = ops[i] :: ops.toList.drop (i + 1) := by
      rw [List.drop_eq_getElem_cons (by simpa using hlt)]; rfl
    rw [hd] at hr
    rw [List.range'_succ, wpOps_cons]
    have hid : ∀ m, m < 8 → μ (sid base i + m) = none := fun m hm => by
      cases hc : μ (sid base i + m) with
      | none => rfl
      | some l => have := h.bd (sid base i + m) (by rw [hc]; simp); simp [sid] at this; omega
    have hm : ∀ (Q1 Q2 : Exit → Act → World → Prop), (∀ e a w, Q1 e a w → Q2 e a w) → ∀ l a w, wpOps P ops Q1 l a w → wpOps P ops Q2 l a w := fun Q1 Q2 hq l => by
      induction l with
      | nil => exact fun a w h => hq _ _ _ h
      | cons i rest ih =>
        intro a w hh
        simp only [wpOps] at hh ⊢
        cases ho : ops[i]? with
        | none => rw [ho] at hh; exact ih _ _ hh
        | some o =>
          rw [ho] at hh
          simp only at hh ⊢
          by_cases hw : Region.wanted o (Go.yielded ops a.tmps) = true
          · rw [if_pos hw] at hh ⊢
            rcases hh with hh | ⟨h1, a0, w0, h2⟩
            · left
              unfold Oper.wp at *
              generalize (execOp a.eval o).run P w = r at *
              cases r with
              | ok n w' =>
                cases n <;> simp only [Oper.upon] at hh ⊢ <;> first
                  | exact ih _ _ hh
                  | exact Calls.mono hh (fun e w'' he => by
                      cases e with
                      | returned v => exact ih _ _ he
                      | panicked c => exact hq _ _ _ he
                      | outgrown => obtain ⟨a0, w0, h0⟩ := he; exact ⟨a0, w0, hq _ _ _ h0⟩)
                  | exact Rows.mono hh (fun _ _ he => ih _ _ he)
                  | exact hh
              | halt x w' => cases x <;> simp only [Oper.upon] at hh ⊢ <;> first | exact hq _ _ _ hh | exact hh
            · exact .inr ⟨h1, a0, w0, hq _ _ _ h2⟩
          · rw [if_neg hw] at hh ⊢
            exact ih _ _ hh
    refine wpOp_mono (fun a' w' ⟨σ', hk', A', μ', h', hx⟩ => ?_) (aEM hT hG h hid ho (fun n hn => (hdst i _ ho n hn).1) hr)
    have hx' : Ext hv a w A μ a' w' A' μ' := hx.mono (fun t ht => by
      cases hdd : ops[i].dst with
      | none => rw [hdd] at ht; simp at ht
      | some n => rw [hdd] at ht; simp at ht; subst ht; exact (hdst i _ ho t hdd).2)
    have h2 : Ok w0 X A0 N (fun j => j < base + 8 * (i + 1)) σ' a' w' A' μ' := h'.bdm (fun j hj => by
      simp only [sid] at hj; omega)
    have := aCW hT hG hdst k (i + 1) σ' a' w' A' μ' (by omega) h2 hk'
    refine hm _ _ (fun e a2 w2 ⟨he, σ2, hk2, A2, μ2, h3, hx2⟩ => ?_) _ _ _ this
    exact ⟨he, σ2, hk2, A2, μ2, h3, hx'.trans' hx2⟩
end
end Go.Aw
set_option linter.unusedVariables false
namespace Go.Aw
def mM (ck : Nat → Bool) (o : Op) : Bool := sC o || (ck 1000000007 && !dV o)
theorem sP {ck : Nat → Bool} {o : Op} (h : dV o = true) : mM ck o = false := by
  unfold mM
  rw [h]
  have : sC o = false := by
    cases o <;> first | rfl | cases h | skip
    rename_i c
    cases hc : c.callee with
    | value f => simp [dV, hc] at h
    | invoke r n => simp [dV, hc] at h
    | builtin b => cases b <;> simp_all [dV, sC]
  rw [this]; simp
section
variable {P : Program} {G : Nat → Option Obj} {T : TypeId → Option TI} {ck : Nat → Bool} {ev ev' : Operand → V} {m m' : Nat → Option Ob} {id : Nat}
theorem ckm (hm : ∀ j, ck j = true → m j = m' j) {α : Type} (i : Nat) (F : Option Ob → α) (d : α) : (match ck i, m i with | true, ob => F ob | false, _ => d) = (match ck i, m' i with | true, ob => F ob | false, _ => d) := by
  cases h : ck i with
  | true => rw [hm i h]
  | false => rfl
theorem aDK {n : Nat} {agg : Bool} {p : V} {k : V → Prop} (hm : ∀ j, ck j = true → m j = m' j) (h : rdP ck m n agg p k) : rdP ck m' n agg p k := by
  unfold rdP at *
  split at h
  · rename_i i off
    cases hc : ck i with
    | true => rw [← hm i hc]; rw [hc] at h; exact h
    | false => rw [hc] at h; exact h.elim
  · rename_i i idx off
    cases hc : ck i with
    | true => rw [← hm i hc]; rw [hc] at h; exact h
    | false => rw [hc] at h; exact h.elim
  · rename_i i idx off s j o
    cases hc : ck i with
    | true => rw [← hm i hc]; rw [hc] at h; exact h
    | false => rw [hc] at h; exact h.elim
  · exact h
  · exact h
theorem rP : ∀ (l : List (Nat × Operand)) (plc : List (Nat × Nat)) (cs : List V), (∀ x ∈ l, ev x.2 = ev' x.2) → pI ev plc cs l = pI ev' plc cs l
  | [], plc, cs, _ => rfl
  | (i, x) :: l, plc, cs, h => by
    have h1 : ev x = ev' x := h (i, x) (List.mem_cons_self ..)
    have ih := fun cs => rP l plc cs (fun y hy => h y (List.mem_cons_of_mem _ hy))
    simp only [pI, h1, ih]
theorem tZ : ∀ (l : List (Nat × Operand)) (sz n : Nat), (∀ x ∈ l, ev x.2 = ev' x.2) → rows ev sz n l = rows ev' sz n l
  | [], sz, n, _ => rfl
  | (i, x) :: l, sz, n, h => by
    have h1 : ev x = ev' x := h (i, x) (List.mem_cons_self ..)
    have ih := tZ l sz (n + 1) (fun y hy => h y (List.mem_cons_of_mem _ hy))
    simp only [rows, h1, ih]
theorem xV (hm : ∀ j, ck j = true → m j = m' j) {u x : V} (h : Av ck m u x) : Av ck m' u x := by
  unfold Av at *
  cases u <;> try exact h
  · rename_i i len
    simp only at h ⊢
    cases hc : ck i with
    | true => rw [← hm i hc]; rw [hc] at h; exact h
    | false => rw [hc] at h; exact h.elim
  · rename_i i idx off q
    simp only at h ⊢
    cases hc : ck i with
    | true => rw [← hm i hc]; rw [hc] at h; exact h
    | false => rw [hc] at h; exact h
theorem vH (hm : ∀ j, ck j = true → m j = m' j) : ∀ (us xs : List V), AvL ck m us xs → AvL ck m' us xs
  | [], xs, h => h
  | u :: us, xs, ⟨x, ys, h1, h2, h3⟩ => ⟨x, ys, h1, xV hm h2, vH hm us ys h3⟩
theorem aDH (hm : ∀ j, ck j = true → m j = m' j) {u x : V} (h : AvA ck m u x) : AvA ck m' u x := by
  unfold AvA at *
  split at h
  · obtain ⟨xs, h1, h2⟩ := h; exact ⟨xs, h1, vH hm _ _ h2⟩
  · exact xV hm h
theorem tA (hm : ∀ j, ck j = true → m j = m' j) : ∀ (us xs : List V), sD ck m us xs → sD ck m' us xs
  | [], xs, h => h
  | u :: us, xs, ⟨x, ys, h1, h2, h3⟩ => ⟨x, ys, h1, aDH hm h2, tA hm us ys h3⟩
theorem vB (hm : ∀ j, ck j = true → m j = m' j) {size : Nat} {x : V} {K : List (List V) → Nat → Prop} (h : sE ck m size x K) : sE ck m' size x K := by
  unfold sE at *
  cases x <;> try exact h
  rename_i j len
  simp only at h ⊢
  cases hc : ck j with
  | true => rw [← hm j hc]; rw [hc] at h; exact h
  | false => rw [hc] at h; exact h.elim
theorem aEG (hm : ∀ j, ck j = true → m j = m' j) {t : TypeId} {s x : Operand} {k : V → Eff → Prop} (hs : ev s = ev' s) (hx : ev x = ev' x) (h : uT T ck id ev m t s x k) : uT T ck id ev' m' t s x k := by
  unfold uT at *
  rw [← hs, ← hx]
  cases ht : T t with
  | none => rw [ht] at h; exact h.elim
  | some ti =>
    rw [ht] at h
    simp only at h ⊢
    cases he : T ti.elem with
    | none => rw [he] at h; exact h.elim
    | some ei =>
      rw [he] at h
      cases hsl : ti.sl with
      | false => rw [hsl] at h; exact h.elim
      | true =>
        rw [hsl] at h
        simp only at h ⊢
        cases hes : ev s <;> rw [hes] at h <;> try exact h.elim
        · exact vB hm h
        · rename_i i len
          simp only at h ⊢
          cases hc : ck i with
          | false => rw [hc] at h; exact h.elim
          | true =>
            rw [← hm i hc]; rw [hc] at h
            cases hmi : m i with
            | none => rw [hmi] at h; exact h.elim
            | some ob =>
              rw [hmi] at h
              cases ob with
              | box cs => exact h.elim
              | deep e sz es xs =>
                simp only at h ⊢
                unfold wC at h ⊢
                generalize ev x = vx at h ⊢
                cases vx <;> try exact h.elim
                rename_i j n0
                simp only at h ⊢
                cases hcj : ck j with
                | false => rw [hcj] at h; exact h.elim
                | true => rw [← hm j hcj]; rw [hcj] at h; exact h
              | dirt e sz es xs idx row => exact h.elim
              | tail e sz es xs k => exact h.elim
              | mp es => exact h.elim
              | arr e sz xs =>
                simp only at h ⊢
                split at h
                · exact vB hm h
                · exact h.elim
theorem pP (hm : ∀ j, ck j = true → m j = m' j) {f : FuncId} {us us' : List V} {k : V → Eff → Prop} (ha : us = us') (h : jW P G ck id us m f k) : jW P G ck id us' m' f k := by
  rcases h with ⟨Vs, mo, r, h1, h2, h3, h4⟩ | ⟨ids, Vs, mi, mo, r, h1, h2, h3, h4, h5, h5', h6, h7, h8, h9⟩ | ⟨i, idx, off, n, n', Vs, e, e', sz, s, es, xs, p, ys, ys', r, h1, h2, h3, h4, h5, h6, h7, h8, h9⟩ | ⟨ids, Vs, mi, mo, r, h1, h2, h3, h4, h5, h6, h7, h8, h9⟩ | ⟨kp, ids, Vs, mi, mo, r, h1, h2, h3, h4, h5, h6, h7, h8, h9, h10, h11, h12⟩
  · exact .inl ⟨Vs, mo, r, h1, by rw [← ha]; exact tA hm _ _ h2, by rw [← ha]; exact h3, h4⟩
  · exact .inr (.inl ⟨ids, Vs, mi, mo, r, h1, h2, h3, h4, h5, h5', fun n i hn => by rw [← hm i (List.all_eq_true.1 h5 i (List.mem_of_getElem? hn))]; exact h6 n i hn, h7, by rw [← ha]; exact h8, h9⟩)
  · exact .inr (.inr (.inl ⟨i, idx, off, n, n', Vs, e, e', sz, s, es, xs, p, ys, ys', r, h1, h2, h3, by rw [← hm i h2]; exact h4, h5, h6, h7, by rw [← ha]; exact h8, h9⟩))
  · exact .inr (.inr (.inr (.inl ⟨ids, Vs, mi, mo, r, h1, h2, h3, h4, h5, fun n i hn => (h6 n i hn).imp (fun ⟨a, b, c⟩ => ⟨a, b, by rw [← hm i b]; exact c⟩) (fun h => h), h7, by rw [← ha]; exact h8, h9⟩)))
  · exact .inr (.inr (.inr (.inr ⟨kp, ids, Vs, mi, mo, r, h1, h2, h3, h4, h5, h6, h7, h8, fun n i hn => by rw [← hm i (List.all_eq_true.1 h7 i (List.mem_of_getElem? hn))]; exact h9 n i hn, h10, by rw [← ha]; exact h11, h12⟩)))
theorem oX {o : Op} (he : ∀ x ∈ o.operands.toList, ev x = ev' x) (hm : dV o = true ∨ ∀ j, ck j = true → m j = m' j) {k : V → Prop} (h : opv T ck ev m o k) : opv T ck ev' m' o k := by
  cases o <;> simp only [opv] at h ⊢ <;> try exact h
  case move x => rw [← he x (by simp [Op.operands])]; exact h
  case assign x => rw [← he x (by simp [Op.operands])]; exact h
  case makeFunc fn first cap =>
    have hcap : ∀ y, cap.toList = [y] → ev y = ev' y := fun y hy => he y (by
      simp only [Op.operands, Array.toList_append]
      exact List.mem_append_right _ (by rw [hy]; simp))
    cases fn <;> try exact h
    generalize first.toList = l1 at h ⊢
    generalize hc : cap.toList = l2 at h ⊢
    rcases l1 with _ | ⟨_, _⟩ <;> rcases l2 with _ | ⟨y, _ | ⟨_, _⟩⟩ <;> try exact h
    simp only at h ⊢
    rw [← hcap y hc]; exact h
  case makeInterface t x => rw [← he x (by simp [Op.operands])]; exact h
  case pick c a b => rw [← he c (by simp [Op.operands]), ← he a (by simp [Op.operands]), ← he b (by simp [Op.operands])]; exact h
  case build t parts =>
    have e1 : ∀ cs plc, pI ev plc cs parts.toList = pI ev' plc cs parts.toList := fun cs plc => rP _ _ _ (fun x hx => he x.2 (by simp [Op.operands]; exact ⟨x.1, by simpa using hx⟩))
    simp only [← e1]; exact h
  case load t x =>
    rw [← he x (by simp [Op.operands])]
    split at h
    · rename_i ti ht; exact aDK (hm.resolve_left (by simp [dV])) h
    · exact h.elim
  case nilCheck x => rw [← he x (by simp [Op.operands])]; exact h
  case binOp op t x y ty => rw [← he x (by simp [Op.operands]), ← he y (by simp [Op.operands])]; exact h
  case unOp op t x => rw [← he x (by simp [Op.operands])]; exact h
  case convert s d x =>
    rw [← he x (by simp [Op.operands])]
    have hm := hm.resolve_left (by simp [dV])
    cases hs : T s with
    | none => rw [hs] at h; exact h.elim
    | some si =>
      cases ht : T d with
      | none => rw [hs, ht] at h; exact h.elim
      | some ti =>
        rw [hs, ht] at h; simp only at h ⊢
        cases hi : ti.int with
        | some kd =>
          rw [hi] at h
          cases hx : ev x <;> rw [hx] at h <;> exact h
        | none =>
          rw [hi] at h
          cases hx : ev x <;> rw [hx] at h <;> try exact h
          rename_i i len
          simp only at h ⊢
          cases hc : ck i with
          | true => rw [← hm i hc]; rw [hc] at h; exact h
          | false =>
            rw [hc] at h
            exfalso
            revert h
            cases ti.str <;> try exact fun h => h
            simp only
            cases si.sl <;> try exact fun h => h
            cases T si.elem <;> exact fun h => h
  case slice t x lo hi mx =>
    rw [← he x (by simp [Op.operands])]
    have e : ∀ (sz n : Nat) (xs : List (List V)) (k : V → Prop), oA ev lo hi sz n xs k → oA ev' lo hi sz n xs k := fun sz n xs k h => by
      unfold oA at *
      cases lo with
      | none => cases hi with
        | none => exact h
        | some hh => simp only at h ⊢; rw [← he hh (by simp [Op.operands])]; exact h
      | some ll => cases hi with
        | none => simp only at h ⊢; rw [← he ll (by simp [Op.operands])]; exact h
        | some hh => simp only at h ⊢; rw [← he ll (by simp [Op.operands]), ← he hh (by simp [Op.operands])]; exact h
    have e' : ∀ (s : ByteArray) (k : V → Prop), nQ ev lo hi s k → nQ ev' lo hi s k := fun s k h => by
      unfold nQ at *
      cases lo with
      | none => cases hi with
        | none => exact h
        | some hh => simp only at h ⊢; rw [← he hh (by simp [Op.operands])]; exact h
      | some ll => cases hi with
        | none => simp only at h ⊢; rw [← he ll (by simp [Op.operands])]; exact h
        | some hh => simp only at h ⊢; rw [← he ll (by simp [Op.operands]), ← he hh (by simp [Op.operands])]; exact h
    cases ht : T t with
    | none => rw [ht] at h; exact h.elim
    | some ti =>
      rw [ht] at h
      cases mx with
      | some _ => exact h.elim
      | none =>
        simp only at h ⊢
        unfold rL at h ⊢
        generalize ev x = v at h ⊢
        generalize T ti.elem = oe at h ⊢
        generalize ti.str = b1 at h ⊢
        generalize ti.sl = b2 at h ⊢
        cases v <;> try exact h.elim
        · cases b1
          · exact h.elim
          · exact e' _ _ h
        · rename_i sz n xs
          cases oe <;> cases b2 <;> try exact h.elim
          rename_i ei
          simp only at h ⊢
          generalize Nat.beq sz ei.size = b3 at h ⊢
          cases b3
          · exact h.elim
          · exact e _ _ _ _ h
  case fieldAddr t x f => rw [← he x (by simp [Op.operands])]; exact h
  case field t x f => rw [← he x (by simp [Op.operands])]; exact h
  case indexAddr t x ix =>
    rw [← he x (by simp [Op.operands]), ← he ix (by simp [Op.operands])]
    have hm := hm.resolve_left (by simp [dV])
    cases ht : T t with
    | none => rw [ht] at h; exact h.elim
    | some ti =>
      rw [ht] at h; simp only at h ⊢
      cases hte : T ti.elem with
      | none => rw [hte] at h; exact h.elim
      | some ei =>
        rw [hte] at h
        cases hsl : ti.sl with
        | false => rw [hsl] at h; exact h
        | true =>
          rw [hsl] at h; simp only at h ⊢
          cases hix : ev ix <;> rw [hix] at h <;> try exact h.elim
          simp only at h ⊢
          cases hx : ev x <;> rw [hx] at h <;> try exact h.elim
          · exact h
          · rename_i i len
            simp only at h ⊢
            cases hc : ck i with
            | true => rw [← hm i hc]; rw [hc] at h; exact h
            | false => rw [hc] at h; exact h.elim
          · rename_i i idx off len
            simp only at h ⊢
            cases hc : ck i with
            | true => rw [← hm i hc]; rw [hc] at h; exact h
            | false => rw [hc] at h; exact h.elim
  case index t x ix => rw [← he x (by simp [Op.operands]), ← he ix (by simp [Op.operands])]; exact h
  case extract x i => rw [← he x (by simp [Op.operands])]; exact h
  case call c =>
    cases hcal : c.callee with
    | value f => rw [hcal] at h; exact h.elim
    | invoke r n => rw [hcal] at h; exact h.elim
    | builtin b =>
      rw [hcal] at h
      cases b <;> try exact h.elim
      · simp only at h ⊢
        split at h
        · rename_i t x hty hx
          rw [← he x (by simp [Op.operands, Call.operands, hcal, hx])]
          exact h
        · exact h.elim
      all_goals
        simp only at h ⊢
        split at h
        · rename_i x y hxy
          rw [← he x (by simp [Op.operands, Call.operands, hcal, hxy]), ← he y (by simp [Op.operands, Call.operands, hcal, hxy])]
          exact h
        · exact h.elim
theorem yV {o : Op} (he : ∀ x ∈ o.operands.toList, ev x = ev' x) (hm : dV o = true ∨ ∀ j, ck j = true → m j = m' j) {k : V → Eff → Prop} (h : lG P G T ck id o ev m k) : lG P G T ck id o ev' m' k := by
  cases o <;> simp only [lG] at h ⊢ <;> try exact oX he hm h
  case box t x => rw [← he x (by simp [Op.operands])]; exact h
  case alloc t => exact h
  case makeMap t r => exact h
  case insert t x y z =>
    have hm := hm.resolve_left (by simp [dV])
    rw [← he x (by simp [Op.operands]), ← he y (by simp [Op.operands]), ← he z (by simp [Op.operands])]
    split at h
    · rename_i i s n hx hy hz
      cases hc : ck i with
      | true => rw [← hm i hc]; rw [hc] at h; exact h
      | false => rw [hc] at h; exact h.elim
    · exact h.elim
  case lookup t x y c =>
    have hm2 := hm.resolve_left (by simp [dV])
    rw [← he x (by simp [Op.operands]), ← he y (by simp [Op.operands])]
    split at h
    · rename_i i s hx hy
      cases hc : ck i with
      | true => rw [← hm2 i hc]; rw [hc] at h; exact h
      | false => rw [hc] at h; exact h.elim
    · exact h.elim
  case buildSlice t len parts =>
    have e1 : ∀ sz, rows ev sz 0 parts.toList = rows ev' sz 0 parts.toList := fun sz => tZ _ _ _ (fun x hx => he x.2 (by simp [Op.operands]; exact ⟨x.1, by simpa using hx⟩))
    have e2 : ∀ ti ei, bsD ev id ti ei len parts.toList = bsD ev' id ti ei len parts.toList := fun ti ei => by
      unfold bsD
      split
      · rename_i j x hpt
        have : ev x = ev' x := he x (by simp [Op.operands]; exact ⟨j, by
          have : (j, x) ∈ parts.toList := by rw [hpt]; simp
          simpa using this⟩)
        rw [this]
      · rfl
    simp only [← e1, ← e2]; exact h
  case makeSlice t lo co => rw [← he lo (by simp [Op.operands]), ← he co (by simp [Op.operands])]; exact h
  case store t a x =>
    have hm := hm.resolve_left (by simp [dV])
    rw [← he a (by simp [Op.operands]), ← he x (by simp [Op.operands])]
    cases ht : T t with
    | none => rw [ht] at h; exact h.elim
    | some ti =>
      rw [ht] at h; simp only at h ⊢
      cases hb : Nat.beq (ev x).cells.length ti.size with
      | false => rw [hb] at h; exact h.elim
      | true =>
        rw [hb] at h; simp only at h ⊢
        cases ha : ev a <;> rw [ha] at h <;> try exact h.elim
        · rename_i i off
          simp only at h ⊢
          cases hc : ck i with
          | true => rw [← hm i hc]; rw [hc] at h; exact h
          | false => rw [hc] at h; exact h.elim
        · rename_i i idx off
          simp only at h ⊢
          cases hc : ck i with
          | true => rw [← hm i hc]; rw [hc] at h; exact h
          | false => rw [hc] at h; exact h.elim
        · rename_i i idx off s j o
          simp only at h ⊢
          cases hc : ck i with
          | true => rw [← hm i hc]; rw [hc] at h; exact h
          | false => rw [hc] at h; exact h.elim
  case call c =>
    have hargs : c.args.toList.map ev = c.args.toList.map ev' := List.map_congr_left (fun x hx => he x (by simp only [Op.operands, Call.operands, Array.toList_append]; exact List.mem_append_right _ hx))
    cases hcal : c.callee with
    | value f =>
      rw [hcal] at h
      have hm := hm.resolve_left (by simp [dV, hcal])
      cases f <;> try exact oX he (.inr hm) (by simp only [opv, hcal] at h ⊢)
      · rename_i t
        simp only at h ⊢
        rw [← he (.tmp t) (by simp [Op.operands, Call.operands, hcal])]
        split at h
        · exact pP hm hargs h
        · exact pP hm (by rw [hargs]) h
        · exact h.elim
      · exact pP hm hargs h
    | invoke r n => rw [hcal] at h; exact oX he hm h
    | builtin b =>
      rw [hcal] at h
      cases b <;> try exact oX he hm h
      have hm := hm.resolve_left (by simp [dV, hcal])
      simp only at h ⊢
      split at h
      · rename_i t u s x hty hx
        split at h
        · exact aEG hm (he s (by simp [Op.operands, Call.operands, hcal, hx])) (he x (by simp [Op.operands, Call.operands, hcal, hx])) h
        · exact h.elim
      · exact h.elim
theorem aAX {o : Op} {v : V} {e : Eff} (h : lG P G T ck id o ev m (Is v e)) : ∀ j, e j ≠ none → (id ≤ j ∧ j < id + 8) ∨ (ck j = true ∧ mM ck o = true) := by
  have setid : ∀ (i : Nat) (ob : Ob) (j : Nat), Eff.set i ob j ≠ none → j = i := fun i ob j hj => by
    rw [Eff.set_eq] at hj; split at hj
    · assumption
    · exact absurd rfl hj
  intro j hj
  have no : ∀ {o' : Op}, opv T ck ev m o' (fun v' => Is v e v' Eff.no) → False := fun {o'} h => by
    obtain ⟨v', _, _, h2⟩ := aAS h
    rw [← h2] at hj; exact hj rfl
  have callk : ∀ {us : List V} {f : FuncId} {o' : Op}, dV o' = false → jW P G ck id us m f (Is v e) → (id ≤ j ∧ j < id + 8) ∨ (ck j = true ∧ mM ck o' = true) := fun {us f o'} hf h => by
    rcases h with ⟨Vs, mo, r, h1, h2, h3, h4, h5, h6, _, rfl⟩ | ⟨ids, Vs, mi, mo, r, h1, h2, h3, h4, h5, h5', _, _, _, _, _, _, rfl⟩ | ⟨i, idx, off, n, n', Vs, e', e'', sz, s, es, xs, p, ys, ys', r, _, h2, h3, _, _, _, _, _, _, _, _, _, _, rfl⟩ | ⟨ids, Vs, mi, mo, r, _, _, _, _, h5, h6, _, _, _, _, _, rfl⟩ | ⟨kp, ids, Vs, mi, mo, r, _, _, hk1, hk2, h5, _, h6, h7, _, _, _, _, _, _, rfl⟩
    · rw [nE] at hj; split at hj
      · exact .inl (by omega)
      · exact absurd rfl hj
    · refine .inr ⟨?_, by simp [mM, h5', hf]⟩
      rcases pF ids mo j with ⟨n, ob, q1, _⟩ | ⟨q, _⟩
      · exact List.all_eq_true.1 h5 j (List.mem_of_getElem? q1)
      · exact absurd q hj
    · have := setid _ _ _ hj; subst this; exact .inr ⟨h2, by simp [mM, h3, hf]⟩
    · rcases pF ids mo j with ⟨n, ob, q1, _⟩ | ⟨q, _⟩
      · rcases h6 n j q1 with ⟨_, q2, _⟩ | ⟨_, q2, rfl⟩
        · exact .inr ⟨q2, by simp [mM, h5, hf]⟩
        · exact .inl (by omega)
      · exact absurd q hj
    · rcases aFT hj with q | q
      · exact .inr ⟨List.all_eq_true.1 h6 j q, by simp [mM, h7, hf]⟩
      · rw [List.length_map] at q; exact .inl (by omega)
  cases o <;> simp only [lG] at h <;> try exact (no h).elim
  case box t x =>
    split at h
    · split at h
      · obtain ⟨_, rfl⟩ := h; have := setid _ _ _ hj; exact .inl (by omega)
      · exact h.elim
    · exact h.elim
  case makeMap t r =>
    split at h
    · obtain ⟨_, rfl⟩ := h; have := setid _ _ _ hj; exact .inl (by omega)
    · exact h.elim
  case insert t x y z =>
    split at h
    · rename_i i s n hx hy hz
      split at h
      · rename_i es hc hm
        obtain ⟨_, _, _, rfl⟩ := h; have := setid _ _ _ hj; subst this; exact .inr ⟨hc, rfl⟩
      · exact h.elim
    · exact h.elim
  case lookup t x y c =>
    split at h
    · split at h
      · obtain ⟨_, _, rfl⟩ := h; exact absurd rfl hj
      · exact h.elim
    · exact h.elim
  case alloc t =>
    split at h
    · obtain ⟨_, rfl⟩ := h; have := setid _ _ _ hj; exact .inl (by omega)
    · exact h.elim
  case buildSlice t len parts =>
    split at h
    · split at h
      · split at h
        · split at h
          · rcases h with ⟨_, rfl⟩ | ⟨_, rfl⟩ | ⟨_, es, _, rfl⟩
            · have := setid _ _ _ hj; exact .inl (by omega)
            · exact absurd rfl hj
            · have := setid _ _ _ hj; exact .inl (by omega)
          · exact h.elim
        · unfold bsD at h
          split at h
          · split at h
            · obtain ⟨es, _, rfl⟩ := h; have := setid _ _ _ hj; exact .inl (by omega)
            · exact h.elim
          · exact h.elim
      · exact h.elim
    · exact h.elim
  case makeSlice t lo co =>
    split at h
    · split at h
      · split at h
        · split at h
          · split at h
            · obtain ⟨_, h⟩ := h.out
              obtain ⟨_, h⟩ := h.out
              obtain ⟨_, h⟩ := h.out
              obtain ⟨_, rfl⟩ := h; have := setid _ _ _ hj; exact .inl (by omega)
            · obtain ⟨_, h⟩ := h.out
              obtain ⟨_, h⟩ := h.out
              obtain ⟨_, h⟩ := h.out
              rcases h with ⟨_, rfl⟩ | ⟨es, _, rfl⟩
              · have := setid _ _ _ hj; exact .inl (by omega)
              · have := setid _ _ _ hj; exact .inl (by omega)
          · exact h.elim
        · exact h.elim
      · exact h.elim
    · exact h.elim
  case store t a x =>
    split at h
    · split at h
      · split at h
        · split at h
          · rename_i hck _ _
            split at h
            · obtain ⟨_, rfl⟩ := h; have := setid _ _ _ hj; subst this; exact .inr ⟨hck, rfl⟩
            · exact h.elim
          · exact h.elim
        · split at h
          · rename_i hck _ _
            obtain ⟨p, _, h⟩ := h.out
            split at h
            · obtain ⟨_, rfl⟩ := h; have := setid _ _ _ hj; subst this; exact .inr ⟨hck, rfl⟩
            · exact h.elim
          · rename_i hck _
            obtain ⟨p, _, h⟩ := h.out
            unfold stD at h
            split at h
            · split at h
              · obtain ⟨_, rfl⟩ := h; have := setid _ _ _ hj; subst this; exact .inr ⟨hck, rfl⟩
              · exact h.elim
            · split at h
              · obtain ⟨_, rfl⟩ := h; have := setid _ _ _ hj; subst this; exact .inr ⟨hck, rfl⟩
              · exact h.elim
          · exact h.elim
        · split at h
          · rename_i hck _ _
            obtain ⟨p, _, h⟩ := h.out
            unfold stI at h
            split at h
            · split at h
              · obtain ⟨q, _, h⟩ := h.out
                split at h
                · obtain ⟨_, _, _, _, _, rfl⟩ := h; have := setid _ _ _ hj; subst this; exact .inr ⟨hck, rfl⟩
                · exact h.elim
              · exact h.elim
            · exact h.elim
          · exact h.elim
        · exact h.elim
      · exact h.elim
    · exact h.elim
  case call c =>
    split at h
    · rename_i f hcal
      exact callk (by simp [dV, hcal]) h
    · rename_i t hcal
      split at h
      · exact callk (by simp [dV, hcal]) h
      · exact callk (by simp [dV, hcal]) h
      · exact h.elim
    · rename_i hcal
      have hmo : mM ck (.call c) = true := by simp [mM, sC, hcal]
      split at h
      · split at h
        · unfold uT at h
          split at h
          · exact h.elim
          · split at h
            · split at h
              · obtain ⟨v2, e2, hh, hk⟩ := sR (F := fun ys n k => Nd (n * _ ≤ 140737488355328) (k (.own id n) (Eff.set id (.arr _ _ ys)))) (fun ys n => mC (F := fun k => k _ _) nK) h
                obtain ⟨_, rfl⟩ := hk
                have : ∃ ob, e2 = Eff.set id ob := by
                  unfold sE at hh
                  split at hh
                  · exact ⟨_, hh.out.2.2.symm⟩
                  · split at hh
                    · exact ⟨_, hh.out.2.2.symm⟩
                    · exact hh.elim
                  · split at hh
                    · split at hh
                      · exact ⟨_, hh.out.2.2.symm⟩
                      · exact hh.elim
                    · exact hh.elim
                  · exact hh.elim
                obtain ⟨ob, rfl⟩ := this
                have := setid _ _ _ hj; exact .inl (by omega)
              · rename_i i len hes
                split at h
                · rename_i e sz xs hck hm
                  split at h
                  · obtain ⟨v2, e2, hh, hk⟩ := sR (F := fun ys n k => Nd ((len + n) * _ ≤ 140737488355328) (k (.own id (len + n)) (Eff.app i id (.arr e sz (xs ++ ys))))) (fun ys n => mC (F := fun k => k _ _) nK) h
                    obtain ⟨_, rfl⟩ := hk
                    have : ∃ ob, e2 = Eff.app i id ob := by
                      unfold sE at hh
                      split at hh
                      · exact ⟨_, hh.out.2.2.symm⟩
                      · split at hh
                        · exact ⟨_, hh.out.2.2.symm⟩
                        · exact hh.elim
                      · split at hh
                        · split at hh
                          · exact ⟨_, hh.out.2.2.symm⟩
                          · exact hh.elim
                        · exact hh.elim
                      · exact hh.elim
                    obtain ⟨ob, rfl⟩ := this
                    rw [Eff.app_eq] at hj
                    by_cases c1 : j = id
                    · exact .inl (by omega)
                    · rw [if_neg c1] at hj
                      by_cases c2 : j = i
                      · subst c2; exact .inr ⟨hck, hmo⟩
                      · rw [if_neg c2] at hj; exact absurd rfl hj
                  · exact h.elim
                · rename_i hck hm
                  unfold wC at h
                  split at h
                  · split at h
                    · split at h
                      · obtain ⟨_, _, rfl⟩ := h.out
                        rw [Eff.app_eq] at hj
                        by_cases c1 : j = id
                        · exact .inl (by omega)
                        · rw [if_neg c1] at hj
                          by_cases c2 : j = i
                          · subst c2; exact .inr ⟨hck, hmo⟩
                          · rw [if_neg c2] at hj; exact absurd rfl hj
                      · exact h.elim
                    · exact h.elim
                  · exact h.elim
                · exact h.elim
              · exact h.elim
            · exact h.elim
        · exact h.elim
      · exact h.elim
    · exact (no h).elim
end
end Go.Aw
set_option linter.unusedVariables false
namespace Go.Aw
section
variable {P : Program} {G : Nat → Option Obj} {T : TypeId → Option TI} {w0 : World} {X A0 : Nat → Prop} {N : Nat} {Q : Exit → Act → World → Prop} {ops : Array Oper}
def GR (P : Program) (G : Nat → Option Obj) (T : TypeId → Option TI) (ck : Nat → Bool) (base i : Nat) (ops : Array Oper) (o : Oper) (σ : St) (v : V) (e : Eff) : Prop :=
  (lG P G T ck (sid base i) o.op σ.ev σ.mem (Is v e) ∧ (o.guard = none ∨ ∃ j want t, o.guard = some (j, want) ∧ (ops[j]?).bind (·.dst) = some t ∧ σ.env t = .bool want)) ∨
  (v = .tup [] ∧ e = Eff.no ∧ ∃ j want t, o.guard = some (j, want) ∧ (ops[j]?).bind (·.dst) = some t ∧ (σ.env t = .bool (!want) ∨ σ.env t = .tup []))
def St.upd (σ : St) (d : Option Tmp) (v : V) (e : Eff) : St := (σ.put d v).eff e
theorem aMM {ck : Nat → Bool} {base i : Nat} {o : Oper} {K : St → Prop} {σ : St} (h : yD P G T ck base i ops o K σ) : ∃ v e, GR P G T ck base i ops o σ v e ∧ K (σ.upd o.dst v e) := by
  rcases zN h with ⟨v, e, h1, h2, h3⟩ | ⟨h1, h2⟩
  · exact ⟨v, e, .inl ⟨h1, h3⟩, h2⟩
  · exact ⟨_, _, .inr ⟨rfl, rfl, h2⟩, h1⟩
theorem aLP {ck : Nat → Bool} {bd : Nat → Prop} {base i : Nat} {o : Oper} {σ : St} {a : Act} {w : World} {A : Nat → Prop} {μ : Nat → Option Loc} {v : V} {e : Eff} (hT : TOk P T) (hG : GX G w0 X A0) (h : Ok w0 X A0 N bd σ a w A μ) (hid : ∀ m, m < 8 → μ (sid base i + m) = none) (ho : ops[i]? = some o)
    (hd : ∀ n, o.dst = some n → n < N) (hs : GR P G T ck base i ops o σ v e) : wpOp P ops Q i (iJ w0 X A0 N (fun j => bd j ∨ (sid base i ≤ j ∧ j < sid base i + 8)) (σ.upd o.dst v e) o.dst.toList a w A μ) a w := by
  unfold wpOp
  rw [ho]
  simp only
  rcases hs with ⟨h1, h3⟩ | ⟨rfl, rfl, j, want, t, h2, h3, h4⟩
  · have hw : Region.wanted o (Go.yielded ops a.tmps) = true := by
      unfold Region.wanted
      rcases h3 with hg | ⟨j, want, t, hg, ht, hb⟩
      · rw [hg]
      · rw [hg]; simp only; rw [h.yld ht hb]; simp
    rw [if_pos hw]
    exact .inl (vC hT hG h hid hd h1)
  · have hw : Region.wanted o (Go.yielded ops a.tmps) = false := by
      unfold Region.wanted
      rw [h2]; simp only
      rcases h4 with hb | hb
      · rw [h.yld h3 hb]; cases want <;> rfl
      · rw [h.yld0 h3 hb]; rfl
    rw [if_neg (by rw [hw]; simp)]
    obtain ⟨g1, g2⟩ := h.val (d := o.dst) (v := .tup []) (cv := undef) (.tup [] #[] rfl (fun i x c h => by simp at h)) hd
    exact ⟨A, μ, g1.bdm (fun _ h => .inl h), g2⟩
theorem aBS {σ : St} {d : Option Tmp} {v : V} {e : Eff} {t : Tmp} (h : d ≠ some t) : (σ.upd d v e).env t = σ.env t := by
  show ((σ.put d v).env t) = σ.env t
  rw [oP, if_neg h]
theorem aCD {σ : St} {d : Option Tmp} {v : V} {e : Eff} {j : Nat} (h : e j = none) : (σ.upd d v e).mem j = σ.mem j := by
  show (match e j with | some x => x | none => (σ.put d v).mem j) = σ.mem j
  rw [h, nG]
theorem zE {ck : Nat → Bool} {base i : Nat} {o : Oper} {σ σ' : St} {v : V} {e : Eff} (hl : ∀ t ∈ o.looksAt ops, σ.env t = σ'.env t) (hm : dV o.op = true ∨ ∀ j, ck j = true → σ.mem j = σ'.mem j) (h : GR P G T ck base i ops o σ v e) : GR P G T ck base i ops o σ' v e := by
  have he : ∀ x ∈ o.op.operands.toList, σ.ev x = σ'.ev x := fun x hx => by
    cases x with
    | tmp t => exact hl t (List.mem_append_left _ (List.mem_filterMap.2 ⟨.tmp t, hx, rfl⟩))
    | _ => rfl
  have hg : ∀ j want t, o.guard = some (j, want) → (ops[j]?).bind (·.dst) = some t → σ.env t = σ'.env t := fun j want t hg ht => by
    refine hl t (List.mem_append_right _ ?_)
    rw [hg]; simp only; rw [ht]; simp
  rcases h with ⟨h1, h2⟩ | ⟨h1, h2, j, want, t, h3, h4, h5⟩
  · refine .inl ⟨yV he hm h1, ?_⟩
    rcases h2 with h2 | ⟨j, want, t, h3, h4, h5⟩
    · exact .inl h2
    · exact .inr ⟨j, want, t, h3, h4, (hg j want t h3 h4) ▸ h5⟩
  · exact .inr ⟨h1, h2, j, want, t, h3, h4, (hg j want t h3 h4) ▸ h5⟩
theorem aBI {ck : Nat → Bool} {base i : Nat} {o : Oper} {σ : St} {v : V} {e : Eff} (h : GR P G T ck base i ops o σ v e) : ∀ j, e j ≠ none → (sid base i ≤ j ∧ j < sid base i + 8) ∨ (ck j = true ∧ mM ck o.op = true) := by
  rcases h with ⟨h1, _⟩ | ⟨_, h2, _⟩
  · exact aAX h1
  · intro j hj; rw [h2] at hj; exact absurd rfl hj
theorem swap {ckx cky : Nat → Bool} {base ix iy : Nat} {x y : Oper} {σ : St} {vx vy : V} {ex ey : Eff} (hxy : x.apart ops y = true) (hyx : y.apart ops x = true) (cls : (dV x.op = true ∨ dV y.op = true) ∨ (mM ckx x.op = false ∧ mM cky y.op = false) ∨ (∀ j, ckx j = true → cky j = true → False)) (hne : ix ≠ iy)
    (hcx : ∀ j, sid base iy ≤ j → j < sid base iy + 8 → ckx j = false) (hcy : ∀ j, sid base ix ≤ j → j < sid base ix + 8 → cky j = false)
    (h1 : GR P G T ckx base ix ops x σ vx ex) (h2 : GR P G T cky base iy ops y (σ.upd x.dst vx ex) vy ey) :
    GR P G T cky base iy ops y σ vy ey ∧ GR P G T ckx base ix ops x (σ.upd y.dst vy ey) vx ex ∧ (σ.upd x.dst vx ex).upd y.dst vy ey = (σ.upd y.dst vy ey).upd x.dst vx ex := by
  obtain ⟨a1, a2, a3⟩ := Oper.apart_spec hxy
  obtain ⟨b1, b2, b3⟩ := Oper.apart_spec hyx
  have sx := aBI h1
  have sy := aBI h2
  have g1 : GR P G T cky base iy ops y σ vy ey := by
    refine zE (fun t ht => aBS (fun hd => a1 t hd ht)) ?_ h2
    by_cases hf : dV y.op = true
    · exact .inl hf
    · refine .inr (fun j hj => aCD ?_)
      cases he : ex j with
      | none => rfl
      | some q =>
        rcases sx j (by rw [he]; simp) with ⟨q1, q2⟩ | ⟨q1, q2⟩
        · rw [hcy j q1 q2] at hj; cases hj
        · rcases cls with (h | h) | h | h
          · rw [sP h] at q2; cases q2
          · exact absurd h hf
          · rw [h.1] at q2; cases q2
          · exact (h j q1 hj).elim
  refine ⟨g1, ?_, ?_⟩
  · refine zE (fun t ht => (aBS (fun hd => b1 t hd ht)).symm) ?_ h1
    by_cases hf : dV x.op = true
    · exact .inl hf
    · refine .inr (fun j hj => (aCD ?_).symm)
      cases he : ey j with
      | none => rfl
      | some q =>
        rcases sy j (by rw [he]; simp) with ⟨q1, q2⟩ | ⟨q1, q2⟩
        · rw [hcx j q1 q2] at hj; cases hj
        · rcases cls with (h | h) | h | h
          · exact absurd h hf
          · rw [sP h] at q2; cases q2
          · rw [h.2] at q2; cases q2
          · exact (h j hj q1).elim
  · have hdis : ∀ j, ex j = none ∨ ey j = none := fun j => by
      cases he1 : ex j with
      | none => exact .inl rfl
      | some q1 =>
        cases he2 : ey j with
        | none => exact .inr rfl
        | some q2 =>
          exfalso
          rcases sx j (by rw [he1]; simp) with ⟨p1, p2⟩ | ⟨p1, p2⟩ <;> rcases sy j (by rw [he2]; simp) with ⟨r1, r2⟩ | ⟨r1, r2⟩
          · simp only [sid] at p1 p2 r1 r2; omega
          · rw [hcy j p1 p2] at r1; cases r1
          · rw [hcx j r1 r2] at p1; cases p1
          · rcases cls with (h | h) | h | h
            · rw [sP h] at p2; cases p2
            · rw [sP h] at r2; cases r2
            · rw [h.1] at p2; cases p2
            · exact h j p1 r1
    have henv : ((σ.upd x.dst vx ex).upd y.dst vy ey).env = ((σ.upd y.dst vy ey).upd x.dst vx ex).env := by
      funext t
      show ((σ.upd x.dst vx ex).put y.dst vy).env t = ((σ.upd y.dst vy ey).put x.dst vx).env t
      rw [oP, oP]
      show (if y.dst = some t then vy else (σ.put x.dst vx).env t) = (if x.dst = some t then vx else (σ.put y.dst vy).env t)
      rw [oP, oP]
      by_cases c1 : y.dst = some t
      · have : ¬ x.dst = some t := fun hx => a2 t hx c1
        rw [if_pos c1, if_neg this, if_pos c1]
      · by_cases c2 : x.dst = some t
        · rw [if_neg c1, if_pos c2, if_pos c2]
        · rw [if_neg c1, if_neg c2, if_neg c2, if_neg c1]
    have hmem : ((σ.upd x.dst vx ex).upd y.dst vy ey).mem = ((σ.upd y.dst vy ey).upd x.dst vx ex).mem := by
      funext j
      show (match ey j with | some q => q | none => ((σ.upd x.dst vx ex).put y.dst vy).mem j) = (match ex j with | some q => q | none => ((σ.upd y.dst vy ey).put x.dst vx).mem j)
      rw [nG, nG]
      show (match ey j with | some q => q | none => (match ex j with | some q => q | none => (σ.put x.dst vx).mem j)) = (match ex j with | some q => q | none => (match ey j with | some q => q | none => (σ.put y.dst vy).mem j))
      rw [nG, nG]
      rcases hdis j with h | h <;> rw [h]
    have hn : ∀ (σ : St) d v e, (σ.upd d v e).next = σ.next ∧ (σ.upd d v e).ids = σ.ids := fun σ d v e => by cases d <;> exact ⟨rfl, rfl⟩
    cases hA : (σ.upd x.dst vx ex).upd y.dst vy ey
    cases hB : (σ.upd y.dst vy ey).upd x.dst vx ex
    have n1 := hn (σ.upd x.dst vx ex) y.dst vy ey
    have n2 := hn (σ.upd y.dst vy ey) x.dst vx ex
    rw [(hn σ _ _ _).1, (hn σ _ _ _).2] at n1 n2
    rw [hA] at henv hmem n1; rw [hB] at henv hmem n2
    simp only at henv hmem n1 n2
    simp only [St.mk.injEq]
    exact ⟨henv, hmem, n1.1.trans n2.1.symm, n1.2.trans n2.2.symm⟩
end
end Go.Aw
set_option linter.unusedVariables false
namespace Go.Aw
section
variable {P : Program} {G : Nat → Option Obj} {T : TypeId → Option TI} {w0 : World} {X A0 : Nat → Prop} {N : Nat} {Q : Exit → Act → World → Prop} {ops : Array Oper}
inductive Chain (P : Program) (G : Nat → Option Obj) (T : TypeId → Option TI) (ck : Nat → Nat → Bool) (base : Nat) (ops : Array Oper) : List Nat → St → St → Prop
  | nil (σ : St) : Chain P G T ck base ops [] σ σ
  | cons {i : Nat} {l : List Nat} {σ τ : St} {o : Oper} {v : V} {e : Eff} (ho : ops[i]? = some o) (h : GR P G T (ck i) base i ops o σ v e) (t : Chain P G T ck base ops l (σ.upd o.dst v e) τ) : Chain P G T ck base ops (i :: l) σ τ
theorem nX {ck : Nat → Nat → Bool} {base : Nat} {K : St → Prop} : ∀ (k i : Nat) (σ : St), i + k = ops.size → rgo P G T ck base ops i (ops.toList.drop i) K σ → ∃ τ, Chain P G T ck base ops (List.range' i k) σ τ ∧ K τ
  | 0, i, σ, hk, h => by
    have hd : ops.toList.drop i = [] := List.drop_eq_nil_of_le (by simp; omega)
    rw [hd] at h
    exact ⟨σ, .nil σ, h⟩
  | k + 1, i, σ, hk, h => by
    have hlt : i < ops.size := by omega
    have ho : ops[i]? = some ops[i] := Array.getElem?_eq_getElem hlt
    have hd : ops.toList.drop i = ops[i] :: ops.toList.drop (i + 1) := by
      rw [List.drop_eq_getElem_cons (by simpa using hlt)]; rfl
    rw [hd] at h
    obtain ⟨v, e, h1, h2⟩ := aMM h
    obtain ⟨τ, h3, h4⟩ := nX k (i + 1) _ (by omega) h2
    rw [List.range'_succ]
    exact ⟨τ, .cons ho h1 h3, h4⟩
structure rT (ck : Nat → Nat → Bool) (base : Nat) (ops : Array Oper) (k i : Nat) : Prop where
  ne : k ≠ i
  ap : ∀ x y, ops[k]? = some x → ops[i]? = some y → x.apart ops y = true ∧ y.apart ops x = true ∧ ((dV x.op = true ∨ dV y.op = true) ∨ (mM (ck k) x.op = false ∧ mM (ck i) y.op = false) ∨ (∀ j, ck k j = true → ck i j = true → False))
  cx : ∀ j, sid base i ≤ j → j < sid base i + 8 → ck k j = false
  cy : ∀ j, sid base k ≤ j → j < sid base k + 8 → ck i j = false
theorem aMJ {ck : Nat → Nat → Bool} {base i : Nat} {o : Oper} (ho : ops[i]? = some o) : ∀ (pre post : List Nat) (σ τ : St), (∀ k ∈ pre, rT ck base ops k i) → Chain P G T ck base ops (pre ++ i :: post) σ τ →
    ∃ v e, GR P G T (ck i) base i ops o σ v e ∧ Chain P G T ck base ops (pre ++ post) (σ.upd o.dst v e) τ
  | [], post, σ, τ, _, h => by
    cases h with
    | cons ho' h1 t => rw [ho] at ho'; injection ho' with e; subst e; exact ⟨_, _, h1, t⟩
  | k :: pre, post, σ, τ, hi, h => by
    cases h with
    | cons hk h1 t =>
      rename_i x vx ex
      obtain ⟨vy, ey, h2, h3⟩ := aMJ ho pre post _ τ (fun n hn => hi n (List.mem_cons_of_mem _ hn)) t
      have hd := hi k (List.mem_cons_self ..)
      obtain ⟨p1, p2, p3⟩ := hd.ap x o hk ho
      obtain ⟨q1, q2, q3⟩ := swap p1 p2 p3 hd.ne hd.cx hd.cy h1 h2
      rw [q3] at h3
      exact ⟨vy, ey, q1, .cons hk q2 h3⟩
theorem sT (l : Array Bool) (i k : Nat) (d : Bool) (hi : i < l.size) : (l.setIfInBounds i true).getD k d = if k = i then true else l.getD k d := by
  by_cases h : k = i
  · subst h; simp [hi]
  · rw [if_neg h]
    simp [Array.getElem?_setIfInBounds, Ne.symm h]
theorem lR (l : Array Bool) (k : Nat) (hk : k < l.size) (d d' : Bool) : l.getD k d = l.getD k d' := by simp [hk]
theorem uY {base : Nat} {ck : Nat → Nat → Bool} {K : St → Prop} {hv : List Tmp} (hT : TOk P T) (hG : GX G w0 X A0) (hdst : ∀ (i : Nat) (o : Oper), ops[i]? = some o → ∀ n, o.dst = some n → n < N ∧ n ∈ hv)
    (hind : ∀ (listed : Array Bool) (i k : Nat), listed.size = ops.size → (∀ j oj, ops[j]? = some oj → listed.getD j false = true → ∀ e ∈ oj.after, Region.binds .any e = true → listed.getD e.on false = true) → i ∈ Region.ready .any ops listed → k < i → listed.getD k true = false → rT ck base ops k i)
    (hlow : ∀ (i : Nat) (o : Oper), ops[i]? = some o → ∀ e ∈ o.after, Region.binds .any e = true → e.on < i) :
    ∀ (fuel : Nat) (rem : List Nat) (listed : Array Bool) (σ τ : St) (a : Act) (w : World) (A : Nat → Prop) (μ : Nat → Option Loc), rem.length = fuel → listed.size = ops.size → rem = (List.range ops.size).filter (fun i => !listed.getD i true) →
      (∀ j oj, ops[j]? = some oj → listed.getD j false = true → ∀ e ∈ oj.after, Region.binds .any e = true → listed.getD e.on false = true) →
      Ok w0 X A0 N (fun j => j < base ∨ ∃ m, m < ops.size ∧ listed.getD m false = true ∧ sid base m ≤ j ∧ j < sid base m + 8) σ a w A μ → Chain P G T ck base ops rem σ τ → K τ →
      wpAny P .any ops (fun e a' w' => e = .normal ∧ ∃ σ', K σ' ∧ iJ w0 X A0 N (fun j => j < base + 8 * ops.size) σ' hv a w A μ a' w') fuel listed a w
  | 0, rem, listed, σ, τ, a, w, A, μ, hlen, hsz, hrem, hcl, h, hch, hK => by
    have h0 : rem = [] := List.eq_nil_of_length_eq_zero hlen
    subst h0
    cases hch
    refine ⟨?_, rfl, σ, hK, A, μ, h.bdm (fun j hj => ?_), Ext.refl _ _ _ _ _⟩
    · refine List.eq_nil_iff_forall_not_mem.2 fun i hi => ?_
      obtain ⟨h1, o, h2, _⟩ := mem_ready.1 hi
      have : i ∈ (List.range ops.size).filter (fun i => !listed.getD i true) := List.mem_filter.2 ⟨List.mem_range.2 (Array.getElem?_eq_some_iff.1 h2).1, by rw [h1]; rfl⟩
      rw [← hrem] at this; cases this
    · rcases hj with hj | ⟨m, hm, _, h1, h2⟩
      · omega
      · simp only [sid] at h1 h2; omega
  | fuel + 1, rem, listed, σ, τ, a, w, A, μ, hlen, hsz, hrem, hcl, h, hch, hK => by
    refine ⟨fun hr => ?_, fun i hi => ?_⟩
    · -- the least that has not come up may come up
      exfalso
      have key : ∀ n i, i ≤ n → i < ops.size → listed.getD i true = false → False := fun n => by
        induction n with
        | zero =>
          intro i hle hlt hun
          have hi0 : i = 0 := by omega
          subst hi0
          have ho : ops[0]? = some ops[0] := Array.getElem?_eq_getElem hlt
          have : 0 ∈ Region.ready .any ops listed := mem_ready.2 ⟨hun, _, ho, fun e he hb => absurd (hlow 0 _ ho e he hb) (by omega)⟩
          rw [hr] at this; cases this
        | succ n ih =>
          intro i hle hlt hun
          have ho : ops[i]? = some ops[i] := Array.getElem?_eq_getElem hlt
          by_cases hall : ∀ e ∈ ops[i].after, Region.binds .any e = true → listed.getD e.on false = true
          · have : i ∈ Region.ready .any ops listed := mem_ready.2 ⟨hun, _, ho, hall⟩
            rw [hr] at this; cases this
          · simp only [Classical.not_forall] at hall
            obtain ⟨e, he, hb, hl⟩ := hall
            have hlt2 := hlow i _ ho e he hb
            refine ih e.on (by omega) (by omega) ?_
            rw [lR listed e.on (by omega) true false]
            simpa using hl
      cases hrl : rem with
      | nil => rw [hrl] at hlen; simp at hlen
      | cons i l =>
        have : i ∈ rem := by rw [hrl]; exact List.mem_cons_self ..
        rw [hrem] at this
        obtain ⟨h1, h2⟩ := List.mem_filter.1 this
        exact key i i (Nat.le_refl _) (List.mem_range.1 h1) (by simpa using h2)
    · obtain ⟨hun, o, ho, hall⟩ := mem_ready.1 hi
      have hlt : i < ops.size := (Array.getElem?_eq_some_iff.1 ho).1
      have hmem : i ∈ rem := by rw [hrem]; exact List.mem_filter.2 ⟨List.mem_range.2 hlt, by rw [hun]; rfl⟩
      obtain ⟨pre, post, hsplit⟩ := List.append_of_mem hmem
      have hpw : rem.Pairwise (· < ·) := by rw [hrem]; exact List.Pairwise.filter _ List.pairwise_lt_range
      rw [hsplit] at hpw hch
      have hpre : ∀ k ∈ pre, k < i := fun k hk => (List.pairwise_append.1 hpw).2.2 k hk i (List.mem_cons_self ..)
      have hpost : ∀ k ∈ post, i < k := fun k hk => (List.pairwise_cons.1 (List.pairwise_append.1 hpw).2.1).1 k hk
      have hunk : ∀ k ∈ pre, listed.getD k true = false := fun k hk => by
        have : k ∈ rem := by rw [hsplit]; exact List.mem_append_left _ hk
        rw [hrem] at this
        simpa using (List.mem_filter.1 this).2
      obtain ⟨v, e, g1, g2⟩ := aMJ ho pre post σ τ (fun k hk => hind listed i k hsz hcl hi (hpre k hk) (hunk k hk)) hch
      have hid : ∀ m, m < 8 → μ (sid base i + m) = none := fun m hm => by
        cases hc : μ (sid base i + m) with
        | none => rfl
        | some l =>
          rcases h.bd (sid base i + m) (by rw [hc]; simp) with h1 | ⟨m', _, h2, h3, h4⟩
          · simp only [sid] at h1; omega
          · simp only [sid] at h3 h4
            have : m' = i := by omega
            subst this
            rw [lR listed m' (by omega) false true, hun] at h2; cases h2
      refine wpOp_mono (fun a' w' ⟨A', μ', h', hx⟩ => ?_) (aLP hT hG h hid ho (fun n hn => (hdst i o ho n hn).1) g1)
      have hx' : Ext hv a w A μ a' w' A' μ' := hx.mono (fun t ht => by
        cases hdd : o.dst with
        | none => rw [hdd] at ht; simp at ht
        | some n => rw [hdd] at ht; simp at ht; subst ht; exact (hdst i _ ho t hdd).2)
      have hgs := fun k d => sT listed i k d (by omega)
      have hrem' : pre ++ post = (List.range ops.size).filter (fun k => !(listed.setIfInBounds i true).getD k true) := by
        have e1 : (fun k => !(listed.setIfInBounds i true).getD k true) = fun k => (!listed.getD k true) && (k != i) := by
          funext k
          rw [hgs]
          by_cases hk : k = i
          · subst hk; simp
          · rw [if_neg hk]; simp [hk]
        have e2 : (List.range ops.size).filter (fun k => (!listed.getD k true) && (k != i)) = ((List.range ops.size).filter (fun k => !listed.getD k true)).filter (fun k => k != i) := by
          rw [List.filter_filter]
          congr 1; funext k; exact Bool.and_comm _ _
        rw [e1, e2, ← hrem, hsplit, List.filter_append, List.filter_cons]
        rw [if_neg (by simp)]
        rw [List.filter_eq_self.2 (fun k hk => by have := hpre k hk; simp; omega), List.filter_eq_self.2 (fun k hk => by have := hpost k hk; simp; omega)]
      have hih := uY hT hG hdst hind hlow fuel (pre ++ post) (listed.setIfInBounds i true) _ τ a' w' A' μ' (by rw [hsplit] at hlen; simp at hlen ⊢; omega) (by simpa using hsz) hrem' (fun j oj hj hl e he hb => by
          rw [hgs] at hl ⊢
          by_cases c1 : e.on = i
          · rw [if_pos c1]
          · rw [if_neg c1]
            by_cases c2 : j = i
            · subst c2
              rw [ho] at hj; injection hj with hj; subst hj
              exact hall e he hb
            · rw [if_neg c2] at hl
              exact hcl j oj hj hl e he hb) (h'.bdm (fun j hj => by
          rcases hj with (hj | ⟨m, m1, m2, m3⟩) | hj
          · exact .inl hj
          · exact .inr ⟨m, m1, by rw [hgs]; split <;> first | rfl | exact m2, m3⟩
          · exact .inr ⟨i, hlt, by rw [hgs, if_pos rfl], hj⟩)) g2 hK
      have mono : ∀ (Q1 Q2 : Exit → Act → World → Prop), (∀ e a w, Q1 e a w → Q2 e a w) → ∀ fuel l a w, wpAny P .any ops Q1 fuel l a w → wpAny P .any ops Q2 fuel l a w := fun Q1 Q2 hq fuel => by
        induction fuel with
        | zero => exact fun l a w ⟨h1, h2⟩ => ⟨h1, hq _ _ _ h2⟩
        | succ n ih =>
          intro l a w ⟨h1, h2⟩
          refine ⟨fun h => hq _ _ _ (h1 h), fun i hi => ?_⟩
          have := h2 i hi
          unfold wpOp at this ⊢
          cases ho : ops[i]? with
          | none => rw [ho] at this; exact ih _ _ _ this
          | some o =>
            rw [ho] at this
            simp only at this ⊢
            by_cases hw : Region.wanted o (Go.yielded ops a.tmps) = true
            · rw [if_pos hw] at this ⊢
              rcases this with hh | ⟨h1, a0, w0, h2⟩
              · left
                unfold Oper.wp at *
                generalize (execOp a.eval o).run P w = r at *
                cases r with
                | ok n w' =>
                  cases n <;> simp only [Oper.upon] at hh ⊢ <;> first
                    | exact ih _ _ _ hh
                    | exact Calls.mono hh (fun e w'' he => by
                        cases e with
                        | returned v => exact ih _ _ _ he
                        | panicked c => exact hq _ _ _ he
                        | outgrown => obtain ⟨a0, w0, h0⟩ := he; exact ⟨a0, w0, hq _ _ _ h0⟩)
                    | exact Rows.mono hh (fun _ _ he => ih _ _ _ he)
                    | exact hh
                | halt x w' => cases x <;> simp only [Oper.upon] at hh ⊢ <;> first | exact hq _ _ _ hh | exact hh
              · exact .inr ⟨h1, a0, w0, hq _ _ _ h2⟩
            · rw [if_neg hw] at this ⊢
              exact ih _ _ _ this
      exact mono _ _ (fun e a2 w2 ⟨he, σ2, hk2, A2, μ2, h3, hx2⟩ => ⟨he, σ2, hk2, A2, μ2, h3, hx'.trans' hx2⟩) _ _ _ _ hih
end
end Go.Aw
set_option linter.unusedVariables false
namespace Go.Aw
section
variable {P : Program} {G : Nat → Option Obj} {T : TypeId → Option TI} {w0 : World} {X A0 : Nat → Prop} {N : Nat} {Q : Exit → Act → World → Prop} {ops : Array Oper}
def kM (ops : Array Oper) : Bool :=
  let b := eU ops.toList []
  (List.range ops.size).all fun i => match ops[i]? with
    | none => false
    | some y => y.after.toList.all (fun e => !Region.binds .any e || Nat.blt e.on i) &&
      (List.range i).all fun k => (b.getD i 0).testBit k || (match ops[k]? with
        | none => false
        | some x => x.apart ops y && y.apart ops x && (lZ x.op y.op || iR x.op || iR y.op) && !(b.getD k 0).testBit i)
def yX (ops : Array Oper) : Bool :=
  let b := eU ops.toList []
  (List.range ops.size).all fun i => match ops[i]? with
    | none => false
    | some y => y.after.toList.all (fun e => !Region.binds .any e || Nat.blt e.on i) &&
      (List.range i).all fun k => (b.getD i 0).testBit k || (match ops[k]? with
        | none => false
        | some x => x.apart ops y && y.apart ops x && (lZ x.op y.op || stV x.op || stV y.op) && !(b.getD k 0).testBit i)
def aHV (N : Nat) (ops : Array Oper) (draw : Bool) : Bool :=
  ops.toList.all (fun o => match o.dst with | some d => Nat.blt d N | none => true) && (!draw || (kM ops || (yX ops && !ops.toList.any fun o => iR o.op)))
def lB (N : Nat) : Code → Bool
  | .region _ ops draw => aHV N ops draw
  | .seq a b => lB N a && lB N b
  | .cond _ a b => lB N a && lB N b
  | .block _ c => lB N c
  | .loop c => lB N c
  | _ => true
theorem vO (acc : List Nat) (o : Oper) (k : Nat) (h : (bits acc o).testBit k = true) : ∃ e ∈ o.after, Region.binds .any e = true ∧ (e.on = k ∨ (acc.getD e.on 0).testBit k = true) := by
  unfold bits at h
  have key : ∀ (l : List Edge) (s : Nat), (l.foldl (fun s e => match Region.binds .any e with | true => s ||| 2 ^ e.on ||| acc.getD e.on 0 | false => s) s).testBit k = true →
      s.testBit k = true ∨ ∃ e ∈ l, Region.binds .any e = true ∧ (e.on = k ∨ (acc.getD e.on 0).testBit k = true) := fun l => by
    induction l with
    | nil => exact fun s h => .inl h
    | cons e l ih =>
      intro s h
      rw [List.foldl_cons] at h
      rcases ih _ h with h | ⟨e', h1, h2⟩
      · cases hb : Region.binds .any e with
        | false => rw [hb] at h; exact .inl h
        | true =>
          rw [hb] at h
          simp only [Nat.testBit_or, Bool.or_eq_true, Nat.testBit_two_pow, decide_eq_true_eq] at h
          rcases h with (h | h) | h
          · exact .inl h
          · exact .inr ⟨e, List.mem_cons_self .., hb, .inl h⟩
          · exact .inr ⟨e, List.mem_cons_self .., hb, .inr h⟩
      · exact .inr ⟨e', List.mem_cons_of_mem _ h1, h2⟩
  rcases key _ _ h with h | ⟨e, h1, h2⟩
  · simp at h
  · exact ⟨e, by simpa using h1, h2⟩
theorem tL : ∀ (os : List Oper) (acc : List Nat) (i : Nat), i < acc.length → (eU os acc)[i]? = acc[i]?
  | [], acc, i, h => rfl
  | o :: os, acc, i, h => by rw [eU, tL os _ i (by simp; omega), List.getElem?_append_left h]
theorem tU : ∀ (os : List Oper) (acc : List Nat) (i : Nat) (o : Oper), os[i]? = some o → (eU os acc)[acc.length + i]? = some (bits ((eU os acc).take (acc.length + i)) o)
  | [], acc, i, o, h => by simp at h
  | p :: os, acc, 0, o, h => by
    simp at h; subst h
    rw [Nat.add_zero, eU, tL os _ _ (by simp)]
    have e : (eU os (acc ++ [bits acc p])).take acc.length = acc := by
      apply List.ext_getElem?
      intro k
      rw [List.getElem?_take]
      by_cases hk : k < acc.length
      · rw [if_pos hk, tL os _ _ (by simp; omega), List.getElem?_append_left hk]
      · rw [if_neg hk, List.getElem?_eq_none (by omega)]
    rw [e, List.getElem?_append_right (Nat.le_refl _)]; simp
  | p :: os, acc, i + 1, o, h => by
    have := tU os (acc ++ [bits acc p]) i o (by simpa using h)
    rw [eU]
    simp only [List.length_append, List.length_singleton] at this
    rw [show acc.length + (i + 1) = acc.length + 1 + i by omega]
    exact this
theorem nC {listed : Array Bool} (hcl : ∀ j oj, ops[j]? = some oj → listed.getD j false = true → ∀ e ∈ oj.after, Region.binds .any e = true → listed.getD e.on false = true) :
    ∀ (n i : Nat) (o : Oper), i ≤ n → ops[i]? = some o → (∀ e ∈ o.after, Region.binds .any e = true → listed.getD e.on false = true) → ∀ k, ((eU ops.toList []).getD i 0).testBit k = true → listed.getD k false = true := fun n => by
  induction n with
  | zero =>
    intro i o hle ho hall k hb
    have hi : i = 0 := by omega
    subst hi
    have hg := tU ops.toList [] 0 o (by simpa using ho)
    simp only [List.length_nil, Nat.zero_add] at hg
    rw [List.getD_eq_getElem?_getD, hg] at hb
    obtain ⟨e, he, h1, h2⟩ := vO _ _ _ hb
    rcases h2 with rfl | h2
    · exact hall e he h1
    · simp at h2
  | succ n ih =>
    intro i o hle ho hall k hb
    have hg := tU ops.toList [] i o (by simpa using ho)
    simp only [List.length_nil, Nat.zero_add] at hg
    rw [List.getD_eq_getElem?_getD, hg] at hb
    obtain ⟨e, he, h1, h2⟩ := vO _ _ _ hb
    rcases h2 with rfl | h2
    · exact hall e he h1
    · rw [List.getD_eq_getElem?_getD, List.getElem?_take] at h2
      by_cases hlt : e.on < i
      · rw [if_pos hlt] at h2
        have hl := hall e he h1
        have hs : i < ops.size := (Array.getElem?_eq_some_iff.1 ho).1
        have hoe : ops[e.on]? = some ops[e.on] := Array.getElem?_eq_getElem (by omega)
        exact ih e.on _ (by omega) hoe (fun e' he' hb' => hcl e.on _ hoe hl e' he' hb') k (by rw [List.getD_eq_getElem?_getD]; exact h2)
      · rw [if_neg hlt] at h2; simp at h2
theorem aAL (h : kM ops = true) : ∀ (i : Nat) (o : Oper), ops[i]? = some o → ∀ e ∈ o.after, Region.binds .any e = true → e.on < i := fun i o ho e he hb => by
  have h1 := List.all_eq_true.1 h i (List.mem_range.2 (Array.getElem?_eq_some_iff.1 ho).1)
  simp only [ho, Bool.and_eq_true] at h1
  have h2 := List.all_eq_true.1 h1.1 e (by simpa using he)
  rw [hb] at h2
  simp at h2
  exact h2
theorem aDR (h : yX ops = true) : ∀ (i : Nat) (o : Oper), ops[i]? = some o → ∀ e ∈ o.after, Region.binds .any e = true → e.on < i := fun i o ho e he hb => by
  have h1 := List.all_eq_true.1 h i (List.mem_range.2 (Array.getElem?_eq_some_iff.1 ho).1)
  simp only [ho, Bool.and_eq_true] at h1
  have h2 := List.all_eq_true.1 h1.1 e (by simpa using he)
  rw [hb] at h2
  simp at h2
  exact h2
theorem aFW {o : Op} : sC o = (stV o || iR o) := by
  cases o <;> rfl
theorem aJK (h1 : (ops.toList.any fun o => stV o.op) = false) (h2 : (ops.toList.any fun o => iR o.op) = false) : rM ops = true := by
  have nm : ∀ (q : Nat) (z : Oper), ops[q]? = some z → sC z.op = false := fun q z hz => by
    have hm : z ∈ ops.toList := by have := Array.mem_of_getElem? hz; simpa using this
    rw [aFW]
    cases e1 : stV z.op with
    | true => rw [List.any_eq_true.2 ⟨z, hm, e1⟩] at h1; cases h1
    | false => cases e2 : iR z.op with
      | true => rw [List.any_eq_true.2 ⟨z, hm, e2⟩] at h2; cases h2
      | false => rfl
  unfold rM
  refine List.all_eq_true.2 (fun i hi => ?_)
  cases hy : ops[i]? with
  | none => rfl
  | some y =>
    refine List.all_eq_true.2 (fun k hk => ?_)
    cases hx : ops[k]? with
    | none => simp
    | some x => simp [lZ, nm _ _ hx, nm _ _ hy]
theorem aFJ (h : yX ops = true) (hc : rM ops = true) : kM ops = true := by
  unfold kM
  refine List.all_eq_true.2 (fun i hi => ?_)
  have h1 := List.all_eq_true.1 h i hi
  have c1 := List.all_eq_true.1 hc i hi
  cases hy : ops[i]? with
  | none => rw [hy] at h1; cases h1
  | some y =>
    rw [hy] at h1 c1
    simp only [Bool.and_eq_true] at h1 ⊢
    refine ⟨h1.1, List.all_eq_true.2 (fun k hk => ?_)⟩
    have h2 := List.all_eq_true.1 h1.2 k hk
    have c2 := List.all_eq_true.1 c1 k hk
    cases hb : ((eU ops.toList []).getD i 0).testBit k with
    | true => rfl
    | false =>
      rw [hb, Bool.false_or] at h2 c2
      rw [Bool.false_or]
      cases hx : ops[k]? with
      | none => rw [hx] at h2; cases h2
      | some x =>
        rw [hx] at h2 c2
        simp only [Bool.and_eq_true] at h2 ⊢
        exact ⟨⟨h2.1.1, by simp only [c2]; rfl⟩, h2.2⟩
theorem kQ {b : List Nat} {i : Nat} : ∀ (fr : List Bool) (k0 : Nat), jT b i k0 fr = true → ∀ (k : Nat) (f : Bool), fr[k]? = some f → k0 + k ≠ i → (b.getD i 0).testBit (k0 + k) = false → (b.getD (k0 + k) 0).testBit i = false → f = true
  | [], k0, _, k, f, hk, _, _, _ => by simp at hk
  | g :: l, k0, h, k, f, hk, hne, h1, h2 => by
    simp only [jT] at h
    split at h
    · rename_i hb
      cases k with
      | zero =>
        simp at hk; subst hk
        rw [Nat.add_zero] at hne h1 h2
        have hne' : Nat.beq k0 i = false := by
          cases hc : Nat.beq k0 i with
          | false => rfl
          | true => exact absurd (Nat.eq_of_beq_eq_true hc) hne
        rw [h1, h2, hne'] at hb
        simpa using hb
      | succ k =>
        have := kQ l (k0 + 1) h k f (by simpa using hk)
        rw [show k0 + 1 + k = k0 + (k + 1) by omega] at this
        exact this hne h1 h2
    · cases h
theorem aAE {base : Nat} (h : kM ops = true) (hL : oI ops = false) (i k : Nat) (x y : Oper) (hx : ops[k]? = some x) (hy : ops[i]? = some y) (hk : k < i) (hnb : ((eU ops.toList []).getD i 0).testBit k = false)
    (hc : (lZ x.op y.op || iR x.op || iR y.op) = true) : lZ x.op y.op = true := by
  unfold oI at hL
  cases ha : ops.toList.any fun o => iR o.op with
  | true =>
    rw [ha] at hL
    have hL : rM ops = true := by simpa using hL
    have h1 := List.all_eq_true.1 hL i (List.mem_range.2 (Array.getElem?_eq_some_iff.1 hy).1)
    simp only [hy] at h1
    have h2 := List.all_eq_true.1 h1 k (List.mem_range.2 hk)
    rw [hnb, Bool.false_or, hx] at h2
    exact h2
  | false =>
    have no : ∀ (q : Nat) (z : Oper), ops[q]? = some z → iR z.op = false := fun q z hz => by
      cases hq : iR z.op with
      | false => rfl
      | true =>
        have : (ops.toList.any fun o => iR o.op) = true := List.any_eq_true.2 ⟨z, by have := Array.mem_of_getElem? hz; simpa using this, hq⟩
        rw [ha] at this; cases this
    rw [no k x hx, no i y hy] at hc
    simpa using hc
theorem oO {b : List Nat} {i q : Nat} : ∀ (l : List Bool) (k0 : Nat), aBE b i q k0 l = true → ∀ (k : Nat), l[k]? = some true → k0 + k ≠ i → (b.getD i 0).testBit (k0 + k) = false → (b.getD (k0 + k) 0).testBit i = false → (b.getD (k0 + k) 0).testBit q = false
  | [], k0, _, k, hk, _, _, _ => by simp at hk
  | g :: l, k0, h, k, hk, hne, h1, h2 => by
    simp only [aBE] at h
    split at h
    · rename_i hb
      cases k with
      | zero =>
        simp at hk; subst hk
        rw [Nat.add_zero] at hne h1 h2 ⊢
        have hne' : Nat.beq k0 i = false := by
          cases hc : Nat.beq k0 i with
          | false => rfl
          | true => exact absurd (Nat.eq_of_beq_eq_true hc) hne
        rw [h1, h2, hne'] at hb
        simpa using hb
      | succ k =>
        have := oO l (k0 + 1) h k (by simpa using hk)
        rw [show k0 + 1 + k = k0 + (k + 1) by omega] at this
        exact this hne h1 h2
    · cases h
theorem oF {W : List Nat} {base : Nat} (h : kM ops = true) (listed : Array Bool) (i k : Nat) (hsz : listed.size = ops.size)
    (hcl : ∀ j oj, ops[j]? = some oj → listed.getD j false = true → ∀ e ∈ oj.after, Region.binds .any e = true → listed.getD e.on false = true) (hi : i ∈ Region.ready .any ops listed) (hk : k < i) (hun : listed.getD k true = false) :
    rT (ckL (eU ops.toList []) (ops.toList.map fun o => dV o.op) (ops.toList.map fun o => iR o.op) W base) base ops k i := by
  obtain ⟨huni, y, hy, hall⟩ := mem_ready.1 hi
  have hlt : i < ops.size := (Array.getElem?_eq_some_iff.1 hy).1
  have h1 := List.all_eq_true.1 h i (List.mem_range.2 hlt)
  simp only [hy, Bool.and_eq_true] at h1
  have h2 := List.all_eq_true.1 h1.2 k (List.mem_range.2 hk)
  have hnb : ((eU ops.toList []).getD i 0).testBit k = false := by
    cases hb : ((eU ops.toList []).getD i 0).testBit k with
    | false => rfl
    | true =>
      have := nC hcl i i y (Nat.le_refl _) hy hall k hb
      rw [lR listed k (by omega) false true, hun] at this; cases this
  rw [hnb, Bool.false_or] at h2
  have hxo : ops[k]? = some ops[k] := Array.getElem?_eq_getElem (by omega)
  rw [hxo] at h2
  simp only [Bool.and_eq_true] at h2
  obtain ⟨⟨⟨p1, p2⟩, p3⟩, p4⟩ := h2
  have apg : ∀ (q : Nat) (z : Oper), ops[q]? = some z → (ops.toList.map fun o => iR o.op).getD q false = iR z.op := fun q z hz => by
    simp [List.getD_eq_getElem?_getD, hz]
  have apl : ∀ (q : Nat) (z : Oper), ops[q]? = some z → iR z.op = true → (ops.toList.map fun o => iR o.op)[q]? = some true := fun q z hz hq => by
    simp [hz, hq]
  have ckf : ∀ (n q : Nat), ((eU ops.toList []).getD n 0).testBit q = false → ∀ j, sid base q ≤ j → j < sid base q + 8 → ckL (eU ops.toList []) (ops.toList.map fun o => dV o.op) (ops.toList.map fun o => iR o.op) W base n j = false := fun n q hq j j1 j2 => by
    unfold ckL
    simp only [sid] at j1 j2
    cases hb : Nat.beq j 1000000007 with
    | true => rfl
    | false =>
      simp only
      have hb2 : Nat.blt j base = false := by
        cases hc : Nat.blt j base with
        | false => rfl
        | true => have := Nat.le_of_ble_eq_true hc; omega
      rw [hb2]
      have : (j - base) / 8 = q := by omega
      rw [this, hq]
      cases (ops.toList.map fun o => iR o.op).getD n false <;> rfl
  have p4' : ((eU ops.toList []).getD k 0).testBit i = false := by simpa using p4
  have ckm : ∀ n, ckL (eU ops.toList []) (ops.toList.map fun o => dV o.op) (ops.toList.map fun o => iR o.op) W base n 1000000007 = false := fun n => by
    unfold ckL
    rw [show Nat.beq 1000000007 1000000007 = true by decide]
  -- an append looks at what the region makes, the others at what was there
  have lkA : ∀ (n : Nat) (z : Oper), ops[n]? = some z → iR z.op = true → ∀ j, ckL (eU ops.toList []) (ops.toList.map fun o => dV o.op) (ops.toList.map fun o => iR o.op) W base n j = true → (Nat.blt j base = true ∧ ((fB W j = true ∧ jT (eU ops.toList []) n 0 ((ops.toList.map fun o => iR o.op).map fun x => !x) = true) ∨ jT (eU ops.toList []) n 0 (ops.toList.map fun o => dV o.op) = true)) ∨ (Nat.blt j base = false ∧ ((eU ops.toList []).getD n 0).testBit ((j - base) / 8) = true ∧ aBE (eU ops.toList []) n ((j - base) / 8) 0 (ops.toList.map fun o => iR o.op) = true) := fun n z hz hq j hc => by
    unfold ckL at hc
    rw [apg n z hz, hq] at hc
    cases hb : Nat.beq j 1000000007 with
    | true => rw [hb] at hc; cases hc
    | false =>
      rw [hb] at hc
      cases h3 : Nat.blt j base with
      | true =>
        simp only [h3] at hc
        cases hw : fB W j with
        | true => rw [hw] at hc; exact .inl ⟨rfl, .inl ⟨rfl, hc⟩⟩
        | false => rw [hw] at hc; exact .inl ⟨rfl, .inr hc⟩
      | false =>
        simp only [h3] at hc
        cases h4 : ((eU ops.toList []).getD n 0).testBit ((j - base) / 8) with
        | false => rw [h4] at hc; cases hc
        | true => rw [h4] at hc; exact .inr ⟨rfl, rfl, hc⟩
  have lkN : ∀ (n : Nat) (z : Oper), ops[n]? = some z → iR z.op = false → ∀ j, ckL (eU ops.toList []) (ops.toList.map fun o => dV o.op) (ops.toList.map fun o => iR o.op) W base n j = true → (Nat.blt j base = true ∧ fB W j = false) ∨ (Nat.blt j base = false ∧ ((eU ops.toList []).getD n 0).testBit ((j - base) / 8) = true ∧ aBE (eU ops.toList []) n ((j - base) / 8) 0 (ops.toList.map fun o => iR o.op) = true) := fun n z hz hq j hc => by
    unfold ckL at hc
    rw [apg n z hz, hq] at hc
    cases hb : Nat.beq j 1000000007 with
    | true => rw [hb] at hc; cases hc
    | false =>
      rw [hb] at hc
      cases h3 : Nat.blt j base with
      | true => simp only [h3] at hc; exact .inl ⟨rfl, by simpa using hc⟩
      | false =>
        simp only [h3] at hc
        cases h4 : ((eU ops.toList []).getD n 0).testBit ((j - base) / 8) with
        | false => rw [h4] at hc; cases hc
        | true => rw [h4] at hc; exact .inr ⟨rfl, rfl, hc⟩
  refine ⟨by omega, fun x y' hx hy' => ?_, ckf k i p4', ckf i k hnb⟩
  rw [hy] at hy'; injection hy' with hy'; subst hy'
  have hxe : x = ops[k] := by rw [hxo] at hx; injection hx with hx; exact hx.symm
  subst hxe
  refine ⟨p1, p2, ?_⟩
  by_cases fx : dV ops[k].op = true
  · exact .inl (.inl fx)
  by_cases fy : dV y.op = true
  · exact .inl (.inr fy)
  have sx : jT (eU ops.toList []) k 0 (ops.toList.map fun o => dV o.op) = true → False := fun hs => fy (kQ _ 0 hs i (dV y.op) (by simp [hy]) (by omega) (by rw [Nat.zero_add]; exact p4') (by rw [Nat.zero_add]; exact hnb))
  have sy : jT (eU ops.toList []) i 0 (ops.toList.map fun o => dV o.op) = true → False := fun hs => fx (kQ _ 0 hs k (dV ops[k].op) (by simp [hx]) (by omega) (by rw [Nat.zero_add]; exact hnb) (by rw [Nat.zero_add]; exact p4'))
  have sa : ∀ (n q : Nat) (z : Oper), ops[q]? = some z → iR z.op = true → q ≠ n → ((eU ops.toList []).getD n 0).testBit q = false → ((eU ops.toList []).getD q 0).testBit n = false → jT (eU ops.toList []) n 0 ((ops.toList.map fun o => iR o.op).map fun x => !x) = true → False := fun n q z hz hq hne h1 h2 hs => by
    have := kQ _ 0 hs q (!iR z.op) (by simp [hz]) (by omega) (by rw [Nat.zero_add]; exact h1) (by rw [Nat.zero_add]; exact h2)
    rw [hq] at this; cases this
  cases cx : iR ops[k].op with
  | true => cases cy : iR y.op with
    | true => exact .inr (.inr (fun j g1 g2 => by
        have a1 := (lkA k _ hx cx j g1).resolve_left (fun h => h.2.elim (fun h => sa k i y hy cy (by omega) p4' hnb h.2) sx)
        have a2 := (lkA i _ hy cy j g2).resolve_left (fun h => h.2.elim (fun h => sa i k _ hx cx (by omega) hnb p4' h.2) sy)
        have := oO _ 0 a2.2.2 k (apl k _ hx cx) (by omega) (by rw [Nat.zero_add]; exact hnb) (by rw [Nat.zero_add]; exact p4')
        rw [Nat.zero_add, a1.2.1] at this; cases this))
    | false => exact .inr (.inr (fun j g1 g2 => by
        rcases lkA k _ hx cx j g1 with ⟨b1, ⟨b2, _⟩ | b2⟩ | a1
        · rcases lkN i _ hy cy j g2 with a2 | a2
          · rw [b2] at a2; cases a2.2
          · rw [b1] at a2; cases a2.1
        · exact sx b2
        rcases lkN i _ hy cy j g2 with a2 | a2
        · rw [a1.1] at a2; cases a2.1
        · have := oO _ 0 a2.2.2 k (apl k _ hx cx) (by omega) (by rw [Nat.zero_add]; exact hnb) (by rw [Nat.zero_add]; exact p4')
          rw [Nat.zero_add, a1.2.1] at this; cases this))
  | false => cases cy : iR y.op with
    | true => exact .inr (.inr (fun j g1 g2 => by
        rcases lkA i _ hy cy j g2 with ⟨b1, ⟨b2, _⟩ | b2⟩ | a2
        · rcases lkN k _ hx cx j g1 with a1 | a1
          · rw [b2] at a1; cases a1.2
          · rw [b1] at a1; cases a1.1
        · exact sy b2
        rcases lkN k _ hx cx j g1 with a1 | a1
        · rw [a2.1] at a1; cases a1.1
        · have := oO _ 0 a1.2.2 i (apl i _ hy cy) (by omega) (by rw [Nat.zero_add]; exact p4') (by rw [Nat.zero_add]; exact hnb)
          rw [Nat.zero_add, a2.2.1] at this; cases this))
    | false =>
      rw [cx, cy] at p3
      have p3' : lZ ops[k].op y.op = true := by simpa using p3
      unfold mM
      rw [ckm k, ckm i]
      simp only [Bool.false_and, Bool.or_false]
      simp [lZ] at p3'
      exact p3'.imp (fun h => h) (fun h => .inl h)
theorem aAW {base : Nat} (h : kM ops = true) (hL : oI ops = false) (listed : Array Bool) (i k : Nat) (hsz : listed.size = ops.size)
    (hcl : ∀ j oj, ops[j]? = some oj → listed.getD j false = true → ∀ e ∈ oj.after, Region.binds .any e = true → listed.getD e.on false = true) (hi : i ∈ Region.ready .any ops listed) (hk : k < i) (hun : listed.getD k true = false) :
    rT (ckD (eU ops.toList []) (ops.toList.map fun o => dV o.op) base) base ops k i := by
  obtain ⟨huni, y, hy, hall⟩ := mem_ready.1 hi
  have hlt : i < ops.size := (Array.getElem?_eq_some_iff.1 hy).1
  have h1 := List.all_eq_true.1 h i (List.mem_range.2 hlt)
  simp only [hy, Bool.and_eq_true] at h1
  have h2 := List.all_eq_true.1 h1.2 k (List.mem_range.2 hk)
  have hnb : ((eU ops.toList []).getD i 0).testBit k = false := by
    cases hb : ((eU ops.toList []).getD i 0).testBit k with
    | false => rfl
    | true =>
      have := nC hcl i i y (Nat.le_refl _) hy hall k hb
      rw [lR listed k (by omega) false true, hun] at this; cases this
  rw [hnb, Bool.false_or] at h2
  have hxo : ops[k]? = some ops[k] := Array.getElem?_eq_getElem (by omega)
  rw [hxo] at h2
  simp only [Bool.and_eq_true] at h2
  obtain ⟨⟨⟨p1, p2⟩, p3⟩, p4⟩ := h2
  have ckf : ∀ (n q : Nat), q < ops.size → ((eU ops.toList []).getD n 0).testBit q = false → ∀ j, sid base q ≤ j → j < sid base q + 8 → ckD (eU ops.toList []) (ops.toList.map fun o => dV o.op) base n j = false := fun n q hqs hq j j1 j2 => by
    unfold ckD
    simp only [sid] at j1 j2
    cases hb : Nat.beq j 1000000007 with
    | true =>
      have hj := Nat.eq_of_beq_eq_true hb
      have hb2 : Nat.ble (base + 8 * (ops.toList.map fun o => dV o.op).length) 1000000007 = false := by
        cases hc : Nat.ble (base + 8 * (ops.toList.map fun o => dV o.op).length) 1000000007 with
        | false => rfl
        | true => have := Nat.le_of_ble_eq_true hc; simp at this; omega
      rw [hb2]
    | false =>
      simp only
      have hb2 : Nat.blt j base = false := by
        cases hc : Nat.blt j base with
        | false => rfl
        | true => have := Nat.le_of_ble_eq_true hc; omega
      rw [hb2]
      simp only
      have : (j - base) / 8 = q := by omega
      rw [this]; exact hq
  have cks : ∀ (n q : Nat) (z : Oper), ops[q]? = some z → q ≠ n → ((eU ops.toList []).getD n 0).testBit q = false → ((eU ops.toList []).getD q 0).testBit n = false → ckD (eU ops.toList []) (ops.toList.map fun o => dV o.op) base n 1000000007 = true → dV z.op = true := fun n q z hz hne h1 h2 hc => by
    unfold ckD at hc
    have e : Nat.beq 1000000007 1000000007 = true := by decide
    rw [e] at hc
    simp only at hc
    split at hc
    · exact kQ _ 0 hc q _ (by simp [hz]) (by omega) (by rw [Nat.zero_add]; exact h1) (by rw [Nat.zero_add]; exact h2)
    · cases hc
  have p4' : ((eU ops.toList []).getD k 0).testBit i = false := by simpa using p4
  refine ⟨by omega, fun x y' hx hy' => ?_, ckf k i hlt p4', ckf i k (by omega) hnb⟩
  rw [hy] at hy'; injection hy' with hy'; subst hy'
  refine ⟨?_, ?_, ?_⟩
  · rw [hxo] at hx; injection hx with hx; subst hx; exact p1
  · rw [hxo] at hx; injection hx with hx; subst hx; exact p2
  · have p3' : lZ x.op y.op = true := by
      have hx' := hx
      rw [hxo] at hx'; injection hx' with hx'
      exact aAE (base := base) h hL i k x y hx hy hk hnb (by rw [← hx']; exact p3)
    unfold mM
    cases hk1 : ckD (eU ops.toList []) (ops.toList.map fun o => dV o.op) base k 1000000007 with
    | true => exact .inl (.inr (cks k i y hy (by omega) p4' hnb hk1))
    | false =>
      cases hi1 : ckD (eU ops.toList []) (ops.toList.map fun o => dV o.op) base i 1000000007 with
      | true => exact .inl (.inl (cks i k x hx (by omega) hnb p4' hi1))
      | false =>
        simp only [Bool.false_and, Bool.or_false]
        simp [lZ] at p3'
        exact p3'.imp (fun h => h) (fun h => .inl h)
theorem xT {W : List Nat} {base : Nat} (h : kM ops = true) (hL : oI ops = false) (listed : Array Bool) (i k : Nat) (hsz : listed.size = ops.size)
    (hcl : ∀ j oj, ops[j]? = some oj → listed.getD j false = true → ∀ e ∈ oj.after, Region.binds .any e = true → listed.getD e.on false = true) (hi : i ∈ Region.ready .any ops listed) (hk : k < i) (hun : listed.getD k true = false) :
    rT (ckW (eU ops.toList []) (ops.toList.map fun o => !gQ o.op) W base) base ops k i := by
  obtain ⟨huni, y, hy, hall⟩ := mem_ready.1 hi
  have hlt : i < ops.size := (Array.getElem?_eq_some_iff.1 hy).1
  have h1 := List.all_eq_true.1 h i (List.mem_range.2 hlt)
  simp only [hy, Bool.and_eq_true] at h1
  have h2 := List.all_eq_true.1 h1.2 k (List.mem_range.2 hk)
  have hnb : ((eU ops.toList []).getD i 0).testBit k = false := by
    cases hb : ((eU ops.toList []).getD i 0).testBit k with
    | false => rfl
    | true =>
      have := nC hcl i i y (Nat.le_refl _) hy hall k hb
      rw [lR listed k (by omega) false true, hun] at this; cases this
  rw [hnb, Bool.false_or] at h2
  have hxo : ops[k]? = some ops[k] := Array.getElem?_eq_getElem (by omega)
  rw [hxo] at h2
  simp only [Bool.and_eq_true] at h2
  obtain ⟨⟨⟨p1, p2⟩, p3⟩, p4⟩ := h2
  have hncl : (ops.toList.map fun o => !gQ o.op).length = ops.size := by simp
  have ncg : ∀ (q : Nat) (z : Oper), ops[q]? = some z → (ops.toList.map fun o => !gQ o.op).getD q true = !gQ z.op := fun q z hz => by
    simp [List.getD_eq_getElem?_getD, hz]
  have ckf : ∀ (n q : Nat), q < ops.size → ((eU ops.toList []).getD n 0).testBit q = false → ∀ j, sid base q ≤ j → j < sid base q + 8 → ckW (eU ops.toList []) (ops.toList.map fun o => !gQ o.op) W base n j = false := fun n q hqs hq j j1 j2 => by
    unfold ckW
    simp only [sid] at j1 j2
    cases hb : Nat.beq j 1000000007 with
    | true =>
      have hj := Nat.eq_of_beq_eq_true hb
      have hb2 : Nat.ble (base + 8 * (ops.toList.map fun o => !gQ o.op).length) 1000000007 = false := by
        cases hc : Nat.ble (base + 8 * (ops.toList.map fun o => !gQ o.op).length) 1000000007 with
        | false => rfl
        | true => have := Nat.le_of_ble_eq_true hc; rw [hncl] at this; omega
      rw [hb2]
      cases (ops.toList.map fun o => !gQ o.op).getD n true <;> rfl
    | false =>
      simp only
      have hb2 : Nat.blt j base = false := by
        cases hc : Nat.blt j base with
        | false => rfl
        | true => have := Nat.le_of_ble_eq_true hc; omega
      rw [hb2]
      have : (j - base) / 8 = q := by omega
      cases (ops.toList.map fun o => !gQ o.op).getD n true
      · rfl
      · simp only; rw [this]; exact hq
  have p4' : ((eU ops.toList []).getD k 0).testBit i = false := by simpa using p4
  -- what a call, and what another, may look at
  have ckc : ∀ (n : Nat) (z : Oper), ops[n]? = some z → gQ z.op = true → ∀ j, Nat.beq j 1000000007 = false → ckW (eU ops.toList []) (ops.toList.map fun o => !gQ o.op) W base n j = true → Nat.blt j base = true ∧ fB W j = true := fun n z hz hcv j hb hc => by
    unfold ckW at hc
    rw [hb, ncg n z hz, hcv] at hc
    simp only [Bool.not_true] at hc
    cases h : Nat.blt j base with
    | true => rw [h] at hc; exact ⟨rfl, hc⟩
    | false => rw [h] at hc; cases hc
  have ckn : ∀ (n : Nat) (z : Oper), ops[n]? = some z → gQ z.op = false → ∀ j, (Nat.blt j base = true ∧ fB W j = true) → ckW (eU ops.toList []) (ops.toList.map fun o => !gQ o.op) W base n j = true → False := fun n z hz hcv j hj hc => by
    unfold ckW at hc
    rw [ncg n z hz, hcv, hj.1, hj.2] at hc
    simp only [Bool.not_false, Bool.not_true] at hc
    split at hc
    · cases hc
    · cases hc
  have ckm : ∀ (n : Nat) (z : Oper), ops[n]? = some z → gQ z.op = false → ckW (eU ops.toList []) (ops.toList.map fun o => !gQ o.op) W base n 1000000007 = false := fun n z hz hcv => by
    unfold ckW
    rw [ncg n z hz, hcv, show Nat.beq 1000000007 1000000007 = true by decide]
    rfl
  have ckm2 : ∀ (n q : Nat) (y z : Oper), ops[n]? = some y → ops[q]? = some z → gQ z.op = true → q ≠ n → ((eU ops.toList []).getD n 0).testBit q = false → ((eU ops.toList []).getD q 0).testBit n = false → ckW (eU ops.toList []) (ops.toList.map fun o => !gQ o.op) W base n 1000000007 = false := fun n q y z hy hz hcv hne h1 h2 => by
    cases hc : ckW (eU ops.toList []) (ops.toList.map fun o => !gQ o.op) W base n 1000000007 with
    | false => rfl
    | true =>
      exfalso
      unfold ckW at hc
      rw [show Nat.beq 1000000007 1000000007 = true by decide] at hc
      simp only at hc
      split at hc
      · have := kQ _ 0 hc q (!gQ z.op) (by simp [hz]) (by omega) (by rw [Nat.zero_add]; exact h1) (by rw [Nat.zero_add]; exact h2)
        rw [hcv] at this; cases this
      · cases hc
  have dis : ∀ (n q : Nat) (y z : Oper), ops[n]? = some y → ops[q]? = some z → gQ y.op = true → gQ z.op = false → ∀ j, ckW (eU ops.toList []) (ops.toList.map fun o => !gQ o.op) W base n j = true → ckW (eU ops.toList []) (ops.toList.map fun o => !gQ o.op) W base q j = true → False := fun n q y z hy hz h1 h2 j g1 g2 => by
    cases hb : Nat.beq j 1000000007 with
    | true =>
      have := Nat.eq_of_beq_eq_true hb; subst this
      rw [ckm q z hz h2] at g2; cases g2
    | false => exact ckn q z hz h2 j (ckc n y hy h1 j hb g1) g2
  refine ⟨by omega, fun x y' hx hy' => ?_, ckf k i hlt p4', ckf i k (by omega) hnb⟩
  rw [hy] at hy'; injection hy' with hy'; subst hy'
  refine ⟨?_, ?_, ?_⟩
  · rw [hxo] at hx; injection hx with hx; subst hx; exact p1
  · rw [hxo] at hx; injection hx with hx; subst hx; exact p2
  · have p3' : lZ x.op y.op = true := by
      have hx' := hx
      rw [hxo] at hx'; injection hx' with hx'
      exact aAE (base := base) h hL i k x y hx hy hk hnb (by rw [← hx']; exact p3)
    have old : ckW (eU ops.toList []) (ops.toList.map fun o => !gQ o.op) W base k 1000000007 = false → ckW (eU ops.toList []) (ops.toList.map fun o => !gQ o.op) W base i 1000000007 = false →
        ((dV x.op = true ∨ dV y.op = true) ∨ (mM (ckW (eU ops.toList []) (ops.toList.map fun o => !gQ o.op) W base k) x.op = false ∧ mM (ckW (eU ops.toList []) (ops.toList.map fun o => !gQ o.op) W base i) y.op = false)) := fun m1 m2 => by
      unfold mM
      rw [m1, m2]
      simp only [Bool.false_and, Bool.or_false]
      simp [lZ] at p3'
      exact p3'
    cases cx : gQ x.op with
    | true => cases cy : gQ y.op with
      | true => exact (old (ckm2 k i x y hx hy cy (by omega) p4' hnb) (ckm2 i k y x hy hx cx (by omega) hnb p4')).imp (fun h => h) (fun h => .inl h)
      | false => exact .inr (.inr (dis k i x y hx hy cx cy))
    | false => cases cy : gQ y.op with
      | true => exact .inr (.inr (fun j g1 g2 => dis i k y x hy hx cy cx j g2 g1))
      | false => exact (old (ckm k x hx cx) (ckm i y hy cy)).imp (fun h => h) (fun h => .inl h)
theorem uZ {W : List Nat} {base : Nat} (h : (kM ops = true ∧ oI ops = false) ∨ yX ops = true) (listed : Array Bool) (i k : Nat) (hsz : listed.size = ops.size)
    (hcl : ∀ j oj, ops[j]? = some oj → listed.getD j false = true → ∀ e ∈ oj.after, Region.binds .any e = true → listed.getD e.on false = true) (hi : i ∈ Region.ready .any ops listed) (hk : k < i) (hun : listed.getD k true = false) :
    rT (ckS (eU ops.toList []) (ops.toList.map fun o => !stV o.op) W base) base ops k i := by
  obtain ⟨huni, y, hy, hall⟩ := mem_ready.1 hi
  have hlt : i < ops.size := (Array.getElem?_eq_some_iff.1 hy).1
  have hnb : ((eU ops.toList []).getD i 0).testBit k = false := by
    cases hb : ((eU ops.toList []).getD i 0).testBit k with
    | false => rfl
    | true =>
      have := nC hcl i i y (Nat.le_refl _) hy hall k hb
      rw [lR listed k (by omega) false true, hun] at this; cases this
  have hxo : ops[k]? = some ops[k] := Array.getElem?_eq_getElem (by omega)
  obtain ⟨p1, p2, p3, p4'⟩ : ops[k].apart ops y = true ∧ y.apart ops ops[k] = true ∧ (lZ ops[k].op y.op || stV ops[k].op || stV y.op) = true ∧ ((eU ops.toList []).getD k 0).testBit i = false := by
    rcases h with ⟨h, hL⟩ | h
    · have h1 := List.all_eq_true.1 h i (List.mem_range.2 hlt)
      simp only [hy, Bool.and_eq_true] at h1
      have h2 := List.all_eq_true.1 h1.2 k (List.mem_range.2 hk)
      rw [hnb, Bool.false_or, hxo] at h2
      simp only [Bool.and_eq_true] at h2
      obtain ⟨⟨⟨p1, p2⟩, p3⟩, p4⟩ := h2
      have := aAE (base := base) h hL i k _ y hxo hy hk hnb p3
      exact ⟨p1, p2, by rw [this]; rfl, by simpa using p4⟩
    · have h1 := List.all_eq_true.1 h i (List.mem_range.2 hlt)
      simp only [hy, Bool.and_eq_true] at h1
      have h2 := List.all_eq_true.1 h1.2 k (List.mem_range.2 hk)
      rw [hnb, Bool.false_or, hxo] at h2
      simp only [Bool.and_eq_true] at h2
      obtain ⟨⟨⟨p1, p2⟩, p3⟩, p4⟩ := h2
      exact ⟨p1, p2, p3, by simpa using p4⟩
  have nsg : ∀ (q : Nat) (z : Oper), ops[q]? = some z → (ops.toList.map fun o => !stV o.op).getD q true = !stV z.op := fun q z hz => by
    simp [List.getD_eq_getElem?_getD, hz]
  have nsl : ∀ (q : Nat) (z : Oper), ops[q]? = some z → (ops.toList.map fun o => !stV o.op)[q]? = some (!stV z.op) := fun q z hz => by
    simp [hz]
  have ckf : ∀ (n q : Nat), ((eU ops.toList []).getD n 0).testBit q = false → ∀ j, sid base q ≤ j → j < sid base q + 8 → ckS (eU ops.toList []) (ops.toList.map fun o => !stV o.op) W base n j = false := fun n q hq j j1 j2 => by
    unfold ckS
    simp only [sid] at j1 j2
    cases hb : Nat.beq j 1000000007 with
    | true => rfl
    | false =>
      simp only
      have hb2 : Nat.blt j base = false := by
        cases hc : Nat.blt j base with
        | false => rfl
        | true => have := Nat.le_of_ble_eq_true hc; omega
      rw [hb2]
      have : (j - base) / 8 = q := by omega
      rw [this, hq]
      cases (ops.toList.map fun o => !stV o.op).getD n true <;> rfl
  have ckm : ∀ n, ckS (eU ops.toList []) (ops.toList.map fun o => !stV o.op) W base n 1000000007 = false := fun n => by
    unfold ckS
    rw [show Nat.beq 1000000007 1000000007 = true by decide]
  have lkT : ∀ (n : Nat) (z : Oper), ops[n]? = some z → stV z.op = true → ∀ j, ckS (eU ops.toList []) (ops.toList.map fun o => !stV o.op) W base n j = true → Nat.blt j base = true ∧ fB W j = true ∧ jT (eU ops.toList []) n 0 (ops.toList.map fun o => !stV o.op) = true := fun n z hz hq j hc => by
    unfold ckS at hc
    rw [nsg n z hz, hq] at hc
    cases hb : Nat.beq j 1000000007 with
    | true => rw [hb] at hc; cases hc
    | false =>
      rw [hb] at hc
      cases h3 : Nat.blt j base with
      | false => simp only [h3] at hc; cases hc
      | true =>
        simp only [h3] at hc
        cases h4 : fB W j with
        | false => simp only [h4] at hc; cases hc
        | true => simp only [h4] at hc; exact ⟨rfl, rfl, hc⟩
  have lkN : ∀ (n : Nat) (z : Oper), ops[n]? = some z → stV z.op = false → ∀ j, Nat.blt j base = true → ckS (eU ops.toList []) (ops.toList.map fun o => !stV o.op) W base n j = true → fB W j = false := fun n z hz hq j h3 hc => by
    unfold ckS at hc
    rw [nsg n z hz, hq] at hc
    cases hb : Nat.beq j 1000000007 with
    | true => rw [hb] at hc; cases hc
    | false =>
      rw [hb] at hc
      simp only [h3] at hc
      simpa using hc
  refine ⟨by omega, fun x y' hx hy' => ?_, ckf k i p4', ckf i k hnb⟩
  rw [hy] at hy'; injection hy' with hy'; subst hy'
  have hxe : x = ops[k] := by rw [hxo] at hx; injection hx with hx; exact hx.symm
  subst hxe
  refine ⟨p1, p2, ?_⟩
  cases cx : stV ops[k].op with
  | true => cases cy : stV y.op with
    | true => exact .inr (.inr (fun j g1 g2 => by
        have := kQ _ 0 (lkT k _ hx cx j g1).2.2 i _ (nsl i y hy) (by omega) (by rw [Nat.zero_add]; exact p4') (by rw [Nat.zero_add]; exact hnb)
        rw [cy] at this; cases this))
    | false => exact .inr (.inr (fun j g1 g2 => by
        have a1 := lkT k _ hx cx j g1
        have a2 := lkN i _ hy cy j a1.1 g2
        rw [a1.2.1] at a2; cases a2))
  | false => cases cy : stV y.op with
    | true => exact .inr (.inr (fun j g1 g2 => by
        have a1 := lkT i _ hy cy j g2
        have a2 := lkN k _ hx cx j a1.1 g1
        rw [a1.2.1] at a2; cases a2))
    | false =>
      rw [cx, cy] at p3
      have p3' : lZ ops[k].op y.op = true := by simpa using p3
      unfold mM
      rw [ckm k, ckm i]
      simp only [Bool.false_and, Bool.or_false]
      simp [lZ] at p3'
      exact p3'.imp (fun h => h) (fun h => .inl h)
theorem Ok.drew {bd : Nat → Prop} {σ : St} {a : Act} {w : World} {A : Nat → Prop} {μ : Nat → Option Loc} (h : Ok w0 X A0 N bd σ a w A μ) : Ok w0 X A0 N bd σ a w.drew A μ :=
  ⟨h.tm, h.df, fun t => (h.env t).mono (w := w) (w' := w.drew) (fun _ h => h) (fun _ _ _ h => h) (fun _ _ h => h), h.os, h.tape, h.out, h.size, h.old, h.hA, h.sub,
    fun i ob hi => by
      obtain ⟨l, h1, h2, h3⟩ := h.ob i ob hi
      exact ⟨l, h1, h2.mono (w := w) (w' := w.drew) (fun _ h => h) (fun _ _ _ h => h) (fun _ _ h => h) (fun _ _ => rfl), h3⟩, h.ap, h.bd⟩
theorem xM {id : Nat} {draw : Bool} {W : List Nat} {K : St → Prop} {σ : St} {a : Act} {w : World} {A : Nat → Prop} {μ : Nat → Option Loc} (hT : TOk P T) (hG : GX G w0 X A0) (hP : P.follows .mixedOrders = true) (hc : aHV N ops draw = true) (h : Ok w0 X A0 N (fun j => j < σ.next) σ a w A μ) (hW : (∃ env, W = wOf ops env draw) ∨ ∃ W', W = 1000000009 :: W' ∧ oI ops = true)
    (hr : rgo P G T (aEY ops σ.next W draw) σ.next ops 0 ops.toList K σ) :
    (Code.region id ops draw).wp P (fun e a' w' => e = .normal ∧ ∃ σ', K σ' ∧ iJ w0 X A0 N (fun j => j < σ.next + 8 * ops.size) σ' (ops.toList.filterMap (·.dst)) a w A μ a' w') a w := by
  simp only [aHV, Bool.and_eq_true] at hc
  have hdst : ∀ (i : Nat) (o : Oper), ops[i]? = some o → ∀ n, o.dst = some n → n < N ∧ n ∈ ops.toList.filterMap (·.dst) := fun i o ho n hn => by
    have hm : o ∈ ops.toList := by have := Array.mem_of_getElem? ho; simpa using this
    have := List.all_eq_true.1 hc.1 o hm
    rw [hn] at this
    exact ⟨Nat.le_of_ble_eq_true this, List.mem_filterMap.2 ⟨o, hm, hn⟩⟩
  cases draw with
  | false =>
    refine wp_region ?_
    rw [List.range_eq_range']
    exact aCW hT hG hdst ops.size 0 σ a w A μ (by omega) (h.bdm (fun j hj => by omega)) (by simpa using hr)
  | true =>
    have hd : kM ops = true ∨ (yX ops = true ∧ (ops.toList.any fun o => iR o.op) = false) := by
      have := hc.2
      simp only [Bool.not_true, Bool.false_or, Bool.or_eq_true, Bool.and_eq_true, Bool.not_eq_true'] at this
      exact this
    have hlow : ∀ (i : Nat) (o : Oper), ops[i]? = some o → ∀ e ∈ o.after, Region.binds .any e = true → e.on < i := hd.elim aAL fun h => aDR h.1
    have hind : ∀ (listed : Array Bool) (i k : Nat), listed.size = ops.size → (∀ j oj, ops[j]? = some oj → listed.getD j false = true → ∀ e ∈ oj.after, Region.binds .any e = true → listed.getD e.on false = true) → i ∈ Region.ready .any ops listed → k < i → listed.getD k true = false → rT (aEY ops σ.next W true) σ.next ops k i := by
      clear hr
      intro l i k a1 a2 a3 a4 a5
      rcases hW.symm with ⟨W', rfl, hm⟩ | ⟨env, hW⟩
      · have hd : kM ops = true := hd.resolve_right (fun h => by
          unfold oI at hm
          rw [h.2] at hm; cases hm)
        exact oF hd l i k a1 a2 a3 a4 a5
      unfold wOf at hW
      cases hm : oI ops with
      | true =>
        rw [hm] at hW
        subst hW
        have hd : kM ops = true := hd.resolve_right (fun h => by
          unfold oI at hm
          rw [h.2] at hm; cases hm)
        exact oF (W := []) (base := σ.next) hd l i k a1 a2 a3 a4 a5
      | false =>
        rw [hm] at hW
        simp only at hW
        cases hs : aGR ops with
        | true =>
          rw [hs] at hW
          subst hW
          exact uZ (hd.imp (fun h => ⟨h, hm⟩) (fun h => h.1)) l i k a1 a2 a3 a4 a5
        | false =>
          clear hW
          have hd : kM ops = true := by
            rcases hd with hd | ⟨h1, h2⟩
            · exact hd
            · refine aFJ h1 ?_
              unfold aGR at hs
              rw [h2] at hs
              cases h3 : ops.toList.any fun o => stV o.op with
              | false => exact aJK h3 h2
              | true => rw [h3] at hs; simpa using hs
          cases W with
          | nil => exact aAW hd hm l i k a1 a2 a3 a4 a5
          | cons w W =>
            show rT (match Nat.beq w 1000000009 with | true => ckL _ _ _ _ _ | false => match Nat.beq w 1000000011 with | true => ckS _ _ _ _ | false => ckW _ _ _ _) _ _ _ _
            cases Nat.beq w 1000000009 with
            | true => exact oF hd l i k a1 a2 a3 a4 a5
            | false => cases Nat.beq w 1000000011 with
              | true => exact uZ (.inl ⟨hd, hm⟩) l i k a1 a2 a3 a4 a5
              | false => exact xT hd hm l i k a1 a2 a3 a4 a5
    obtain ⟨τ, h1, h2⟩ := nX (ops := ops) (ck := aEY ops σ.next W true) ops.size 0 σ (by omega) (by simpa using hr)
    have := wp_region_any (P := P) (id := id) (a := a) (w := w) (ops := ops) (Q := fun e a' w' => e = .normal ∧ ∃ σ', K σ' ∧ iJ w0 X A0 N (fun j => j < σ.next + 8 * ops.size) σ' (ops.toList.filterMap (·.dst)) a w.drew A μ a' w') hP
      (uY (ck := aEY ops σ.next W true) hT hG hdst hind hlow ops.size (List.range' 0 ops.size) (Array.replicate ops.size false) σ τ a _ A μ (by simp) (by simp)
        (by rw [← List.range_eq_range', List.filter_eq_self.2]; intro i hi; simp [List.mem_range.1 hi]) (fun j oj hj hl => by simp [(Array.getElem?_eq_some_iff.1 hj).1] at hl) (h.drew.bdm (fun j hj => .inl hj)) h1 h2)
    exact wp_mono this (fun e a' w' ⟨he, σ', hk, A', μ', g1, g2⟩ => ⟨he, σ', hk, A', μ', g1, ⟨fun ad c hA hc => g2.cell ad c hA hc, g2.sub, g2.mu, g2.tm⟩⟩)
end
end Go.Aw
set_option linter.unusedVariables false
namespace Go.Aw
section
variable {P : Program} {G : Nat → Option Obj} {T : TypeId → Option TI} {w0 : World} {X A0 : Nat → Prop} {N : Nat} {Q : Exit → Act → World → Prop}
theorem aAH {c : Code} {a : Act} {w : World} (J : Nat → Act → World → Prop) (h0 : ∃ n, J n a w) (round : ∀ n a w, J n a w → c.wp P (Exit.then (fun a' w' => ∃ n', n' < n ∧ J n' a' w') Q) a w) : (Code.loop c).wp P Q a w := by
  intro b k cs
  have key : ∀ n a w, J n a w → ∃ e a' w', Q e a' w' ∧ Arrives P (lone (b.at a (.code c :: .inLoop c :: k)) cs w) b k cs e a' w' := fun n => by
    induction n using Nat.strongRecOn with
    | _ n ih =>
      intro a w hJ
      obtain ⟨e, a₁, w₁, hq, harr⟩ := round n a w hJ b (.inLoop c :: k) cs
      cases e with
      | normal =>
        obtain ⟨n', hlt, hJ'⟩ := hq
        obtain ⟨e₂, a₂, w₂, hq₂, harr₂⟩ := ih n' hlt a₁ w₁ hJ'
        exact ⟨e₂, a₂, w₂, hq₂, .of_steps (Steps.trans harr (.one step_inLoop)) harr₂⟩
      | exit id => exact ⟨_, a₁, w₁, hq, .pass (x := .inLoop c) rfl (fun _ _ => .inl (by simp)) harr⟩
      | goto l => exact ⟨_, a₁, w₁, hq, .pass (x := .inLoop c) rfl (fun _ _ => .inl (by simp)) harr⟩
      | ret => exact ⟨_, a₁, w₁, hq, .pass (x := .inLoop c) rfl (fun _ _ => .inl (by simp)) harr⟩
      | panic ch => exact ⟨_, a₁, w₁, hq, .pass (x := .inLoop c) rfl (fun _ _ => .inl (by simp)) harr⟩
      | outgrown => exact ⟨_, a₁, w₁, hq, .pass (x := .inLoop c) rfl (fun _ _ => .inl (by simp)) harr⟩
  obtain ⟨n, hn⟩ := h0
  obtain ⟨e, a', w', hq, harr⟩ := key n a w hn
  exact ⟨e, a', w', hq, .of_steps (.one step_loop) harr⟩
theorem gX : ∀ (l : List Nat) (t : Nat), fB l t = true ↔ t ∈ l
  | [], t => by simp [fB]
  | k :: l, t => by
    simp only [fB]
    cases hb : Nat.beq k t with
    | true => have := Nat.eq_of_beq_eq_true hb; subst this; simp
    | false =>
      have := Nat.ne_of_beq_eq_false hb
      simp only [List.mem_cons]
      rw [gX l t]
      constructor
      · exact .inr
      · rintro (h | h)
        · exact absurd h.symm this
        · exact h
theorem jI {α : Type} : ∀ (l : List (Nat × α)) (i : Nat) (x : α), lk l i = some x → (i, x) ∈ l
  | [], i, x, h => by cases h
  | (k, y) :: l, i, x, h => by
    simp only [lk] at h
    cases hb : Nat.beq k i with
    | true => rw [hb] at h; injection h with h; subst h; have := Nat.eq_of_beq_eq_true hb; subst this; exact List.mem_cons_self ..
    | false => rw [hb] at h; exact List.mem_cons_of_mem _ (jI l i x h)
theorem Rv.shrink {w we : World} {A Ae : Nat → Prop} {μ μe μ' : Nat → Option Loc} (hd_ : ∀ i l, μe i = some l → ∃ l', μ i = some l' ∧ μ' i = some l') {u : V} {c : Value} (h : Rv w A μ u c) : ∀ {ce : Value}, Rv we Ae μe u ce → Rv w A μ' u c := by
  induction h with
  | c h => exact fun _ => .c h
  | agg xs cs hl h ih =>
    intro ce he
    obtain ⟨es, _, hel, her⟩ := he.agg_inv
    refine .agg xs cs hl (fun i x c hx hc => ?_)
    have hlt : i < es.size := by rw [hel]; exact (List.getElem?_eq_some_iff.1 hx).1
    exact ih i x c hx hc (her i x _ hx (Array.getElem?_eq_getElem hlt))
  | tup xs cs hl h ih =>
    intro ce he
    obtain ⟨es, _, hel, her⟩ := he.tup_inv
    refine .tup xs cs hl (fun i x c hx hc => ?_)
    have hlt : i < es.size := by rw [hel]; exact (List.getElem?_eq_some_iff.1 hx).1
    exact ih i x c hx hc (her i x _ hx (Array.getElem?_eq_getElem hlt))
  | own i l h =>
    intro ce he
    obtain ⟨l', hl', _⟩ := he.own_inv
    obtain ⟨l2, h1, h2⟩ := hd_ _ _ hl'
    rw [h] at h1; injection h1 with h1; subst h1
    exact .own i l h2
  | bp i off l b h hb =>
    intro ce he
    obtain ⟨l', _, hl', _⟩ := he.bp_inv
    obtain ⟨l2, h1, h2⟩ := hd_ _ _ hl'
    rw [h] at h1; injection h1 with h1; subst h1
    exact .bp i off l b h2 hb
  | ep i j off l b h hb =>
    intro ce he
    obtain ⟨l', _, hl', _⟩ := he.ep_inv
    obtain ⟨l2, h1, h2⟩ := hd_ _ _ hl'
    rw [h] at h1; injection h1 with h1; subst h1
    exact .ep i j off l b h2 hb
  | cf f i l b h hb =>
    intro ce he
    obtain ⟨l', _, hl', _⟩ := he.cf_inv
    obtain ⟨l2, h1, h2⟩ := hd_ _ _ hl'
    rw [h] at h1; injection h1 with h1; subst h1
    exact .cf f i l b h2 hb
  | dsl i j off l d h hb =>
    intro ce he
    obtain ⟨l', _, hl', _⟩ := he.dsl_inv
    obtain ⟨l2, h1, h2⟩ := hd_ _ _ hl'
    rw [h] at h1; injection h1 with h1; subst h1
    exact .dsl i j off l d h2 hb
  | mp i l b h hb =>
    intro ce he
    obtain ⟨l', _, hl', _⟩ := he.mp_inv
    obtain ⟨l2, h1, h2⟩ := hd_ _ _ hl'
    rw [h] at h1; injection h1 with h1; subst h1
    exact .mp i l b h2 hb
  | ifs t i l h =>
    intro ce he
    obtain ⟨l', hl', _⟩ := he.ifs_inv
    obtain ⟨l2, h1, h2⟩ := hd_ _ _ hl'
    rw [h] at h1; injection h1 with h1; subst h1
    exact .ifs t i l h2
  | ip i a b c j o l d b' h hd hb =>
    intro ce he
    obtain ⟨l', _, _, hl', _⟩ := he.ip_inv
    obtain ⟨l2, h1, h2⟩ := hd_ _ _ hl'
    rw [h] at h1; injection h1 with h1; subst h1
    exact .ip i a b c j o l d b' h2 hd hb
def mY (l l' : Loc) : Prop := l'.b = l.b ∧ l'.len = l.len ∧ l'.cap = l.cap ∧ l'.sz = l.sz
theorem mY.refl (l : Loc) : mY l l := ⟨rfl, rfl, rfl, rfl⟩
theorem mY.trans {l l' l2 : Loc} (h : mY l l') (k : mY l' l2) : mY l l2 := ⟨k.1.trans h.1, k.2.1.trans h.2.1, k.2.2.1.trans h.2.2.1, k.2.2.2.trans h.2.2.2⟩
structure kO (n0 : Nat) (hv : List Tmp) (a : Act) (w : World) (A : Nat → Prop) (μ : Nat → Option Loc) (a' : Act) (w' : World) (A' : Nat → Prop) (μ' : Nat → Option Loc) : Prop where
  cell : ∀ ad c, A ad.block → w.cell? ad = some c → w'.cell? ad = some c
  sub : ∀ b, A b → A' b
  mu0 : ∀ i l, i < n0 → μ i = some l → μ' i = some l
  mu : ∀ i l, μ i = some l → ∃ l', μ' i = some l' ∧ mY l l'
  tm : ∀ t, t ∉ hv → a'.tmps[t]? = a.tmps[t]?
theorem Ext.w {n0 : Nat} {hv : List Tmp} {a : Act} {w : World} {A : Nat → Prop} {μ : Nat → Option Loc} {a' : Act} {w' : World} {A' : Nat → Prop} {μ' : Nat → Option Loc} (h : Ext hv a w A μ a' w' A' μ') : kO n0 hv a w A μ a' w' A' μ' :=
  ⟨h.cell, h.sub, fun i l _ hl => h.mu i l hl, fun i l hl => ⟨l, h.mu i l hl, mY.refl l⟩, h.tm⟩
theorem kO.refl (n0 : Nat) (hv : List Tmp) (a : Act) (w : World) (A : Nat → Prop) (μ : Nat → Option Loc) : kO n0 hv a w A μ a w A μ := (Ext.refl hv a w A μ).w
theorem kO.trans {n0 : Nat} {hv hv' : List Tmp} {a a1 a2 : Act} {w w1 w2 : World} {A A1 A2 : Nat → Prop} {μ μ1 μ2 : Nat → Option Loc} (h : kO n0 hv a w A μ a1 w1 A1 μ1) (k : kO n0 hv' a1 w1 A1 μ1 a2 w2 A2 μ2) :
    kO n0 (hv ++ hv') a w A μ a2 w2 A2 μ2 :=
  ⟨fun ad c hA hc => k.cell _ _ (h.sub _ hA) (h.cell _ _ hA hc), fun b hb => k.sub _ (h.sub _ hb), fun i l hi hl => k.mu0 _ _ hi (h.mu0 _ _ hi hl), fun i l hi => (by
    obtain ⟨l1, h1, c1⟩ := h.mu i l hi
    obtain ⟨l2, h2, c2⟩ := k.mu i l1 h1
    exact ⟨l2, h2, c1.trans c2⟩),
    fun t ht => (k.tm t (fun hm => ht (List.mem_append_right _ hm))).trans (h.tm t (fun hm => ht (List.mem_append_left _ hm)))⟩
theorem kO.mono {n0 : Nat} {hv hv' : List Tmp} {a a1 : Act} {w w1 : World} {A A1 : Nat → Prop} {μ μ1 : Nat → Option Loc} (h : kO n0 hv a w A μ a1 w1 A1 μ1) (hs : ∀ t ∈ hv, t ∈ hv') : kO n0 hv' a w A μ a1 w1 A1 μ1 :=
  ⟨h.cell, h.sub, h.mu0, h.mu, fun t ht => h.tm t (fun hm => ht (hs t hm))⟩
theorem kO.trans' {n0 : Nat} {hv : List Tmp} {a a1 a2 : Act} {w w1 w2 : World} {A A1 A2 : Nat → Prop} {μ μ1 μ2 : Nat → Option Loc} (h : kO n0 hv a w A μ a1 w1 A1 μ1) (k : kO n0 hv a1 w1 A1 μ1 a2 w2 A2 μ2) :
    kO n0 hv a w A μ a2 w2 A2 μ2 := (h.trans k).mono (fun t ht => (List.mem_append.1 ht).elim id id)
section
variable {w w' : World} {A A' : Nat → Prop} {μ μ' : Nat → Option Loc}
theorem Rv.monoC1 (hA : ∀ b, A b → A' b) (hw : ∀ ad c, A ad.block → w.cell? ad = some c → w'.cell? ad = some c) (hm : ∀ i l, μ i = some l → ∃ l', μ' i = some l' ∧ mY l l') {x : V} {v : Value} (hn : x.nd1 = true) (h : Rv w A μ x v) : Rv w' A' μ' x v := by
  cases h with
  | c h => exact .c (h.mono hA hw)
  | agg xs cs hl h => cases hn
  | tup xs cs hl h => cases hn
  | own i l h =>
    obtain ⟨l', h', e1, e2, e3, e4⟩ := hm _ _ h
    rw [← e1, ← e2, ← e3]; exact .own i l' h'
  | bp i off l b h hb =>
    obtain ⟨l', h', e1, e2, e3, e4⟩ := hm _ _ h
    exact .bp i off l' b h' (e1.trans hb)
  | ep i idx off l b h hb =>
    obtain ⟨l', h', e1, e2, e3, e4⟩ := hm _ _ h
    rw [← e4]; exact .ep i idx off l' b h' (e1.trans hb)
  | cf f i l b h hb =>
    obtain ⟨l', h', e1, e2, e3, e4⟩ := hm _ _ h
    exact .cf f i l' b h' (e1.trans hb)
  | dsl i idx off l d h hd => cases hn
  | ip i a b c j o l d b' h hd hb => cases hn
  | mp i l b h hb =>
    obtain ⟨l', h', e1, e2, e3, e4⟩ := hm _ _ h
    exact .mp i l' b h' (e1.trans hb)
  | ifs t i l h =>
    obtain ⟨l', h', e1, e2, e3, e4⟩ := hm _ _ h
    rw [← e1, ← e2, ← e3]; exact .ifs t i l' h'
theorem Rv.monoC2 (hA : ∀ b, A b → A' b) (hw : ∀ ad c, A ad.block → w.cell? ad = some c → w'.cell? ad = some c) (hm : ∀ i l, μ i = some l → ∃ l', μ' i = some l' ∧ mY l l') {x : V} {v : Value} (hn : x.nd2 = true) (h : Rv w A μ x v) : Rv w' A' μ' x v := by
  by_cases hx : ∃ xs, x = .agg xs
  · obtain ⟨xs, rfl⟩ := hx
    obtain ⟨cs, rfl, hs, hr⟩ := h.agg_inv
    exact .agg _ cs hs (fun i y c hy hc => (hr i y c hy hc).monoC1 hA hw hm (List.all_eq_true.1 hn y (List.mem_of_getElem? hy)))
  · exact h.monoC1 hA hw hm (by cases x <;> first | exact hn | exact absurd ⟨_, rfl⟩ hx)
theorem Rv.monoC (hA : ∀ b, A b → A' b) (hw : ∀ ad c, A ad.block → w.cell? ad = some c → w'.cell? ad = some c) (hm : ∀ i l, μ i = some l → ∃ l', μ' i = some l' ∧ mY l l') {x : V} {v : Value} (hn : x.nod = true) (h : Rv w A μ x v) : Rv w' A' μ' x v := by
  by_cases hx : ∃ xs, x = .tup xs
  · obtain ⟨xs, rfl⟩ := hx
    obtain ⟨cs, rfl, hs, hr⟩ := h.tup_inv
    exact .tup _ cs hs (fun i y c hy hc => (hr i y c hy hc).monoC2 hA hw hm (List.all_eq_true.1 hn y (List.mem_of_getElem? hy)))
  · exact h.monoC2 hA hw hm (by cases x <;> first | exact hn | exact absurd ⟨_, rfl⟩ hx)
end
theorem aCX {rn : List (Option Nat)} : ∀ (us vs : List V), MtL rn us vs → us.length = vs.length ∧ ∀ (i : Nat) (u v : V), us[i]? = some u → vs[i]? = some v → Mt rn u v
  | [], [], _ => ⟨rfl, fun i u v h => by simp at h⟩
  | u :: us, v :: vs, ⟨h1, h2⟩ => by
    obtain ⟨g1, g2⟩ := aCX us vs h2
    refine ⟨by simp [g1], fun i u' v' hu hv => ?_⟩
    cases i with
    | zero => simp at hu hv; subst hu; subst hv; exact h1
    | succ i => exact g2 i u' v' (by simpa using hu) (by simpa using hv)
  | [], _ :: _, h => h.elim
  | _ :: _, [], h => h.elim
theorem xC : ∀ (rn : List (Option Nat)), (rn.filterMap id).Nodup → ∀ j j' k : Nat, rn[j]? = some (some k) → rn[j']? = some (some k) → j = j'
  | [], _, j, j', k, h1, _ => by simp at h1
  | r :: rs, f3, j, j', k, h1, h2 => by
    have mem : ∀ n : Nat, rs[n]? = some (some k) → k ∈ rs.filterMap id := fun n hn => List.mem_filterMap.2 ⟨some k, List.mem_of_getElem? hn, rfl⟩
    cases r with
    | none =>
      cases j with
      | zero => simp at h1
      | succ j => cases j' with
        | zero => simp at h2
        | succ j' => rw [xC rs (by simpa using f3) j j' k (by simpa using h1) (by simpa using h2)]
    | some q =>
      have f3' : q ∉ rs.filterMap id ∧ (rs.filterMap id).Nodup := by simpa using f3
      cases j with
      | zero => cases j' with
        | zero => rfl
        | succ j' => simp at h1 h2; subst h1; exact absurd (mem j' (by simpa using h2)) f3'.1
      | succ j => cases j' with
        | zero => simp at h1 h2; subst h2; exact absurd (mem j (by simpa using h1)) f3'.1
        | succ j' => rw [xC rs f3'.2 j j' k (by simpa using h1) (by simpa using h2)]
theorem aFO {w : World} {A : Nat → Prop} {μ : Nat → Option Loc} {ob : Ob} (h : ob.emp = true) : gP w A μ ⟨none, 0, 0, ob.sz0, []⟩ ob := by
  unfold Ob.emp at h
  split at h
  · exact ⟨rfl, rfl, fun _ h => (by cases h), [], ⟨by simp, .inl ⟨rfl, rfl⟩⟩, fun _ h => (by cases h), fun k u c hk => by simp at hk⟩
  · exact ⟨fun k d b hk => (by cases hk), rfl, rfl, fun _ h => (by cases h), [], ⟨by simp, .inl ⟨rfl, rfl⟩⟩, fun _ h => (by cases h), fun k u c hk => by simp at hk⟩
  · cases h
theorem qY {n0 : Nat} {σ0 σ : St} {hv : List Tmp} {md : List Nat} {E : List (Nat × V)} {B : List (Nat × Ob)} {M : List Ob} {rn : List (Option Nat)} {ae a : Act} {we w : World} {Ae A : Nat → Prop} {μe μ : Nat → Option Loc} {bd : Nat → Prop}
    (he : Ok w0 X A0 N (fun j => j < σ0.next) σ0 ae we Ae μe) (h : Ok w0 X A0 N bd σ a w A μ) (hx : kO n0 hv ae we Ae μe a w A μ) (hf : cG σ0 σ md E B M rn) :
    ∃ μ', Ok w0 X A0 N (fun j => j < (sL σ0 hv md E B M).next) (sL σ0 hv md E B M) a w A μ' ∧ kO n0 hv ae we Ae μe a w A μ' := by
  obtain ⟨f1, f2, f3, f4, f5, f6, f7, f8, f9⟩ := hf
  let μ' : Nat → Option Loc := fun i => if i < σ0.next then (match μe i with | some _ => μ i | none => none) else match rn[i - σ0.next]? with
    | some (some k) => μ k
    | some none => match M[i - σ0.next]? with | some ob => some ⟨none, 0, 0, ob.sz0, []⟩ | none => none
    | none => none
  have hlo : ∀ i l, i < σ0.next → μe i = some l → μ' i = μ i := fun i l hi hl => by
    show (if i < σ0.next then (match μe i with | some _ => μ i | none => none) else _) = _
    rw [if_pos hi, hl]
  have hhi : ∀ j, μ' (σ0.next + j) = match rn[j]? with | some (some k) => μ k | some none => (match M[j]? with | some ob => some ⟨none, 0, 0, ob.sz0, []⟩ | none => none) | none => none := fun j => by
    show (if σ0.next + j < σ0.next then _ else _) = _
    rw [if_neg (by omega)]
    simp only [Nat.add_sub_cancel_left]
  have hμe : ∀ i l, μe i = some l → ∃ l', μ i = some l' ∧ mY l l' ∧ μ' i = some l' := fun i l hi => by
    obtain ⟨l', h1, h2⟩ := hx.mu i l hi
    exact ⟨l', h1, h2, by rw [hlo i l (he.bd i (by rw [hi]; simp)) hi]; exact h1⟩
  have hcell := hx.cell
  -- a value told at the sL
  have hmt : ∀ (u v : V) (c : Value), Mt rn u v → Rv w A μ u c → Rv w A μ' (v.ren1 (σ0.next + ·)) c := fun u v c hm hr => by
    have other : v.ren1 (σ0.next + ·) = v → (u = v ∧ v.shutA = true) ∨ (u = .nil ∧ ∃ sz, v = .sl sz 0 []) → Rv w A μ' (v.ren1 (σ0.next + ·)) c := fun e hc => by
      rw [e]
      rcases hc with ⟨e1, e2⟩ | ⟨rfl, sz, rfl⟩
      · subst e1
        by_cases hx : ∃ xs, u = .agg xs
        · obtain ⟨xs, rfl⟩ := hx
          obtain ⟨cs, rfl, hs, hrr⟩ := hr.agg_inv
          exact .agg _ cs hs (fun i y d hy hd => .c (iT (hrr i y d hy hd) (List.all_eq_true.1 e2 y (List.mem_of_getElem? hy))))
        · exact .c (iT hr (by cases u <;> first | exact e2 | exact absurd ⟨_, rfl⟩ hx))
      · have := hr.nil_inv; subst this
        exact .c (.sl sz 0 [] rfl none 0 (fun _ => undef) (Nat.le_refl _) (fun p hp => by cases hp) (fun h => absurd rfl h) (fun ad k u ha => by cases ha) (fun k u hk => by simp at hk) (fun k u hk => by simp at hk))
    cases v with
    | own j len =>
      simp only [Mt] at hm
      split at hm
      · rename_i i hi
        subst hm
        obtain ⟨l, hl, rfl, rfl⟩ := hr.own_inv
        exact .own _ l (by show μ' (σ0.next + j) = _; rw [hhi, hi]; exact hl)
      · rename_i hi
        obtain ⟨rfl, rfl⟩ := hm
        obtain ⟨eo, hM, _⟩ := f6 j hi
        have := hr.nil_inv; subst this
        exact .own _ ⟨none, 0, 0, eo.sz0, []⟩ (by show μ' (σ0.next + j) = _; rw [hhi, hi, hM])
      · exact hm.elim
    | bp i off => rcases hm with ⟨_, h2⟩ | ⟨_, _, h2⟩ <;> cases h2
    | ep i j off => rcases hm with ⟨_, h2⟩ | ⟨_, _, h2⟩ <;> cases h2
    | cf f i => rcases hm with ⟨_, h2⟩ | ⟨_, _, h2⟩ <;> cases h2
    | dsl i j off n => rcases hm with ⟨_, h2⟩ | ⟨_, _, h2⟩ <;> cases h2
    | ip i a b c j o => rcases hm with ⟨_, h2⟩ | ⟨_, _, h2⟩ <;> cases h2
    | mp i => rcases hm with ⟨_, h2⟩ | ⟨_, _, h2⟩ <;> cases h2
    | ifs t i n => rcases hm with ⟨_, h2⟩ | ⟨_, _, h2⟩ <;> cases h2
    | tup xs => rcases hm with ⟨_, h2⟩ | ⟨_, _, h2⟩ <;> cases h2
    | _ => exact other rfl hm
  have hkept : ∀ i, fB md i = false → fB σ0.ids i = true → σ.mem i = σ0.mem i := fun i h1 h2 => (f7 i ((gX _ _).1 h2)).resolve_left (by rw [h1]; simp)
  have hkm : ∀ j k : Nat, rn[j]? = some (some k) → k ∈ rn.filterMap id := fun j k hj => List.mem_filterMap.2 ⟨some k, List.mem_of_getElem? hj, rfl⟩
  have hinj : ∀ j j' k : Nat, rn[j]? = some (some k) → rn[j']? = some (some k) → j = j' := xC rn f3
  -- the objects at the sL, and where each comes from
  have hmem : ∀ i ob, (sL σ0 hv md E B M).mem i = some ob → (i < σ0.next ∧ ((∃ ob1, lk B i = some ob1 ∧ ob = ob1.rn1 (σ0.next + ·)) ∨ (lk B i = none ∧ fB md i = false ∧ fB σ0.ids i = true ∧ σ0.mem i = some ob))) ∨ ∃ j, i = σ0.next + j ∧ M[j]? = some ob := fun i ob hi => by
    simp only [sL, aAV] at hi
    cases hb : Nat.blt i σ0.next with
    | true =>
      rw [hb] at hi
      have hlt : i < σ0.next := Nat.le_of_ble_eq_true hb
      simp only at hi
      cases hB : lk B i with
      | some cs => rw [hB] at hi; injection hi with hi; exact .inl ⟨hlt, .inl ⟨cs, rfl, hi.symm⟩⟩
      | none =>
        rw [hB] at hi; simp only at hi
        cases hm : fB md i with
        | true => rw [hm] at hi; cases hi
        | false =>
          rw [hm] at hi; simp only at hi
          cases hm2 : fB σ0.ids i with
          | true => rw [hm2] at hi; exact .inl ⟨hlt, .inr ⟨rfl, rfl, rfl, hi⟩⟩
          | false => rw [hm2] at hi; cases hi
    | false =>
      rw [hb] at hi
      have hge : ¬ i < σ0.next := fun hc => by rw [show Nat.blt i σ0.next = true from Nat.ble_eq_true_of_le hc] at hb; cases hb
      exact .inr ⟨i - σ0.next, by omega, hi⟩
  -- in the state that is there: the object's number and place
  have src : ∀ i ob, (sL σ0 hv md E B M).mem i = some ob → (∃ k ob' l, σ.mem k = some ob' ∧ μ k = some l ∧ μ' i = some l ∧ ((i < σ0.next ∧ k = i) ∨ ∃ j, i = σ0.next + j ∧ rn[j]? = some (some k))) ∨ (∃ l, μ' i = some l ∧ ∀ b, ¬ l.has b) := fun i ob hi => by
    rcases hmem i ob hi with ⟨hlt, ⟨cs, hB, _⟩ | ⟨_, h1, h2, h3⟩⟩ | ⟨j, rfl, hj⟩
    · obtain ⟨_, _, ⟨cs0, hc0⟩, _, hO⟩ := f9 _ (jI _ _ _ hB)
      obtain ⟨ob1, hc1⟩ : ∃ ob1, σ.mem i = some ob1 := by
        cases cs with
        | box p => obtain ⟨us, h1, _⟩ := hO; exact ⟨_, h1⟩
        | arr e sz xs => exact ⟨_, hO⟩
        | deep e sz es xs => exact ⟨_, hO⟩
        | tail e sz es xs k => exact ⟨_, hO⟩
        | dirt e sz es xs idx row => exact hO.elim
        | mp es => exact hO.elim
      obtain ⟨l0, hl0, _⟩ := he.ob i _ hc0
      obtain ⟨l, q1, _, q2⟩ := hμe i l0 hl0
      exact .inl ⟨i, _, l, hc1, q1, q2, .inl ⟨hlt, rfl⟩⟩
    · obtain ⟨l0, hl0, _⟩ := he.ob i _ h3
      obtain ⟨l, q1, _, q2⟩ := hμe i l0 hl0
      exact .inl ⟨i, ob, l, by rw [hkept i h1 h2]; exact h3, q1, q2, .inl ⟨hlt, rfl⟩⟩
    · have hjl : j < rn.length := by rw [f2]; exact (List.getElem?_eq_some_iff.1 hj).1
      cases hr : rn[j]? with
      | none => rw [List.getElem?_eq_none_iff] at hr; omega
      | some r =>
        cases r with
        | some k =>
          have hk := f5 j k hr
          obtain ⟨l, hl, _⟩ := h.ob k ob (by rw [hk]; exact hj)
          exact .inl ⟨k, ob, l, by rw [hk]; exact hj, hl, by rw [hhi, hr]; exact hl, .inr ⟨j, rfl, hr⟩⟩
        | none =>
          obtain ⟨eo, hM, _⟩ := f6 j hr
          exact .inr ⟨⟨none, 0, 0, eo.sz0, []⟩, by rw [hhi, hr, hM], fun b hb => by cases gV hb⟩
  have hAlt : ∀ b, A b → b < w.heap.size := fun b hb => (h.hA b hb).1
  refine ⟨μ', ⟨h.tm, h.df, fun t => ?_, h.os, h.tape, h.out, h.size, h.old, h.hA, h.sub, fun i ob hi => ?_, fun i j li lj b hi hj h1 h2 h3 h4 => ?_, fun i hi => ?_⟩, ⟨hx.cell, hx.sub, fun i l hi hl => (by
    obtain ⟨l', q1, _, q2⟩ := hμe i l hl
    rw [hx.mu0 i l hi hl] at q1; injection q1 with q1; subst q1; exact q2), fun i l hl => (by
    obtain ⟨l', q1, q3, q2⟩ := hμe i l hl
    exact ⟨l', q2, q3⟩), hx.tm⟩⟩
  · show Rv w A μ' (match lk E t with | some v => v.ren1 (σ0.next + ·) | none => match fB hv t with | true => .und | false => kd (σ0.env t)) _
    cases hE : lk E t with
    | some v => exact hmt _ v _ (f1 _ (jI _ _ _ hE)) (h.env t)
    | none =>
      simp only
      cases hh : fB hv t with
      | true => exact .c (.und _)
      | false =>
        simp only
        have hnt : t ∉ hv := fun hm => by rw [(gX _ _).2 hm] at hh; cases hh
        have e1 : a.tmps.getD t undef = ae.tmps.getD t undef := by simp [Array.getD_eq_getD_getElem?, hx.tm t hnt]
        rw [e1]
        unfold kd
        cases hnd : (σ0.env t).nod with
        | true => exact (he.env t).monoC hx.sub hcell (fun i l hi => (hμe i l hi).imp fun _ h => ⟨h.2.2, h.2.1⟩) hnd
        | false => exact .c (.und _)
  · rcases hmem i ob hi with ⟨hlt, ⟨cs, hB, rfl⟩ | ⟨_, h1, h2, h3⟩⟩ | ⟨j, rfl, hj⟩
    · obtain ⟨_, _, ⟨cs0, hc0⟩, _, hO⟩ := f9 _ (jI _ _ _ hB)
      obtain ⟨l0, hl0, _⟩ := he.ob i _ hc0
      obtain ⟨l, p1, _, p2⟩ := hμe i l0 hl0
      cases cs with
      | arr e sz xs =>
        obtain ⟨l1, hl1, ho1, hb1⟩ := h.ob i _ hO
        rw [p1] at hl1; injection hl1 with hl1; subst hl1
        exact ⟨l, p2, ho1, hb1⟩
      | deep e sz es xs =>
        obtain ⟨l1, hl1, ho1, hb1⟩ := h.ob i _ hO
        rw [p1] at hl1; injection hl1 with hl1; subst hl1
        exact ⟨l, p2, ho1, hb1⟩
      | tail e sz es xs k =>
        obtain ⟨l1, hl1, ho1, hb1⟩ := h.ob i _ hO
        rw [p1] at hl1; injection hl1 with hl1; subst hl1
        exact ⟨l, p2, ho1, hb1⟩
      | dirt e sz es xs idx row => exact hO.elim
      | mp es => exact hO.elim
      | box cs =>
      obtain ⟨cs1, hc1, hml⟩ := hO
      obtain ⟨l1, hl1, ho1, hb1⟩ := h.ob i _ hc1
      rw [p1] at hl1; injection hl1 with hl1; subst hl1
      refine ⟨l, p2, ?_, hb1⟩
      obtain ⟨b, arr, el, q1, q2, q3, q4⟩ := ho1
      obtain ⟨g1, g2⟩ := aCX _ _ hml
      refine ⟨b, arr, el, q1, q2, by rw [q3, g1]; simp, fun k u c hk hc => ?_⟩
      simp at hk
      obtain ⟨v, hv', rfl⟩ := hk
      have hlt' : k < cs1.length := by rw [g1]; exact (List.getElem?_eq_some_iff.1 hv').1
      exact hmt _ v c (g2 k _ v (List.getElem?_eq_getElem hlt') hv') (q4 k _ c (List.getElem?_eq_getElem hlt') hc)
    · obtain ⟨l0, hl0, hoe, _⟩ := he.ob i _ h3
      obtain ⟨l, p1, _, p2⟩ := hμe i l0 hl0
      obtain ⟨l1, hl1, ho1, hb1⟩ := h.ob i ob (by rw [hkept i h1 h2]; exact h3)
      rw [p1] at hl1; injection hl1 with hl1; subst hl1
      refine ⟨l, p2, ?_, hb1⟩
      have hμs : ∀ i l, μe i = some l → ∃ l', μ i = some l' ∧ μ' i = some l' := fun i l hi => (hμe i l hi).imp fun _ h => ⟨h.1, h.2.2⟩
      cases ob with
      | arr e sz xs => exact ho1
      | deep e sz es xs => exact ho1
      | tail e sz es xs k => exact ho1
      | mp es => exact ho1
      | dirt e sz es xs idx row =>
        obtain ⟨z1, z2, z3, z4, z5, cs, z6, z7, z8⟩ := ho1
        obtain ⟨y1, y2, y3, y4, y5, cse, y6, y7, y8⟩ := hoe
        refine ⟨z1, z2, z3, z4, z5, cs, z6, z7, fun k u c hk hc => (z8 k u c hk hc).imp id (fun hq => ⟨hq.1, hq.2.1, ?_⟩)⟩
        have hlt : k < cse.length := by
          have := (List.getElem?_eq_some_iff.1 hk).1
          rw [gY _ z5, ← y4] at this
          rw [y6.1]; exact this
        rcases y8 k u _ hk (List.getElem?_eq_getElem hlt) with q | q
        · exact absurd hq.1 q.1
        · exact hq.2.2.shrink hμs q.2.2
      | box cs =>
        obtain ⟨b, arr, el, q1, q2, q3, q4⟩ := ho1
        obtain ⟨be, arre, ele, r1, r2, r3, r4⟩ := hoe
        refine ⟨b, arr, el, q1, q2, q3, fun k u c hk hc => ?_⟩
        have hlt' : k < arre.size := by rw [r3]; exact (List.getElem?_eq_some_iff.1 hk).1
        exact (q4 k u c hk hc).shrink hμs (r4 k u _ hk (Array.getElem?_eq_getElem hlt'))
    · have hjl : j < rn.length := by rw [f2]; exact (List.getElem?_eq_some_iff.1 hj).1
      cases hr : rn[j]? with
      | none => rw [List.getElem?_eq_none_iff] at hr; omega
      | some r =>
        have hia := List.all_eq_true.1 f8 ob (List.mem_of_getElem? hj)
        cases r with
        | some k =>
          obtain ⟨l, hl, ho, hb⟩ := h.ob k _ (by rw [f5 j k hr]; exact hj)
          exact ⟨l, by rw [hhi, hr]; exact hl, gP.re hia ho, hb⟩
        | none =>
          obtain ⟨eo, hM, he0⟩ := f6 j hr
          rw [hj] at hM; injection hM with hM; subst hM
          exact ⟨⟨none, 0, 0, ob.sz0, []⟩, by rw [hhi, hr, hj], aFO he0, fun b hb => by cases gV hb⟩
  · obtain ⟨oi, hoi⟩ := Option.ne_none_iff_exists'.1 hi
    obtain ⟨oj, hoj⟩ := Option.ne_none_iff_exists'.1 hj
    rcases src i oi hoi with ⟨ki, o1, l1, a1, a2, a3, a4⟩ | ⟨l1, a3, a4⟩
    · rcases src j oj hoj with ⟨kj, o2, l2, b1, b2, b3, b4⟩ | ⟨l2, b3, b4⟩
      · rw [h1] at a3; injection a3 with a3; subst a3
        rw [h2] at b3; injection b3 with b3; subst b3
        have hk := h.ap ki kj li lj b (by rw [a1]; simp) (by rw [b1]; simp) a2 b2 h3 h4
        subst hk
        have cross : ∀ i j oi, (sL σ0 hv md E B M).mem i = some oi → i < σ0.next → rn[j]? = some (some i) → False := fun i j oi hoi hlt hr => by
          rcases hmem i oi hoi with ⟨_, ⟨cs, hB, _⟩ | ⟨_, q1, q2, _⟩⟩ | ⟨j', e, _⟩
          · obtain ⟨_, _, _, q, _⟩ := f9 _ (jI _ _ _ hB)
            exact q (hkm j i hr)
          · have := f4 i (hkm j i hr) q2
            rw [q1] at this; cases this
          · omega
        rcases a4 with ⟨p1, p2⟩ | ⟨ja, p1, p2⟩ <;> rcases b4 with ⟨r1, r2⟩ | ⟨jb, r1, r2⟩
        · rw [← p2, ← r2]
        · subst p2; exact (cross _ _ oi hoi p1 r2).elim
        · subst r2; exact (cross _ _ oj hoj r1 p2).elim
        · rw [p1, r1, hinj ja jb ki p2 r2]
      · rw [h2] at b3; injection b3 with b3; subst b3; exact absurd h4 (b4 b)
    · rw [h1] at a3; injection a3 with a3; subst a3; exact absurd h3 (a4 b)
  · show i < σ0.next + M.length
    by_cases hlt : i < σ0.next
    · omega
    · have e : i = σ0.next + (i - σ0.next) := by omega
      rw [e, hhi] at hi
      cases hr : rn[i - σ0.next]? with
      | none => rw [hr] at hi; exact absurd rfl hi
      | some r => have := (List.getElem?_eq_some_iff.1 hr).1; omega
end
end Go.Aw
set_option linter.unusedVariables false
namespace Go.Aw
section
variable {P : Program} {G : Nat → Option Obj} {T : TypeId → Option TI} {w0 : World} {X A0 : Nat → Prop} {N : Nat}
theorem aFP {mem : Nat → Option Ob} {fz : List Nat} {env : Nat → V} : ∀ (E : List (Nat × V)) (t : Nat) (v : V), CE mem fz env E → lk E t = some v → FzG mem fz (env t) v
  | [], t, v, _, h => by cases h
  | (k, y) :: l, t, v, ⟨h1, h2⟩, h => by
    simp only [lk] at h
    cases hb : Nat.beq k t with
    | true => rw [hb] at h; injection h with h; subst h; have := Nat.eq_of_beq_eq_true hb; subst this; exact h1
    | false => rw [hb] at h; exact aFP l t v h2 h
theorem kE {mem : Nat → Option Ob} {fz : List Nat} {B0 : List (Nat × Ob)} : ∀ (B : List (Nat × Ob)) (i : Nat) (ob : Ob), CB mem fz B0 B → lk B i = some ob → FzB mem fz B0 i (mem i) ob
  | [], i, ob, _, h => by cases h
  | (k, y) :: l, i, ob, ⟨h1, h2⟩, h => by
    simp only [lk] at h
    cases hb : Nat.beq k i with
    | true => rw [hb] at h; injection h with h; subst h; have := Nat.eq_of_beq_eq_true hb; subst this; exact h1
    | false => rw [hb] at h; exact kE l i ob h2 h
theorem FzB.ne {mem : Nat → Option Ob} {fz : List Nat} {B0 : List (Nat × Ob)} {i : Nat} {o : Option Ob} {ob : Ob} (h : FzB mem fz B0 i o ob) : o ≠ none := by
  rcases h with h | h
  · rw [h]; simp
  · cases ob with
    | box vs => obtain ⟨us, e, _⟩ := h; rw [e]; simp
    | arr e sz xs => exact h.elim
    | deep e sz es vs => obtain ⟨_, _, _, _, e, _⟩ := h; rw [e]; simp
    | dirt e sz es xs idx row => exact h.elim
    | mp es => exact h.elim
    | tail e sz es xs k =>
      rcases h with h | ⟨_, h, _⟩
      · rw [h]; simp
      · rw [h]; simp
theorem aAP {mem : Nat → Option Ob} {fz : List Nat} : ∀ (us vs : List V), FL mem fz us vs → us.length = vs.length
  | [], [], _ => rfl
  | u :: us, v :: vs, h => by rw [List.length_cons, List.length_cons, aAP us vs h.2]
  | [], _ :: _, h => h.elim
  | _ :: _, [], h => h.elim
theorem aAQ {mem : Nat → Option Ob} {fz : List Nat} : ∀ (us vs : List V) (i : Nat) (v : V), FL mem fz us vs → vs[i]? = some v → ∃ u, us[i]? = some u ∧ Fz mem fz u v
  | [], [], i, v, _, h => by simp at h
  | u :: us, y :: vs, 0, v, h, e => by
    rw [List.getElem?_cons_zero] at e
    injection e with e; subst e
    exact ⟨u, List.getElem?_cons_zero, h.1⟩
  | u :: us, y :: vs, i + 1, v, h, e => by
    rw [List.getElem?_cons_succ] at e ⊢
    exact aAQ us vs i v h.2 e
  | [], _ :: _, _, _, h, _ => h.elim
  | _ :: _, [], _, _, h, _ => h.elim
def XB (n : Nat) (X : Nat → Prop) (μ : Nat → Option Loc) : Prop := ∀ b, X b → ∃ m l, m < n ∧ μ m = some l ∧ l.has b
theorem XB.mono {n : Nat} {μ μ' : Nat → Option Loc} (h : XB n X μ) (hm : ∀ i l, i < n → μ i = some l → μ' i = some l) : XB n X μ' := fun b hb =>
  let ⟨m, l, h1, h2, h3⟩ := h b hb
  ⟨m, l, h1, hm _ _ h1 h2, h3⟩
theorem uF {n0 : Nat} {σ : St} {a : Act} {w : World} {A : Nat → Prop} {μ μ' : Nat → Option Loc} {n : Nat} {E : List (Nat × V)} {B : List (Nat × Ob)} {fz : List Nat} (hX : fz = [] ∨ (XB n0 X μ ∧ rQ n0 B = true)) (h : Ok w0 X A0 N (fun j => j < σ.next) σ a w A μ)
    (hf : (B.all fun p => !fB fz p.1) = true) (hn : σ.next = n) (he : CE σ.mem fz σ.env E) (hb : CB σ.mem fz B B)
    (hμ : ∀ i l, μ i = some l → ∃ l', μ' i = some l' ∧ mY l l') (hμr : ∀ i l', μ' i = some l' → ∃ l, μ i = some l)
    (hsrc : ∀ i ob l' b, lk B i = some ob → μ' i = some l' → l'.has b → ∃ m lm om, σ.mem m = some om ∧ μ m = some lm ∧ lm.has b ∧ fB fz m = false)
    (hinj : ∀ i j oi oj li lj b, lk B i = some oi → lk B j = some oj → μ' i = some li → μ' j = some lj → li.has b → lj.has b → i = j) (hmu0 : ∀ i l, i < n0 → μ i = some l → μ' i = some l)
    (hE : ∀ (A' : Nat → Prop) t v, lk E t = some v → ∀ x, Rv w A' μ v x → Rv w A' μ' v x) (hBx : ∀ (A' : Nat → Prop) i cs, lk B i = some (.box cs) → ∀ u ∈ cs, ∀ x, Rv w A' μ u x → Rv w A' μ' u x)
    (hO : ∀ (A' : Nat → Prop), (∀ b, A b → A' b) → ∀ i ob l', lk B i = some ob → (∀ cs, ob ≠ .box cs) → μ' i = some l' → gP w A' μ' l' ob) :
    ∃ A', Ok w0 X A0 N (fun j => j < (low n E B).next) (low n E B) a w A' μ' ∧ kO n0 [] a w A μ a w A' μ' := by
  let A' : Nat → Prop := fun b => A b ∨ ∃ i l ob, fB fz i = true ∧ σ.mem i = some ob ∧ μ i = some l ∧ l.has b
  have hsub : ∀ b, A b → A' b := fun b hb => .inl hb
  have hnew : ∀ b i l ob, fB fz i = true → σ.mem i = some ob → μ i = some l → l.has b → b < w.heap.size ∧ w0.heap.size ≤ b := fun b i l ob h1 h2 h3 h4 => by
    obtain ⟨l', hl', _, hbb⟩ := h.ob i ob h2
    rw [h3] at hl'; injection hl' with hl'; subst hl'
    obtain ⟨q1, _, q3⟩ := hbb b h4
    refine ⟨q1, q3.resolve_left (fun hXb => ?_)⟩
    rcases hX with hX | ⟨hX, hk⟩
    · rw [hX] at h1; cases h1
    · obtain ⟨m, lm, m1, m2, m3⟩ := hX b hXb
      have := List.all_eq_true.1 hk m (List.mem_range.2 m1)
      obtain ⟨obm, hobm⟩ := Option.isSome_iff_exists.1 this
      have := h.ap i m l lm b (by rw [h2]; simp) (kE B m obm hb hobm).ne h3 m2 h4 m3
      subst this
      have := List.all_eq_true.1 hf _ (jI B i obm hobm)
      rw [h1] at this; cases this
  have leaf : ∀ (u v : V) (x : Value), Fz σ.mem fz u v → Rv w A μ u x → Rv w A' μ v x := fun u v x e hu => by
    rcases e with e | e
    · rw [← e]; exact hu.mono hsub (fun _ _ _ h => h) (fun _ _ h => h)
    · cases v with
      | sl sz n xs =>
        rcases e with ⟨i, len, e', e1, e2, e3, e4⟩ | ⟨i, len, e', es, e1, e2, e3, e4⟩ | ⟨i, idx, off, q, e', s, es, ys, p, e1, e2, e3, e4, e5⟩
        · rw [e1] at hu
          obtain ⟨l, hl, hlen, hve⟩ := hu.own_inv
          obtain ⟨l', hl', hob, _⟩ := h.ob i _ e2
          obtain rfl : l' = l := by rw [hl] at hl'; injection hl' with e; exact e.symm
          rw [hve]
          obtain rfl : n = l'.len := by
            have := hob.2.1
            rcases e4 with e4 | e4 <;> omega
          exact .c (xF hob hsub (fun b hb => .inr ⟨i, l', _, e3, e2, hl, hb⟩))
        · rw [e1] at hu
          obtain ⟨l, hl, hlen, hve⟩ := hu.own_inv
          obtain ⟨l', hl', hob, _⟩ := h.ob i _ e2
          obtain rfl : l' = l := by rw [hl] at hl'; injection hl' with e; exact e.symm
          rw [hve]
          obtain rfl : n = l'.len := by
            have := hob.2.2.1
            rcases e4 with e4 | e4 <;> omega
          exact .c (aCH hob (fun b hb => .inr ⟨i, l', _, e3, e2, hl, hb⟩))
        · rw [e1] at hu
          obtain ⟨l, d, hl, hd, hdl, hve⟩ := hu.dsl_inv
          obtain ⟨l', hl', hob, _⟩ := h.ob i _ e2
          obtain rfl : l' = l := by rw [hl] at hl'; injection hl' with e; exact e.symm
          obtain ⟨f, hc⟩ := jE hob.2
          obtain ⟨_, _, _, g2, _⟩ := hc _ _ (flat_get ys idx off p _ hob.2.2.2.1 e4 e5)
          obtain ⟨d', f1, f2, f3, f4⟩ := g2
          rw [← hob.2.1, hd] at f1; injection f1 with f1; subst f1
          rw [hve]
          have := tY (A' := A') f4 (fun _ _ _ _ h => h.nomem) (fun b hb => .inr ⟨i, l', _, e3, e2, hl, Loc.hd_has hd hb⟩)
          rw [← f2]; exact .c this
      | _ => exact e.elim
  -- blocks of what is told
  have fin : ∀ (i : Nat) (ob : Ob) (l' : Loc), lk B i = some ob → μ' i = some l' → ∀ b, l'.has b → b < w.heap.size ∧ ¬ A' b ∧ (X b ∨ w0.heap.size ≤ b) := fun i ob l' hi hl' b hb' => by
    obtain ⟨m, lm, om, q2, q3, q4, q5⟩ := hsrc i ob l' b hi hl' hb'
    obtain ⟨l2, hl2, _, hbb⟩ := h.ob m om q2
    rw [q3] at hl2; injection hl2 with hl2; subst hl2
    refine ⟨(hbb b q4).1, fun hA => ?_, (hbb b q4).2.2⟩
    rcases hA with hA | ⟨i2, l2, ob2, h1, h2, h3, h4⟩
    · exact (hbb b q4).2.1 hA
    · have := h.ap m i2 lm l2 b (by rw [q2]; simp) (by rw [h2]; simp) q3 h3 q4 h4
      subst this
      rw [q5] at h1; cases h1
  refine ⟨A', ⟨h.tm, h.df, fun t => ?_, h.os, h.tape, h.out, h.size, h.old, fun b hb => ?_, fun b hb => .inl (h.sub b hb), fun i ob hi => ?_, fun i j li lj b hi hj h1 h2 h3 h4 => ?_, fun i hi => ?_⟩, ⟨fun _ _ _ h => h, hsub, hmu0, hμ, fun _ _ => rfl⟩⟩
  · show Rv w A' μ' (match lk E t with | some v => v | none => .und) _
    cases hlk : lk E t with
    | some v =>
      refine hE A' t v hlk _ ?_
      rcases aFP E t v he hlk with e | e
      · exact leaf _ _ _ e (h.env t)
      · cases v with
        | agg vs =>
          obtain ⟨us, e1, e2⟩ := e
          have hu := h.env t
          rw [e1] at hu
          obtain ⟨cs, hcs, hs, hr⟩ := hu.agg_inv
          show Rv w A' μ (.agg vs) _
          rw [hcs]
          refine .agg vs cs (by rw [hs, aAP us vs e2]) (fun i x c hx hc => ?_)
          obtain ⟨u, hu1, hu2⟩ := aAQ us vs i x e2 hx
          exact leaf _ _ _ hu2 (hr i u c hu1 hc)
        | _ => exact e.elim
    | none => exact .c (.und _)
  · rcases hb with hb | ⟨i, l, ob, h1, h2, h3, h4⟩
    · exact h.hA b hb
    · exact ⟨(hnew b i l ob h1 h2 h3 h4).1, .inr (hnew b i l ob h1 h2 h3 h4).2⟩
  · have hi' : lk B i = some ob := hi
    have hcb := kE B i ob hb hi'
    obtain ⟨ob0, hm0⟩ := Option.ne_none_iff_exists'.1 hcb.ne
    obtain ⟨l, hl, hob0, _⟩ := h.ob i ob0 hm0
    obtain ⟨l', hl', hc⟩ := hμ i l hl
    refine ⟨l', hl', ?_, fin i ob l' hi' hl'⟩
    by_cases hbx : ∃ cs, ob = .box cs
    · obtain ⟨vs, rfl⟩ := hbx
      have box : ∀ us, σ.mem i = some (.box us) → (us.length = vs.length) → (∀ j v, vs[j]? = some v → ∃ u, us[j]? = some u ∧ Fz σ.mem fz u v) → gP w A' μ' l' (.box vs) := fun us e1 e2 e3 => by
        rw [hm0] at e1; injection e1 with e1; subst e1
        obtain ⟨b, arr, el, o1, o2, o3, o4⟩ := hob0
        refine ⟨b, arr, el, hc.1.trans o1, o2, by rw [o3, e2], fun j x c hx hcc => ?_⟩
        obtain ⟨u, hu1, hu2⟩ := e3 j x hx
        exact hBx A' i vs hi' x (List.mem_of_getElem? hx) c (leaf _ _ _ hu2 (o4 j u c hu1 hcc))
      rcases hcb with e | e
      · exact box vs e rfl (fun j v hv => ⟨v, hv, .inl rfl⟩)
      · obtain ⟨us, e1, e2⟩ := e
        exact box us e1 (aAP us vs e2) (fun j v hv => aAQ us vs j v e2 hv)
    · exact hO A' hsub i ob l' hi' (fun cs e => hbx ⟨cs, e⟩) hl'
  · obtain ⟨oi, hoi⟩ := Option.ne_none_iff_exists'.1 hi
    obtain ⟨oj, hoj⟩ := Option.ne_none_iff_exists'.1 hj
    exact hinj i j oi oj li lj b hoi hoj h1 h2 h3 h4
  · show i < n
    rw [← hn]
    obtain ⟨l', hl'⟩ := Option.ne_none_iff_exists'.1 hi
    obtain ⟨l, hl⟩ := hμr i l' hl'
    exact h.bd i (by rw [hl]; simp)
def Loc.from (l : Loc) (k : Nat) : Loc := { l with fp := l.fp.filter (fun h => Nat.ble k (h.k / l.sz)) }
theorem oY {l : Loc} {k k' : Nat} {h : Hd} (hk : (l.from k).hd k' = some h) : l.hd k' = some h ∧ k ≤ k' / l.sz := by
  unfold Loc.hd Loc.from at hk
  have hm := List.mem_of_find?_eq_some hk
  have hp := List.find?_some hk
  have he : h.k = k' := Nat.eq_of_beq_eq_true hp
  have hf := (List.mem_filter.1 hm).2
  have hle := Nat.le_of_ble_eq_true hf
  rw [he] at hle
  refine ⟨?_, hle⟩
  unfold Loc.hd
  rw [List.find?_filter] at hk
  rw [← hk]
  congr 1
  funext x
  cases hx : Nat.beq x.k k' with
  | false => simp
  | true =>
    have : x.k = k' := Nat.eq_of_beq_eq_true hx
    rw [this]
    simp [show Nat.ble k (k' / l.sz) = true from Nat.ble_eq_true_of_le hle]
theorem aIP {l : Loc} {k k' : Nat} {h : Hd} (hk : l.hd k' = some h) (hle : k ≤ k' / l.sz) : (l.from k).hd k' = some h := by
  unfold Loc.hd at hk
  unfold Loc.hd Loc.from
  rw [List.find?_filter, ← hk]
  congr 1
  funext x
  cases hx : Nat.beq x.k k' with
  | false => simp
  | true =>
    have : x.k = k' := Nat.eq_of_beq_eq_true hx
    rw [this]
    simp [show Nat.ble k (k' / l.sz) = true from Nat.ble_eq_true_of_le hle]
theorem aFX {l : Loc} {k b : Nat} (h : (l.from k).has b) : l.has b := by
  rcases h with h | ⟨k', d, h1, h2⟩
  · exact .inl h
  · exact .inr ⟨k', d, (oY h1).1, h2⟩
theorem aDD (l : Loc) (k : Nat) : mY l (l.from k) := ⟨rfl, rfl, rfl, rfl⟩
theorem wY {w : World} {A A' : Nat → Prop} {μ μ' : Nat → Option Loc} {l : Loc} {e sz k0 k : Nat} {es : List TypeId} {xs : List (List V)} (hk : k0 ≤ k) (h : zW l ∧ Row w l e sz xs (fun j u c => j / sz < k0 ∨ Dc w l es sz j u c)) : gP w A' μ' (l.from k) (.tail e sz es xs k) := by
  obtain ⟨hH, r1, r2, r3, cs, r4, r5, r6⟩ := h
  refine ⟨fun k1 d b h1 h2 => ⟨(hH k1 d b (oY h1).1 h2).1, fun k2 d2 h3 h4 => (hH k1 d b (oY h1).1 h2).2 k2 d2 (oY h3).1 h4⟩, r1, r2, r3, cs, r4, r5, fun j u c hj hc => ?_⟩
  by_cases hlt : j / sz < k
  · exact .inl hlt
  · refine .inr ?_
    have hD := (r6 j u c hj hc).resolve_left (by omega)
    cases u with
    | sl s n ys =>
      obtain ⟨d, f1, f2⟩ := hD
      exact ⟨d, aIP f1 (by rw [r1]; omega), f2⟩
    | _ => exact hD
def tlm (B : List (Nat × Ob)) (μ : Nat → Option Loc) : Nat → Option Loc := fun i => match μ i, lk B i with
  | some l, some (.tail _ _ _ _ k) => some (l.from k)
  | o, _ => o
theorem tK {B : List (Nat × Ob)} {μ : Nat → Option Loc} {i : Nat} {l : Loc} (h : μ i = some l) : ∃ l', tlm B μ i = some l' ∧ mY l l' ∧ (∀ b, l'.has b → l.has b) ∧ ∀ k d, l'.hd k = some d → l.hd k = some d := by
  unfold tlm
  rw [h]
  split
  · rename_i l2 e sz es xs k h1 h2
    injection h1 with h1; subst h1
    exact ⟨_, rfl, aDD l k, fun b hb => aFX hb, fun k' d hd => (oY hd).1⟩
  · exact ⟨l, rfl, mY.refl l, fun _ h => h, fun _ _ h => h⟩
theorem kV {B : List (Nat × Ob)} {μ : Nat → Option Loc} {i : Nat} {l' : Loc} (h : tlm B μ i = some l') : ∃ l, μ i = some l ∧ mY l l' ∧ (∀ b, l'.has b → l.has b) ∧ ∀ k d, l'.hd k = some d → l.hd k = some d := by
  cases hm : μ i with
  | none => unfold tlm at h; rw [hm] at h; simp at h
  | some l =>
    obtain ⟨l2, h1, h2⟩ := tK (B := B) hm
    rw [h] at h1; injection h1 with h1; subst h1
    exact ⟨l, rfl, h2⟩
theorem zP {B : List (Nat × Ob)} {μ : Nat → Option Loc} {i e sz k : Nat} {es : List TypeId} {xs : List (List V)} {l : Loc} (h : μ i = some l) (hB : lk B i = some (.tail e sz es xs k)) : tlm B μ i = some (l.from k) := by
  unfold tlm; rw [h, hB]
theorem mU {B : List (Nat × Ob)} {μ : Nat → Option Loc} {i : Nat} (h : ∀ e sz es xs k, lk B i ≠ some (.tail e sz es xs k)) : tlm B μ i = μ i := by
  unfold tlm
  split
  · rename_i h2; exact absurd h2 (h _ _ _ _ _)
  · rfl
theorem yA (ent : Nat → Hd) (base : Nat) (he : ∀ j, (ent j).k = base + j) (off : Nat) : ∀ n, off < n → ((List.range n).map ent).find? (fun h => Nat.beq h.k (base + off)) = some (ent off)
  | 0, h => by omega
  | n + 1, h => by
    rw [List.range_succ, List.map_append, List.find?_append]
    by_cases c : off < n
    · rw [yA ent base he off n c]; rfl
    · have e : off = n := by omega
      subst e
      have : ((List.range off).map ent).find? (fun h => Nat.beq h.k (base + off)) = none := by
        rw [List.find?_eq_none]
        intro x hx
        obtain ⟨j, hj, rfl⟩ := List.mem_map.1 hx
        have := List.mem_range.1 hj
        intro hc
        have : (ent j).k = base + off := Nat.eq_of_beq_eq_true hc
        rw [he] at this
        omega
      rw [this]
      simp [he]
theorem uN (ent : Nat → Hd) (base : Nat) (he : ∀ j, (ent j).k = base + j) (k n : Nat) (hk : k < base ∨ base + n ≤ k) : ((List.range n).map ent).find? (fun h => Nat.beq h.k k) = none := by
  rw [List.find?_eq_none]
  intro x hx
  obtain ⟨j, hj, rfl⟩ := List.mem_map.1 hx
  have := List.mem_range.1 hj
  intro hc
  have : (ent j).k = k := Nat.eq_of_beq_eq_true hc
  rw [he] at this
  omega
theorem aCY {mem : Nat → Option Ob} {fz : List Nat} {B : List (Nat × Ob)} {es : List TypeId} : ∀ (us vs : List V) (j : Nat), MgL mem fz B es j us vs → us.length = vs.length ∧ ∀ (i : Nat) (u : V), us[i]? = some u → ∃ v, vs[i]? = some v ∧ Mg mem fz B (j + i) (es.getD (j + i) 0) u v
  | [], [], j, _ => ⟨rfl, fun i u h => by simp at h⟩
  | u :: us, v :: vs, j, h => by
    obtain ⟨g1, g2⟩ := aCY us vs (j + 1) h.2
    refine ⟨by simp [g1], fun i u' hu => ?_⟩
    cases i with
    | zero => simp at hu; subst hu; exact ⟨v, rfl, h.1⟩
    | succ i =>
      obtain ⟨v', h1, h2⟩ := g2 i u' (by simpa using hu)
      exact ⟨v', by simpa using h1, by rwa [show j + (i + 1) = j + 1 + i by omega]⟩
  | [], _ :: _, _, h => h.elim
  | _ :: _, [], _, h => h.elim
theorem pN : ∀ (row : List V) (i m n : Nat), row[i]? = some (.own m n) → m ∈ lX row
  | [], i, m, n, h => by simp at h
  | u :: row, 0, m, n, h => by
    simp at h; subst h; exact List.mem_cons_self ..
  | u :: row, i + 1, m, n, h => by
    have := pN row i m n (by simpa using h)
    unfold lX
    split <;> first | exact List.mem_cons_of_mem _ (by simp_all) | simp_all
theorem sZ : ∀ (row : List V) (i j m n n' : Nat), (lX row).Nodup → row[i]? = some (.own m n) → row[j]? = some (.own m n') → i = j
  | [], i, j, m, n, n', _, h, _ => by simp at h
  | u :: row, i, j, m, n, n', hd, h1, h2 => by
    have hd' : (lX row).Nodup := by
      unfold lX at hd
      split at hd <;> simp_all
    cases i with
    | zero =>
      cases j with
      | zero => rfl
      | succ j =>
        simp at h1; subst h1
        have := pN row j m n' (by simpa using h2)
        exact absurd this (List.nodup_cons.1 (show (m :: lX row).Nodup from hd)).1
    | succ i =>
      cases j with
      | zero =>
        simp at h2; subst h2
        have := pN row i m n (by simpa using h1)
        exact absurd this (List.nodup_cons.1 (show (m :: lX row).Nodup from hd)).1
      | succ j => rw [sZ row i j m n n' hd' (by simpa using h1) (by simpa using h2)]
theorem aMB {l : List Nat} {p : Nat → Bool} (h : (l.filter p).length ≤ 1) {x y : Nat} (hx : x ∈ l) (hy : y ∈ l) (px : p x = true) (py : p y = true) : x = y := by
  have h1 := List.mem_filter.2 ⟨hx, px⟩
  have h2 := List.mem_filter.2 ⟨hy, py⟩
  match hl : l.filter p, h with
  | [], _ => rw [hl] at h1; cases h1
  | [z], _ =>
    rw [hl] at h1 h2
    simp at h1 h2
    rw [h1, h2]
  | _ :: _ :: _, h => simp at h
theorem aAM {n0 : Nat} {σ : St} {a : Act} {w : World} {A : Nat → Prop} {μ : Nat → Option Loc} {n : Nat} {E : List (Nat × V)} {B : List (Nat × Ob)} {fz : List Nat} (hX : (fz = [] ∧ (B.all fun p => !p.2.isT) = true) ∨ (XB n0 X μ ∧ (rQ n0 B && xY n0 E B fz) = true)) (h : Ok w0 X A0 N (fun j => j < σ.next) σ a w A μ)
    (hf : (B.all fun p => !fB fz p.1) = true) (hn : σ.next = n) (he : CE σ.mem fz σ.env E) (hb : CB σ.mem fz B B) :
    ∃ A' μ', Ok w0 X A0 N (fun j => j < (low n E B).next) (low n E B) a w A' μ' ∧ kO n0 [] a w A μ a w A' μ' := by
  have hX' : fz = [] ∨ (XB n0 X μ ∧ rQ n0 B = true) := hX.imp (fun h => h.1) fun h => ⟨h.1, (Bool.and_eq_true _ _ ▸ h.2).1⟩
  have hfB : ∀ i ob, lk B i = some ob → fB fz i = false := fun i ob hi => by
    have := List.all_eq_true.1 hf _ (jI B i ob hi)
    simpa using this
  by_cases hfl : (fz.any (Nat.ble 1000000000) || B.any (fun p => p.2.isT)) = false
  · -- nothing but what was there
    rw [Bool.or_eq_false_iff] at hfl
    have noT : ∀ i e sz es xs k, lk B i ≠ some (.tail e sz es xs k) := fun i e sz es xs k hi => by
      have := List.any_eq_false.1 hfl.2 _ (jI B i _ hi)
      exact this rfl
    refine Exists.elim (uF (μ' := μ) hX' h hf hn he hb (fun i l hl => ⟨l, hl, mY.refl l⟩) (fun i l hl => ⟨l, hl⟩) (fun i ob l b hi hl hb' => ?_) (fun i j oi oj li lj b hi hj h1 h2 h3 h4 => h.ap i j li lj b (kE B i oi hb hi).ne (kE B j oj hb hj).ne h1 h2 h3 h4) (fun _ _ _ h => h) (fun _ _ _ _ _ h => h) (fun _ _ _ _ _ _ _ h => h) (fun A' hA' i ob li hi hnb hli => ?_)) (fun A' z => ⟨A', μ, z.1, z.2⟩)
    · obtain ⟨ob0, hm0⟩ := Option.ne_none_iff_exists'.1 (kE B i ob hb hi).ne
      exact ⟨i, l, ob0, hm0, hl, hb', hfB i ob hi⟩
    · rcases kE B i ob hb hi with e0 | e0
      · obtain ⟨l2, hl2, hob2, _⟩ := h.ob i ob e0
        rw [hli] at hl2; injection hl2 with hl2; subst hl2
        exact gP.mono (w := w) (w' := w) hA' (fun _ _ _ h => h) (fun _ _ h => h) (fun _ _ => rfl) hob2
      · cases ob with
        | box cs => exact absurd rfl (hnb cs)
        | arr e sz xs => exact e0.elim
        | dirt e sz es xs idx row => exact e0.elim
        | tail e sz es xs k => exact absurd hi (noT i e sz es xs k)
        | mp es => exact e0.elim
        | deep e sz es vs =>
          obtain ⟨xs, idx, row, row', q1, q2, q3, q4, q5⟩ := e0
          have := List.any_eq_false.1 hfl.1 _ ((gX _ _).1 q5)
          exact absurd (show Nat.ble 1000000000 (i + 2000000000) = true from Nat.ble_eq_true_of_le (by omega)) this
  have hfl : (fz.any (Nat.ble 1000000000) || B.any (fun p => p.2.isT)) = true := by rw [Bool.not_eq_false] at hfl; exact hfl
  have hmg : xY n0 E B fz = true := by
    rcases hX with ⟨hX, hX2⟩ | hX
    · rw [hX] at hfl
      simp only [List.any_nil, Bool.false_or] at hfl
      obtain ⟨p, hp, hp2⟩ := List.any_eq_true.1 hfl
      have := List.all_eq_true.1 hX2 p hp
      rw [hp2] at this; cases this
    · exact (Bool.and_eq_true _ _ ▸ hX.2).2
  unfold xY at hmg
  rw [hfl] at hmg
  simp only [Bool.and_eq_true] at hmg
  obtain ⟨⟨⟨⟨⟨m1, m2⟩, m3⟩, m4⟩, m5⟩, m6⟩ := hmg
  have hmk : ∀ m, fB fz (m + 1000000000) = true → fB fz m = false ∧ lk B m = none ∧ n0 ≤ m := fun m hm => by
    have := List.all_eq_true.1 m2 _ ((gX _ _).1 hm)
    rw [show Nat.ble 1000000000 (m + 1000000000) = true from Nat.ble_eq_true_of_le (by omega)] at this
    simp only [Nat.add_sub_cancel, Bool.and_eq_true, Bool.not_eq_true'] at this
    obtain ⟨⟨q1, q2⟩, q3⟩ := this
    refine ⟨q3, ?_, by have := Nat.le_of_ble_eq_true q1; omega⟩
    cases hl : lk B m with
    | none => rfl
    | some x => rw [hl] at q2; cases q2
  have hTl : ∀ i e sz es xs k, lk B i = some (.tail e sz es xs k) → n0 ≤ i := fun i e sz es xs k hi => by
    have := List.all_eq_true.1 m6 _ (jI B i _ hi)
    exact Nat.le_of_ble_eq_true (by simpa [Ob.isT] using this)
  have hNT : ∀ i, i < n0 → tlm B μ i = μ i := fun i hi => mU (fun e sz es xs k hk => by have := hTl i e sz es xs k hk; omega)
  have tailO : ∀ (A' : Nat → Prop) (μ2 : Nat → Option Loc) (i e sz k : Nat) (es : List TypeId) (xs : List (List V)) (l' : Loc), lk B i = some (.tail e sz es xs k) → tlm B μ i = some l' → gP w A' μ2 l' (.tail e sz es xs k) := fun A' μ2 i e sz k es xs l' hi hl' => by
    obtain ⟨l, hl, _⟩ := kV hl'
    rw [zP hl hi] at hl'; injection hl' with hl'; subst hl'
    have from0 : ∀ {l2 : Loc}, μ i = some l2 → l2 = l := fun {l2} h2 => by rw [hl] at h2; injection h2 with h2; exact h2.symm
    rcases kE B i _ hb hi with e0 | e0 | ⟨k0, e0, hk0⟩
    · obtain ⟨l2, hl2, hob2, _⟩ := h.ob i _ e0
      obtain rfl := from0 hl2
      exact wY (A := A) (μ := μ) (Nat.le_refl k) hob2
    · obtain ⟨l2, hl2, ⟨q1, q2⟩, _⟩ := h.ob i _ e0
      obtain rfl := from0 hl2
      obtain ⟨r1, r2, r3, cs, r4, r5, r6⟩ := q2
      exact wY (A := A) (μ := μ) (Nat.zero_le k) ⟨q1, r1, r2, r3, cs, r4, r5, fun k u c hk hc => .inr (r6 k u c hk hc)⟩
    · obtain ⟨l2, hl2, hob2, _⟩ := h.ob i _ e0
      obtain rfl := from0 hl2
      exact wY (A := A) (μ := μ) hk0 hob2
  by_cases hT : ∃ i e sz es xs idx row row', lk B i = some (.deep e sz es (xs.set idx row')) ∧ σ.mem i = some (.dirt e sz es xs idx row) ∧ (lX row).Nodup ∧ MgL σ.mem fz B es 0 row row' ∧ fB fz (i + 2000000000) = true
  · obtain ⟨T, e, sz, es, xs, idx, row, row', t1, t2, t3, t4, t5⟩ := hT
    have hTn : n0 ≤ T := by
      have := List.all_eq_true.1 m3 _ ((gX _ _).1 t5)
      rw [show Nat.ble 2000000000 (T + 2000000000) = true from Nat.ble_eq_true_of_le (by omega)] at this
      have := Nat.le_of_ble_eq_true this
      omega
    have hTt : tlm B μ T = μ T := mU (fun _ _ _ _ _ hk => by rw [t1] at hk; cases hk)
    obtain ⟨l, hl, ⟨hH, hidx, r1, r2, r3, cs, r4, r5, r6⟩, hbb⟩ := h.ob T _ t2
    obtain ⟨g1, g2⟩ := aCY row row' 0 t4
    have hrowm : row ∈ xs.set idx row := List.mem_of_getElem? (List.getElem?_set_self hidx)
    have hrow : row.length = sz := r3 row hrowm
    -- the slices that become the object's
    have hown : ∀ (off m len : Nat), row[off]? = some (V.own m len) → ∃ s ys n', row'[off]? = some (V.sl s n' ys) ∧ σ.mem m = some (.arr (es.getD off 0) s ys) ∧ fB fz (m + 1000000000) = true ∧ (n' = len ∨ ys.length = n') ∧ mF (.arr (es.getD off 0) s ys) := fun off m len hr => by
      obtain ⟨v, h1, h2⟩ := g2 off _ hr
      rw [Nat.zero_add] at h2
      rcases h2 with ⟨h2, h3⟩ | h2
      · rw [← h2] at h3; cases h3
      · cases v with
        | sl s n' ys =>
          rcases h2 with ⟨h2, _⟩ | ⟨m', len', h2, h3, h4, h5, h6⟩ | ⟨_, _, _, _, _, _, _, _, h2, _⟩
          · cases h2
          · injection h2 with e1 e2; subst e1; subst e2
            exact ⟨s, ys, n', h1, h3, h4, h5, h6⟩
          · cases h2
        | _ => exact h2.elim
    have hdsl : ∀ (off i x o q : Nat), row[off]? = some (V.dsl i x o q) → o = off ∧ ∃ s ys n' li d om, row'[off]? = some (V.sl s n' ys) ∧ μ i = some li ∧ zW li ∧ σ.mem i = some om ∧ (∀ e sz xs, om ≠ .arr e sz xs) ∧ i ≠ T ∧ off < li.sz ∧ li.hd (x * li.sz + off) = some d ∧ d.len = n' ∧ Row w ⟨d.b, d.len, d.cap, s, []⟩ (es.getD off 0) s ys (fun _ => Rc w (fun _ => False)) ∧ fB fz i = false ∧ mvd B i x := fun off i x o q hr => by
      obtain ⟨v, h1, h2⟩ := g2 off _ hr
      rw [Nat.zero_add] at h2
      rcases h2 with ⟨h2, h3⟩ | h2
      · rw [← h2] at h3; cases h3
      · cases v with
        | sl s n' ys =>
          rcases h2 with ⟨h2, _⟩ | ⟨_, _, h2, _⟩ | ⟨i', x', q', p, e2, sz2, es2, xs2, h2, h3, h4, h5, h6, h7, h8⟩
          · cases h2
          · cases h2
          · injection h2 with z1 z2 z3 z4; subst z1; subst z2; subst z3; subst z4
            have fin : ∀ (om : Ob) (li : Loc), σ.mem i = some om → (∀ e sz xs, om ≠ .arr e sz xs) → (∀ a b c d e f, om ≠ .dirt a b c d e f) → μ i = some li → zW li → (∃ R, Row w li e2 sz2 xs2 R ∧ ∀ c, R (x * sz2 + o) (.sl s n' ys) c → Dc w li es2 sz2 (x * sz2 + o) (.sl s n' ys) c) → o = o ∧ ∃ s' ys' n'' li d om, row'[o]? = some (V.sl s' n'' ys') ∧ μ i = some li ∧ zW li ∧ σ.mem i = some om ∧ (∀ e sz xs, om ≠ .arr e sz xs) ∧ i ≠ T ∧ o < li.sz ∧ li.hd (x * li.sz + o) = some d ∧ d.len = n'' ∧ Row w ⟨d.b, d.len, d.cap, s', []⟩ (es.getD o 0) s' ys' (fun _ => Rc w (fun _ => False)) ∧ fB fz i = false ∧ mvd B i x := fun om li hom hna hnd hli hHl ⟨R, hR, hRD⟩ => by
              obtain ⟨f, hc⟩ := jE hR
              obtain ⟨_, _, _, k2, _⟩ := hc _ _ (flat_get xs2 x o p _ hR.2.2.1 h4 h5)
              obtain ⟨d, f1, f2, f3, f4⟩ := hRD _ k2
              have hpl := hR.2.2.1 p (List.mem_of_getElem? h4)
              have hol := (List.getElem?_eq_some_iff.1 h5).1
              rw [show (x * sz2 + o) % sz2 = o by rw [Nat.mul_comm, Nat.mul_add_mod]; exact Nat.mod_eq_of_lt (by omega), h6] at f4
              exact ⟨rfl, s, ys, n', li, d, om, h1, hli, hHl, hom, hna, fun e => (by rw [e, t2] at hom; injection hom with hom; exact hnd _ _ _ _ _ _ hom.symm), by rw [hR.1]; omega, by rw [hR.1]; exact f1, f2, f4, h7, h8⟩
            rcases h3 with h3 | ⟨k0, h3, hk0⟩
            · obtain ⟨li, hli, ⟨hHl, hR⟩, _⟩ := h.ob i _ h3
              exact fin _ li h3 (fun _ _ _ e => by cases e) (fun _ _ _ _ _ _ e => by cases e) hli hHl ⟨_, hR, fun _ h => h⟩
            · obtain ⟨li, hli, ⟨hHl, hR⟩, _⟩ := h.ob i _ h3
              refine fin _ li h3 (fun _ _ _ e => by cases e) (fun _ _ _ _ _ _ e => by cases e) hli hHl ⟨_, hR, fun _ h => h.resolve_left ?_⟩
              have hpl := hR.2.2.1 p (List.mem_of_getElem? h4)
              have hol := (List.getElem?_eq_some_iff.1 h5).1
              rw [Nat.mul_comm, Nat.mul_add_div (by omega), Nat.div_eq_of_lt (by omega)]; omega
        | _ => exact h2.elim
    let hof : Option V → Option (Option Nat × Nat × Nat) := fun o => match o with
      | some (.own m _) => (match μ m with | some lm => some (lm.b, lm.len, lm.cap) | none => none)
      | some (.dsl i x o _) => (match μ i with | some li => (match li.hd (x * li.sz + o) with | some d => some (d.b, d.len, d.cap) | none => none) | none => none)
      | _ => none
    let ent : Nat → Hd := fun off => match hof row[off]? with
      | some (b, n, c) => ⟨idx * sz + off, b, n, c⟩
      | none => ⟨idx * sz + off, none, 0, 0⟩
    have hek : ∀ j, (ent j).k = idx * sz + j := fun j => by
      show (match hof row[j]? with | some (b, n, c) => (⟨idx * sz + j, b, n, c⟩ : Hd) | none => ⟨idx * sz + j, none, 0, 0⟩).k = _
      split <;> rfl
    have hee : ∀ j b n c, hof row[j]? = some (b, n, c) → ent j = ⟨idx * sz + j, b, n, c⟩ := fun j b n c h1 => by
      show (match hof row[j]? with | some (b, n, c) => (⟨idx * sz + j, b, n, c⟩ : Hd) | none => ⟨idx * sz + j, none, 0, 0⟩) = _
      rw [h1]
    have hen : ∀ j, hof row[j]? = none → ent j = ⟨idx * sz + j, none, 0, 0⟩ := fun j h1 => by
      show (match hof row[j]? with | some (b, n, c) => (⟨idx * sz + j, b, n, c⟩ : Hd) | none => ⟨idx * sz + j, none, 0, 0⟩) = _
      rw [h1]
    have hoo : ∀ (j m len : Nat) (lm : Loc), row[j]? = some (V.own m len) → μ m = some lm → hof row[j]? = some (lm.b, lm.len, lm.cap) := fun j m len lm h1 h2 => by
      show (match row[j]? with | some (.own m _) => (match μ m with | some lm => some (lm.b, lm.len, lm.cap) | none => none) | some (.dsl i x o _) => (match μ i with | some li => (match li.hd (x * li.sz + o) with | some d => some (d.b, d.len, d.cap) | none => none) | none => none) | _ => none) = _
      rw [h1]; simp only; rw [h2]
    have hod : ∀ (j i x o q : Nat) (li : Loc) (d : Hd), row[j]? = some (V.dsl i x o q) → μ i = some li → li.hd (x * li.sz + o) = some d → hof row[j]? = some (d.b, d.len, d.cap) := fun j i x o q li d h1 h2 h3 => by
      show (match row[j]? with | some (.own m _) => (match μ m with | some lm => some (lm.b, lm.len, lm.cap) | none => none) | some (.dsl i x o _) => (match μ i with | some li => (match li.hd (x * li.sz + o) with | some d => some (d.b, d.len, d.cap) | none => none) | none => none) | _ => none) = _
      rw [h1]; simp only; rw [h2]; simp only; rw [h3]
    have hon : ∀ (j : Nat), row[j]? = some V.nil → hof row[j]? = none := fun j h1 => by
      show (match row[j]? with | some (.own m _) => (match μ m with | some lm => some (lm.b, lm.len, lm.cap) | none => none) | some (.dsl i x o _) => (match μ i with | some li => (match li.hd (x * li.sz + o) with | some d => some (d.b, d.len, d.cap) | none => none) | none => none) | _ => none) = _
      rw [h1]
    -- where a block of the new row comes from
    have heb : ∀ j b, (ent j).b = some b → (∃ m len lm, row[j]? = some (V.own m len) ∧ μ m = some lm ∧ lm.b = some b) ∨ ∃ i x q li d, row[j]? = some (V.dsl i x j q) ∧ μ i = some li ∧ li.hd (x * li.sz + j) = some d ∧ d.b = some b := fun j b hb' => by
      cases hr : row[j]? with
      | none =>
        rw [hen j (by rw [hr])] at hb'; cases hb'
      | some u =>
        by_cases c1 : ∃ (m len : Nat), u = V.own m len
        · obtain ⟨m, len, rfl⟩ := c1
          obtain ⟨s, ys, n', _, h5, _⟩ := hown j m len hr
          obtain ⟨lm, hlm, _⟩ := h.ob m _ h5
          rw [hee j _ _ _ (hoo j m len lm hr hlm)] at hb'
          exact .inl ⟨m, len, lm, rfl, hlm, hb'⟩
        · by_cases c2 : ∃ (i x o q : Nat), u = V.dsl i x o q
          · obtain ⟨i, x, o, q, rfl⟩ := c2
            obtain ⟨rfl, s, ys, n', li, d, om, _, z2, _, _, _, _, _, z7, _⟩ := hdsl j i x o q hr
            rw [hee _ _ _ _ (hod _ i x _ q li d hr z2 z7)] at hb'
            exact .inr ⟨i, x, q, li, d, rfl, z2, z7, hb'⟩
          · have hn : hof row[j]? = none := by
              show (match row[j]? with | some (.own m _) => (match μ m with | some lm => some (lm.b, lm.len, lm.cap) | none => none) | some (.dsl i x o _) => (match μ i with | some li => (match li.hd (x * li.sz + o) with | some d => some (d.b, d.len, d.cap) | none => none) | none => none) | _ => none) = _
              rw [hr]
              cases u <;> first | rfl | exact absurd ⟨_, _, rfl⟩ c1 | exact absurd ⟨_, _, _, _, rfl⟩ c2
            rw [hen j hn] at hb'; cases hb'
    -- its object, and that nothing told holds it
    have hsr : ∀ j b, (ent j).b = some b → ∃ m lm om, σ.mem m = some om ∧ μ m = some lm ∧ lm.has b ∧ fB fz m = false ∧ m ≠ T ∧ ∀ om l2, lk B m = some om → tlm B μ m = some l2 → ¬ l2.has b := fun j b hb' => by
      rcases heb j b hb' with ⟨m, len, lm, q1, q2, q3⟩ | ⟨i, x, q, li, d, q1, q2, q3, q4⟩
      · obtain ⟨s, ys, n', _, h5, h6, _⟩ := hown j m len q1
        obtain ⟨z1, z2, _⟩ := hmk m h6
        exact ⟨m, lm, _, h5, q2, .inl q3, z1, fun e => (by rw [e, t2] at h5; cases h5), fun om l2 hm _ => (by rw [z2] at hm; cases hm)⟩
      · obtain ⟨_, s, ys, n', li', d', om, _, z2, zH, z3, z4, z5, z6, z7, _, _, z9, z10⟩ := hdsl j i x j q q1
        rw [q2] at z2; injection z2 with z2; subst z2
        rw [q3] at z7; injection z7 with z7; subst z7
        refine ⟨i, li, om, z3, q2, Loc.hd_has q3 q4, z9, z5, fun oB l2 hB hl2 hb2 => ?_⟩
        unfold mvd at z10
        rw [hB] at z10
        split at z10
        · cases ‹some oB = none›
        · rename_i e2 sz2 es2 xs2 k hh
          injection hh with hh; subst hh
          rw [zP q2 hB] at hl2; injection hl2 with hl2; subst hl2
          rcases hb2 with hb2 | ⟨k', h', f1, f2⟩
          · exact (zH _ d b q3 q4).1 hb2
          · obtain ⟨f3, f4⟩ := oY f1
            have := (zH _ d b q3 q4).2 k' h' f3 f2
            rw [← this, Nat.mul_comm, Nat.mul_add_div (by omega), Nat.div_eq_of_lt z6] at f4
            omega
        · exact z10
    have hij : ∀ j j2 b, (ent j).b = some b → (ent j2).b = some b → j = j2 := fun j j2 b h1 h2 => by
      rcases heb j b h1 with ⟨m, len, lm, q1, q2, q3⟩ | ⟨i, x, q, li, d, q1, q2, q3, q4⟩ <;> rcases heb j2 b h2 with ⟨m', len', lm', p1, p2, p3⟩ | ⟨i', x', q', li', d', p1, p2, p3, p4⟩
      · obtain ⟨_, _, _, _, h5, _⟩ := hown j m len q1
        obtain ⟨_, _, _, _, h6, _⟩ := hown j2 m' len' p1
        have := h.ap m m' lm lm' b (by rw [h5]; simp) (by rw [h6]; simp) q2 p2 (.inl q3) (.inl p3)
        subst this
        exact sZ row j j2 m len len' t3 q1 p1
      · obtain ⟨_, _, _, _, h5, _⟩ := hown j m len q1
        obtain ⟨_, _, _, _, _, _, om, _, _, _, z3, z4, _⟩ := hdsl j2 i' x' j2 q' p1
        have := h.ap m i' lm li' b (by rw [h5]; simp) (by rw [z3]; simp) q2 p2 (.inl q3) (Loc.hd_has p3 p4)
        subst this
        rw [h5] at z3; injection z3 with z3
        exact absurd z3.symm (z4 _ _ _)
      · obtain ⟨_, _, _, _, h5, _⟩ := hown j2 m' len' p1
        obtain ⟨_, _, _, _, _, _, om, _, _, _, z3, z4, _⟩ := hdsl j i x j q q1
        have := h.ap i m' li lm' b (by rw [z3]; simp) (by rw [h5]; simp) q2 p2 (Loc.hd_has q3 q4) (.inl p3)
        subst this
        rw [h5] at z3; injection z3 with z3
        exact absurd z3.symm (z4 _ _ _)
      · obtain ⟨_, _, _, _, la, _, om, _, zl, zH, z3, z4, _, z6, _⟩ := hdsl j i x j q q1
        obtain ⟨_, _, _, _, lb, _, om', _, yl, _, y3, y4, _, y6, _⟩ := hdsl j2 i' x' j2 q' p1
        have := h.ap i i' li li' b (by rw [z3]; simp) (by rw [y3]; simp) q2 p2 (Loc.hd_has q3 q4) (Loc.hd_has p3 p4)
        subst this
        rw [q2] at p2; injection p2 with p2; subst p2
        rw [q2] at zl; injection zl with zl; subst zl
        rw [q2] at yl; injection yl with yl; subst yl
        have e := (zH _ d b q3 q4).2 _ d' p3 p4
        have e1 : (x * li.sz + j) % li.sz = j := by rw [Nat.mul_comm, Nat.mul_add_mod]; exact Nat.mod_eq_of_lt z6
        have e2 : (x' * li.sz + j2) % li.sz = j2 := by rw [Nat.mul_comm, Nat.mul_add_mod]; exact Nat.mod_eq_of_lt y6
        rw [← e1, ← e2, e]
    let l' : Loc := ⟨l.b, l.len, l.cap, l.sz, (List.range sz).map ent ++ l.fp⟩
    have hdin : ∀ off, off < sz → l'.hd (idx * sz + off) = some (ent off) := fun off ho => by
      show ((List.range sz).map ent ++ l.fp).find? _ = _
      rw [List.find?_append, yA ent (idx * sz) hek off sz ho]; rfl
    have hdout : ∀ k, k < idx * sz ∨ idx * sz + sz ≤ k → l'.hd k = l.hd k := fun k hk => by
      show ((List.range sz).map ent ++ l.fp).find? _ = l.fp.find? _
      rw [List.find?_append, uN ent (idx * sz) hek k sz hk]; rfl
    have hcase : ∀ k, (∃ off, off < sz ∧ k = idx * sz + off) ∨ (k < idx * sz ∨ idx * sz + sz ≤ k) := fun k => by
      by_cases c : idx * sz ≤ k ∧ k < idx * sz + sz
      · exact .inl ⟨k - idx * sz, by omega, by omega⟩
      · exact .inr (by omega)
    have hlh : ∀ b, l'.has b → l.has b ∨ ∃ j, (ent j).b = some b := fun b hb' => by
      rcases hb' with hb' | ⟨k, d, hk, hdb⟩
      · exact .inl (.inl hb')
      · rcases hcase k with ⟨off, ho, rfl⟩ | hout
        · rw [hdin off ho] at hk; injection hk with hk; subst hk
          exact .inr ⟨off, hdb⟩
        · rw [hdout k hout] at hk
          exact .inl (Loc.hd_has hk hdb)
    let μ' : Nat → Option Loc := fun i => if i = T then some l' else tlm B μ i
    have hμT : μ' T = some l' := if_pos rfl
    have hμo : ∀ i, i ≠ T → μ' i = tlm B μ i := fun i hi => if_neg hi
    have hμ : ∀ i l, μ i = some l → ∃ l', μ' i = some l' ∧ mY l l' := fun i li hli => by
      by_cases c : i = T
      · subst c
        rw [hl] at hli; injection hli with hli; subst hli
        exact ⟨l', hμT, rfl, rfl, rfl, rfl⟩
      · obtain ⟨l2, h1, h2, _⟩ := tK (B := B) hli
        exact ⟨l2, by rw [hμo i c]; exact h1, h2⟩
    have hE2 : ∀ (A' : Nat → Prop) (v : V), v.nod = true → ∀ x, Rv w A' μ v x → Rv w A' μ' v x := fun A' v hv x hx => hx.monoC (fun _ h => h) (fun _ _ _ h => h) hμ hv
    have hap : ∀ j b, (ent j).b = some b → ¬ l.has b := fun j b hj hlb => by
      obtain ⟨m, lm, om, q1, q2, q3, _, q5, _⟩ := hsr j b hj
      exact q5 (h.ap m T lm l b (by rw [q1]; simp) (by rw [t2]; simp) q2 hl q3 hlb)
    have hH' : zW l' := fun k d b hk hdb => by
      rcases hcase k with ⟨off, ho, rfl⟩ | hout
      · rw [hdin off ho] at hk; injection hk with hk; subst hk
        refine ⟨fun hb' => hap off b hdb (.inl hb'), fun k2 d2 hk2 hdb2 => ?_⟩
        rcases hcase k2 with ⟨off2, ho2, rfl⟩ | hout2
        · rw [hdin off2 ho2] at hk2; injection hk2 with hk2; subst hk2
          rw [hij off off2 b hdb hdb2]
        · rw [hdout k2 hout2] at hk2
          exact absurd (Loc.hd_has hk2 hdb2) (hap off b hdb)
      · rw [hdout k hout] at hk
        refine ⟨(hH k d b hk hdb).1, fun k2 d2 hk2 hdb2 => ?_⟩
        rcases hcase k2 with ⟨off2, ho2, rfl⟩ | hout2
        · rw [hdin off2 ho2] at hk2; injection hk2 with hk2; subst hk2
          exact absurd (Loc.hd_has hk hdb) (hap off2 b hdb2)
        · rw [hdout k2 hout2] at hk2
          exact (hH k d b hk hdb).2 k2 d2 hk2 hdb2
    have hOT : ∀ (A' : Nat → Prop) (μ2 : Nat → Option Loc), gP w A' μ2 l' (.deep e sz es (xs.set idx row')) := fun A' μ2 => by
      have hu' : ∀ p ∈ xs.set idx row', p.length = sz := fun p hp => by
        obtain ⟨j, hj⟩ := List.getElem?_of_mem hp
        by_cases c : j = idx
        · subst c
          rw [List.getElem?_set_self hidx] at hj; injection hj with hj; subst hj
          rw [← g1]; exact hrow
        · rw [List.getElem?_set_ne (fun e => c e.symm)] at hj
          exact r3 p (List.mem_of_getElem? (by rw [List.getElem?_set_ne (fun e => c e.symm)]; exact hj : (xs.set idx row)[j]? = some p))
      refine ⟨hH', r1, by simpa using r2, hu', cs, r4, r5, fun k u c hk hc => ?_⟩
      obtain ⟨q, k1, k2⟩ := kG _ k u hu' hk
      have hk' : k = k / sz * sz + k % sz := by rw [Nat.mul_comm]; exact (Nat.div_add_mod k sz).symm
      have hpos : 0 < sz := by
        have hq := hu' q (List.mem_of_getElem? k1)
        have := (List.getElem?_eq_some_iff.1 k2).1
        omega
      have hms : k % sz < sz := Nat.mod_lt _ hpos
      by_cases cc : k / sz = idx
      · rw [cc, List.getElem?_set_self hidx] at k1
        injection k1 with k1; subst k1
        obtain ⟨u0, hu0⟩ : ∃ u0, row[k % sz]? = some u0 := ⟨_, List.getElem?_eq_getElem (by omega)⟩
        obtain ⟨v, e1, e2⟩ := g2 _ u0 hu0
        rw [k2] at e1; injection e1 with e1; subst e1
        rw [Nat.zero_add] at e2
        have hfl : (xs.set idx row).flatten[k]? = some u0 := by
          rw [hk', cc]
          exact flat_get _ idx (k % sz) row u0 r3 (List.getElem?_set_self hidx) hu0
        rcases r6 k u0 c hfl hc with q6 | q6
        · exact absurd cc q6.1
        obtain ⟨_, q7, q8⟩ := q6
        have hke : k = idx * sz + k % sz := by rw [← cc]; exact hk'
        have hdk : l'.hd k = some (ent (k % sz)) := by
          have := hdin _ hms
          rwa [← hke] at this
        rcases e2 with ⟨rfl, hbv⟩ | e2
        · exact wK hbv (iT q8 (lS hbv))
        · cases u with
          | sl s n' ys =>
            rcases e2 with ⟨rfl, rfl, rfl⟩ | ⟨m, len, rfl, e3, e4, e5, e6⟩ | ⟨i, x, q, p, e2, sz2, es2, xs2, rfl, _⟩
            · have := q8.nil_inv; subst this
              refine ⟨ent (k % sz), hdk, ?_⟩
              rw [hen _ (hon _ hu0)]
              exact ⟨rfl, rfl, rfl, rfl, fun _ h => (by cases h), [], ⟨by simp, .inl ⟨rfl, rfl⟩⟩, fun _ h => (by cases h), fun k u c hk => by simp at hk⟩
            · obtain ⟨lm, f1, f2, f3⟩ := q8.own_inv
              have hent := hee _ _ _ _ (hoo _ m len lm hu0 f1)
              obtain ⟨lm', f4, f5, _⟩ := h.ob m _ e3
              rw [f1] at f4; injection f4 with f4; subst f4
              refine ⟨ent (k % sz), hdk, ?_⟩
              rw [hent]
              refine ⟨?_, f3, zC (l := lm) (l' := ⟨lm.b, lm.len, lm.cap, s, []⟩) e6 rfl rfl rfl rfl (show Row w lm (es.getD (k % sz) 0) s ys (fun _ => Rc w A) from f5)⟩
              have := f5.2.1
              show lm.len = n'
              rcases e5 with e5 | e5 <;> omega
            · obtain ⟨_, s', ys', n'', li, d, om, y1, y2, _, _, _, _, _, y7, y8, y9, _⟩ := hdsl _ i x _ q hu0
              rw [k2] at y1; injection y1 with y1; injection y1 with z1 z2 z3; subst z1; subst z2; subst z3
              obtain ⟨la, da, f1, f2, f3, f4⟩ := q8.dsl_inv
              rw [y2] at f1; injection f1 with f1; subst f1
              rw [y7] at f2; injection f2 with f2; subst f2
              refine ⟨ent (k % sz), hdk, ?_⟩
              rw [hee _ _ _ _ (hod _ i x _ q li d hu0 y2 y7)]
              exact ⟨y8, f4, y9⟩
          | _ => exact e2.elim
      · rw [List.getElem?_set_ne (fun e => cc e.symm)] at k1
        have hfl : (xs.set idx row).flatten[k]? = some u := by
          rw [hk']
          exact flat_get _ _ (k % sz) q u r3 (by rw [List.getElem?_set_ne (fun e => cc e.symm)]; exact k1) k2
        rcases r6 k u c hfl hc with q6 | q6
        · have hD := q6.2
          have hout : k < idx * sz ∨ idx * sz + sz ≤ k := by
            rcases Nat.lt_or_gt_of_ne cc with hlt | hgt
            · left
              have := Nat.mul_le_mul_right sz hlt
              rw [Nat.succ_mul] at this
              omega
            · right
              have := Nat.mul_le_mul_right sz hgt
              rw [Nat.succ_mul] at this
              omega
          cases u with
          | sl s n' ys =>
            obtain ⟨d, f1, f2⟩ := hD
            exact ⟨d, by rw [hdout k hout]; exact f1, f2⟩
          | _ => exact hD
        · exact absurd q6.1 cc
    have memT : ∀ i ob, lk B i = some ob → σ.mem i ≠ none := fun i ob hi => (kE B i ob hb hi).ne
    refine Exists.elim (uF (μ' := μ') hX' h hf hn he hb hμ (fun i li hli => ?_) (fun i ob li b hi hli hb' => ?_) (fun i j oi oj li lj b hi hj h1 h2 h3 h4 => ?_) (fun i li hi hli => ?_) (fun A' t v hv x hx => hE2 A' v (List.all_eq_true.1 m4 _ (jI E t v hv)) x hx) (fun A' i cs hcs u hu x hx => ?_) (fun A' hA' i ob li hi hnb hli => ?_)) (fun A' z => ⟨A', μ', z.1, z.2⟩)
    · by_cases c : i = T
      · subst c; exact ⟨l, hl⟩
      · rw [hμo i c] at hli
        obtain ⟨l2, h1, _⟩ := kV hli
        exact ⟨l2, h1⟩
    · by_cases c : i = T
      · subst c
        rw [hμT] at hli; injection hli with hli; subst hli
        rcases hlh b hb' with hb' | ⟨j, hj⟩
        · exact ⟨i, l, _, t2, hl, hb', hfB i ob hi⟩
        · obtain ⟨m, lm, om, q1, q2, q3, q4, _⟩ := hsr j b hj
          exact ⟨m, lm, om, q1, q2, q3, q4⟩
      · rw [hμo i c] at hli
        obtain ⟨l2, h1, _, h3, _⟩ := kV hli
        obtain ⟨ob0, hm0⟩ := Option.ne_none_iff_exists'.1 (memT i ob hi)
        exact ⟨i, l2, ob0, hm0, h1, h3 b hb', hfB i ob hi⟩
    · have one : ∀ j oj lj b, j ≠ T → lk B j = some oj → μ' j = some lj → l'.has b → lj.has b → False := fun j oj lj b hjT hj h2 h3 h4 => by
        rw [hμo j hjT] at h2
        obtain ⟨l2, f1, _, f3, _⟩ := kV h2
        rcases hlh b h3 with h3 | ⟨j0, h3⟩
        · exact hjT (h.ap j T l2 l b (memT j oj hj) (by rw [t2]; simp) f1 hl (f3 b h4) h3)
        · obtain ⟨m, lm, om, q1, q2, q3, _, _, q6⟩ := hsr j0 b h3
          have := h.ap j m l2 lm b (memT j oj hj) (by rw [q1]; simp) f1 q2 (f3 b h4) q3
          subst this
          exact q6 oj lj hj h2 h4
      by_cases ci : i = T
      · by_cases cj : j = T
        · rw [ci, cj]
        · subst ci
          rw [hμT] at h1; injection h1 with h1; subst h1
          exact (one j oj lj b cj hj h2 h3 h4).elim
      · by_cases cj : j = T
        · subst cj
          rw [hμT] at h2; injection h2 with h2; subst h2
          exact (one i oi li b ci hi h1 h4 h3).elim
        · rw [hμo i ci] at h1
          rw [hμo j cj] at h2
          obtain ⟨l1, f1, _, f3, _⟩ := kV h1
          obtain ⟨l2, k1, _, k3, _⟩ := kV h2
          exact h.ap i j l1 l2 b (memT i oi hi) (memT j oj hj) f1 k1 (f3 b h3) (k3 b h4)
    · rw [hμo i (by omega), hNT i hi]; exact hli
    · have := List.all_eq_true.1 m5 _ (jI B i _ hcs)
      have := List.all_eq_true.1 (show cs.all V.nd1 = true from this) u hu
      exact hx.monoC1 (fun _ h => h) (fun _ _ _ h => h) hμ this
    · by_cases c : i = T
      · subst c
        rw [hμT] at hli; injection hli with hli; subst hli
        rw [t1] at hi; injection hi with hi; subst hi
        exact hOT A' μ'
      · rw [hμo i c] at hli
        have hnd := List.all_eq_true.1 m5 _ (jI B i _ hi)
        cases ob with
        | box cs => exact absurd rfl (hnb cs)
        | dirt e sz es xs idx row => cases hnd
        | tail e sz es xs k => exact tailO A' μ' i e sz k es xs li hi hli
        | mp es => cases hnd
        | arr e2 sz2 xs2 =>
          rw [mU (fun _ _ _ _ _ hk => by rw [hi] at hk; cases hk)] at hli
          rcases kE B i _ hb hi with e0 | e0
          · obtain ⟨l2, hl2, hob2, _⟩ := h.ob i _ e0
            rw [hli] at hl2; injection hl2 with hl2; subst hl2
            exact gP.re (ob := .arr e2 sz2 xs2) rfl (gP.mono (w := w) (w' := w) hA' (fun _ _ _ h => h) (fun _ _ h => h) (fun _ _ => rfl) hob2)
          · exact e0.elim
        | deep e2 sz2 es2 vs =>
          rw [mU (fun _ _ _ _ _ hk => by rw [hi] at hk; cases hk)] at hli
          rcases kE B i _ hb hi with e0 | e0
          · obtain ⟨l2, hl2, hob2, _⟩ := h.ob i _ e0
            rw [hli] at hl2; injection hl2 with hl2; subst hl2
            exact hob2
          · obtain ⟨_, _, _, _, _, _, _, _, q5⟩ := e0
            have := aMB (Nat.le_of_ble_eq_true m1) ((gX _ _).1 q5) ((gX _ _).1 t5) (Nat.ble_eq_true_of_le (by omega)) (Nat.ble_eq_true_of_le (by omega))
            omega
  · have hμ : ∀ i l, μ i = some l → ∃ l', tlm B μ i = some l' ∧ mY l l' := fun i l hl => by
      obtain ⟨l', h1, h2, _⟩ := tK (B := B) hl
      exact ⟨l', h1, h2⟩
    have memT : ∀ i ob, lk B i = some ob → σ.mem i ≠ none := fun i ob hi => (kE B i ob hb hi).ne
    refine Exists.elim (uF (μ' := tlm B μ) hX' h hf hn he hb hμ (fun i l hl => by obtain ⟨l2, h1, _⟩ := kV hl; exact ⟨l2, h1⟩) (fun i ob l b hi hl hb' => ?_) (fun i j oi oj li lj b hi hj h1 h2 h3 h4 => ?_) (fun i l hi hl => by rw [hNT i hi]; exact hl) (fun A' t v hv x hx => hx.monoC (fun _ h => h) (fun _ _ _ h => h) hμ (List.all_eq_true.1 m4 _ (jI E t v hv))) (fun A' i cs hcs u hu x hx => ?_) (fun A' hA' i ob li hi hnb hli => ?_)) (fun A' z => ⟨A', tlm B μ, z.1, z.2⟩)
    · obtain ⟨l2, h1, _, h3, _⟩ := kV hl
      obtain ⟨ob0, hm0⟩ := Option.ne_none_iff_exists'.1 (memT i ob hi)
      exact ⟨i, l2, ob0, hm0, h1, h3 b hb', hfB i ob hi⟩
    · obtain ⟨l1, f1, _, f3, _⟩ := kV h1
      obtain ⟨l2, k1, _, k3, _⟩ := kV h2
      exact h.ap i j l1 l2 b (memT i oi hi) (memT j oj hj) f1 k1 (f3 b h3) (k3 b h4)
    · have := List.all_eq_true.1 m5 _ (jI B i _ hcs)
      have := List.all_eq_true.1 (show cs.all V.nd1 = true from this) u hu
      exact hx.monoC1 (fun _ h => h) (fun _ _ _ h => h) hμ this
    · have hnd := List.all_eq_true.1 m5 _ (jI B i _ hi)
      cases ob with
      | box cs => exact absurd rfl (hnb cs)
      | dirt e sz es xs idx row => cases hnd
      | tail e sz es xs k => exact tailO A' _ i e sz k es xs li hi hli
      | mp es => cases hnd
      | arr e2 sz2 xs2 =>
        rw [mU (fun _ _ _ _ _ hk => by rw [hi] at hk; cases hk)] at hli
        rcases kE B i _ hb hi with e0 | e0
        · obtain ⟨l2, hl2, hob2, _⟩ := h.ob i _ e0
          rw [hli] at hl2; injection hl2 with hl2; subst hl2
          exact gP.re (ob := .arr e2 sz2 xs2) rfl (gP.mono (w := w) (w' := w) hA' (fun _ _ _ h => h) (fun _ _ h => h) (fun _ _ => rfl) hob2)
        · exact e0.elim
      | deep e2 sz2 es2 vs =>
        rw [mU (fun _ _ _ _ _ hk => by rw [hi] at hk; cases hk)] at hli
        rcases kE B i _ hb hi with e0 | e0
        · obtain ⟨l2, hl2, hob2, _⟩ := h.ob i _ e0
          rw [hli] at hl2; injection hl2 with hl2; subst hl2
          exact hob2
        · obtain ⟨xs, idx, row, row', q1, q2, q3, q4, q5⟩ := e0
          subst q4
          exact absurd ⟨i, e2, sz2, es2, xs, idx, row, row', hi, q1, q2, q3, q5⟩ hT
def aMX (n0 : Nat) (w0 : World) (X A0 : Nat → Prop) (N : Nat) (bd : Nat → Prop) (σ' : St) (hv : List Tmp) (a : Act) (w : World) (A : Nat → Prop) (μ : Nat → Option Loc) (a' : Act) (w' : World) : Prop :=
  ∃ A' μ', Ok w0 X A0 N bd σ' a' w' A' μ' ∧ kO n0 hv a w A μ a' w' A' μ'
def nP (n0 : Nat) (w0 : World) (X A0 : Nat → Prop) (N : Nat) (Q : Exit → St → Prop) (hv : List Tmp) (a : Act) (w : World) (A : Nat → Prop) (μ : Nat → Option Loc) : Exit → Act → World → Prop :=
  fun e a' w' => (∀ c, e ≠ .panic c) ∧ e ≠ .outgrown ∧ ∃ σ', Q e σ' ∧ aMX n0 w0 X A0 N (fun j => j < σ'.next) σ' hv a w A μ a' w'
theorem nP.mono {n0 : Nat} {Q : Exit → St → Prop} {hv hv' : List Tmp} {a a1 : Act} {w w1 : World} {A A1 : Nat → Prop} {μ μ1 : Nat → Option Loc} (hx : kO n0 hv' a w A μ a1 w1 A1 μ1) (hs : ∀ t ∈ hv', t ∈ hv) {hv2 : List Tmp} (hs2 : ∀ t ∈ hv2, t ∈ hv) {e : Exit} {a' : Act} {w' : World}
    (h : nP n0 w0 X A0 N Q hv2 a1 w1 A1 μ1 e a' w') : nP n0 w0 X A0 N Q hv a w A μ e a' w' := by
  obtain ⟨h1, h2, σ', h3, A', μ', h4, h5⟩ := h
  exact ⟨h1, h2, σ', h3, A', μ', h4, (hx.trans h5).mono (fun t ht => (List.mem_append.1 ht).elim (hs t) (hs2 t))⟩
theorem gG {n0 : Nat} (hT : TOk P T) (hG : GX G w0 X A0) (hP : P.follows .mixedOrders = true) : ∀ (c : Code), lB N c = true → ∀ (J : Jt), J.fok n0 = true → ∀ (Q : Exit → St → Prop) (σ : St) (a : Act) (w : World) (A : Nat → Prop) (μ : Nat → Option Loc),
    awp P G T c J Q σ → Ok w0 X A0 N (fun j => j < σ.next) σ a w A μ → XB n0 X μ → c.wp P (nP n0 w0 X A0 N Q (qW c) a w A μ) a w
  | .skip, _, J, hJ, Q, σ, a, w, A, μ, h, hok, hX => wp_skip ⟨fun c h => (by cases h), fun h => (by cases h), σ, h, A, μ, hok, kO.refl _ _ _ _ _ _⟩
  | .ret, _, J, hJ, Q, σ, a, w, A, μ, h, hok, hX => wp_ret ⟨fun c h => (by cases h), fun h => (by cases h), σ, h, A, μ, hok, kO.refl _ _ _ _ _ _⟩
  | .exit id, _, J, hJ, Q, σ, a, w, A, μ, h, hok, hX => wp_exit ⟨fun c h => (by cases h), fun h => (by cases h), σ, h, A, μ, hok, kO.refl _ _ _ _ _ _⟩
  | .region id ops draw, hc, J, hJ, Q, σ, a, w, A, μ, h, hok, hX => by
    simp only [awp, aCC, aGM] at h
    have := xM (id := id) (draw := draw) hT hG hP hc hok (by
      cases J <;> first | exact .inl ⟨_, rfl⟩ | skip
      simp only [Jt.wl]
      split
      · rename_i hl; exact .inr ⟨_, rfl, hl⟩
      · exact .inl ⟨_, rfl⟩) h
    refine wp_mono this (fun e a' w' ⟨he, σ', hk, A', μ', h1, h2⟩ => ?_)
    subst he
    refine ⟨fun c h => (by cases h), fun h => (by cases h), _, hk, A', μ', ⟨h1.tm, h1.df, h1.env, h1.os, h1.tape, h1.out, h1.size, h1.old, h1.hA, h1.sub, h1.ob, h1.ap, fun i hi => ?_⟩, h2.w⟩
    exact h1.bd i hi
  | .seq x y, hc, J, hJ, Q, σ, a, w, A, μ, h, hok, hX => by
    simp only [lB, Bool.and_eq_true] at hc
    simp only [awp] at h
    split at h
    · simp only [Sq] at h
      obtain ⟨τ, I, md, E, B, M, h1, h2⟩ := h
      refine wp_seq (wp_mono (gG hT hG hP x hc.1 _ (Jt.fok_a hJ) _ σ a w A μ h1 hok hX) (fun e a' w' ⟨g1, g2, σ', g3, A', μ', g4, g5⟩ => ?_))
      cases e with
      | normal =>
        obtain ⟨z, rn, hI, hF⟩ := g3
        obtain ⟨μ2, k1, k2⟩ := qY hok g4 g5 hF
        exact wp_mono (gG hT hG hP y hc.2 _ (Jt.fok_b hJ) Q _ a' w' A' μ2 (by have := h2 z hI; rwa [zX] at this) k1 (hX.mono k2.mu0)) (fun e a2 w2 h => nP.mono k2 (fun t ht => List.mem_append_left _ ht) (fun t ht => List.mem_append_right _ ht) h)
      | exit id => exact ⟨g1, g2, σ', g3, A', μ', g4, g5.mono (fun t ht => List.mem_append_left _ ht)⟩
      | goto l => exact ⟨g1, g2, σ', g3, A', μ', g4, g5.mono (fun t ht => List.mem_append_left _ ht)⟩
      | ret => exact ⟨g1, g2, σ', g3, A', μ', g4, g5.mono (fun t ht => List.mem_append_left _ ht)⟩
      | panic c => exact absurd rfl (g1 c)
      | outgrown => exact absurd rfl g2
    · split at h
      · refine wp_seq (wp_mono (gG hT hG hP x hc.1 _ (Jt.fok_a hJ) _ σ a w A μ h hok hX) (fun e a' w' ⟨h1, h2, σ', h3, A', μ', h4, h5⟩ => ?_))
        cases e with
        | normal =>
          obtain ⟨n, E, B, fz, hal, hf, hn, hE, hB, hK⟩ := h3
          have hX2 : (fz = [] ∧ (B.all fun p => !p.2.isT) = true) ∨ (XB n0 X μ' ∧ (rQ n0 B && xY n0 E B fz) = true) := by
            rcases Jt.fok_fz hJ with e | e
            · rw [e] at hal; exact .inl ⟨List.isEmpty_iff.1 (Bool.and_eq_true _ _ ▸ hal).1, (Bool.and_eq_true _ _ ▸ hal).2⟩
            · rw [e] at hal; exact .inr ⟨hX.mono h5.mu0, hal⟩
          obtain ⟨A2, μ2, k1, k2⟩ := aAM hX2 h4 hf hn hE hB
          exact wp_mono (gG hT hG hP y hc.2 _ (Jt.fok_b hJ) Q _ a' w' A2 μ2 hK k1 (hX.mono (h5.trans k2).mu0)) (fun e a2 w2 h => nP.mono (h5.trans k2) (fun t ht => (List.mem_append.1 ht).elim (List.mem_append_left _) (fun h => by cases h)) (fun t ht => List.mem_append_right _ ht) h)
        | exit id => exact ⟨h1, h2, σ', h3, A', μ', h4, h5.mono (fun t ht => List.mem_append_left _ ht)⟩
        | goto l => exact ⟨h1, h2, σ', h3, A', μ', h4, h5.mono (fun t ht => List.mem_append_left _ ht)⟩
        | ret => exact ⟨h1, h2, σ', h3, A', μ', h4, h5.mono (fun t ht => List.mem_append_left _ ht)⟩
        | panic c => exact absurd rfl (h1 c)
        | outgrown => exact absurd rfl h2
      refine wp_seq (wp_mono (gG hT hG hP x hc.1 _ (Jt.fok_a hJ) _ σ a w A μ h hok hX) (fun e a' w' ⟨h1, h2, σ', h3, A', μ', h4, h5⟩ => ?_))
      cases e with
      | normal => exact wp_mono (gG hT hG hP y hc.2 _ (Jt.fok_b hJ) Q σ' a' w' A' μ' h3 h4 (hX.mono h5.mu0)) (fun e a2 w2 h => nP.mono h5 (fun t ht => List.mem_append_left _ ht) (fun t ht => List.mem_append_right _ ht) h)
      | exit id => exact ⟨h1, h2, σ', h3, A', μ', h4, h5.mono (fun t ht => List.mem_append_left _ ht)⟩
      | goto l => exact ⟨h1, h2, σ', h3, A', μ', h4, h5.mono (fun t ht => List.mem_append_left _ ht)⟩
      | ret => exact ⟨h1, h2, σ', h3, A', μ', h4, h5.mono (fun t ht => List.mem_append_left _ ht)⟩
      | panic c => exact absurd rfl (h1 c)
      | outgrown => exact absurd rfl h2
  | .cond c x y, hc, J, hJ, Q, σ, a, w, A, μ, h, hok, hX => by
    simp only [lB, Bool.and_eq_true] at hc
    simp only [awp] at h
    split at h
    · rename_i b hb
      have hv := hok.ev c
      rw [hb] at hv
      split at h
      · refine wp_cond_split hv.bool_inv (fun ht => ?_) (fun ht => ?_)
        · obtain ⟨n, E, B, fz, hal, hf, hn, hE, hB, hK⟩ := h.out.1 ht
          have hX2 : (fz = [] ∧ (B.all fun p => !p.2.isT) = true) ∨ (XB n0 X μ ∧ (rQ n0 B && xY n0 E B fz) = true) := by
            rcases Jt.fok_fz hJ with e | e
            · rw [e] at hal; exact .inl ⟨List.isEmpty_iff.1 (Bool.and_eq_true _ _ ▸ hal).1, (Bool.and_eq_true _ _ ▸ hal).2⟩
            · rw [e] at hal; exact .inr ⟨hX, hal⟩
          obtain ⟨A2, μ2, k1, k2⟩ := aAM hX2 hok hf hn hE hB
          exact wp_mono (gG hT hG hP x hc.1 _ (Jt.fok_a hJ) Q _ a w A2 μ2 hK k1 (hX.mono k2.mu0)) (fun e a2 w2 h => nP.mono k2 (fun t ht => by cases ht) (fun t ht => List.mem_append_left _ ht) h)
        · obtain ⟨n, E, B, fz, hal, hf, hn, hE, hB, hK⟩ := h.out.2 ht
          have hX2 : (fz = [] ∧ (B.all fun p => !p.2.isT) = true) ∨ (XB n0 X μ ∧ (rQ n0 B && xY n0 E B fz) = true) := by
            rcases Jt.fok_fz hJ with e | e
            · rw [e] at hal; exact .inl ⟨List.isEmpty_iff.1 (Bool.and_eq_true _ _ ▸ hal).1, (Bool.and_eq_true _ _ ▸ hal).2⟩
            · rw [e] at hal; exact .inr ⟨hX, hal⟩
          obtain ⟨A2, μ2, k1, k2⟩ := aAM hX2 hok hf hn hE hB
          exact wp_mono (gG hT hG hP y hc.2 _ (Jt.fok_b hJ) Q _ a w A2 μ2 hK k1 (hX.mono k2.mu0)) (fun e a2 w2 h => nP.mono k2 (fun t ht => by cases ht) (fun t ht => List.mem_append_right _ ht) h)
      refine wp_cond_split hv.bool_inv (fun ht => ?_) (fun ht => ?_)
      · exact wp_mono (gG hT hG hP x hc.1 _ (Jt.fok_a hJ) Q σ a w A μ (h.out.1 ht) hok hX) (fun e a' w' h => nP.mono (kO.refl _ [] _ _ _ _) (fun t ht => by cases ht) (fun t ht => List.mem_append_left _ ht) h)
      · exact wp_mono (gG hT hG hP y hc.2 _ (Jt.fok_b hJ) Q σ a w A μ (h.out.2 ht) hok hX) (fun e a' w' h => nP.mono (kO.refl _ [] _ _ _ _) (fun t ht => by cases ht) (fun t ht => List.mem_append_right _ ht) h)
    · exact h.elim
  | .block id c, hc, J, hJ, Q, σ, a, w, A, μ, h, hok, hX => by
    refine wp_block (wp_mono (gG hT hG hP c hc _ hJ _ σ a w A μ h hok hX) (fun e a' w' ⟨h1, h2, σ', h3, h4⟩ => ?_))
    cases e with
    | normal => exact ⟨h1, h2, σ', h3, h4⟩
    | exit id' =>
      simp only [Exit.inBlock]
      simp only at h3
      by_cases hid : id' = id
      · subst hid
        rw [if_pos rfl]
        have : Nat.beq id' id' = true := Nat.beq_refl _
        rw [this] at h3
        exact ⟨fun c h => (by cases h), fun h => (by cases h), σ', h3, h4⟩
      · rw [if_neg hid]
        have : Nat.beq id' id = false := by
          cases hb : Nat.beq id' id with
          | false => rfl
          | true => exact absurd (Nat.eq_of_beq_eq_true hb) hid
        rw [this] at h3
        exact ⟨h1, h2, σ', h3, h4⟩
    | goto l => exact ⟨h1, h2, σ', h3, h4⟩
    | ret => exact ⟨h1, h2, σ', h3, h4⟩
    | panic c => exact absurd rfl (h1 c)
    | outgrown => exact absurd rfl h2
  | .loop c, hc, J, hJ, Q, σ, a, w, A, μ, h, hok, hX => by
    simp only [awp, Lp] at h
    obtain ⟨τ, I, m, md, E, B, M, ⟨x0, rn0, hI0, hF0⟩, hround⟩ := h
    have hc' : lB N c = true := hc
    refine aAH (fun n a' w' => ∃ x A' μ', I x ∧ m x = n ∧ Ok w0 X A0 N (fun j => j < (sL σ (qW c) md (E x) (B x) (M x)).next) (sL σ (qW c) md (E x) (B x) (M x)) a' w' A' μ' ∧ kO n0 (qW c) a w A μ a' w' A' μ') ?_ ?_
    · obtain ⟨μ', h1, h2⟩ := qY hok hok (kO.refl n0 (qW c) _ _ _ _) hF0
      exact ⟨m x0, x0, A, μ', hI0, rfl, h1, h2⟩
    · rintro n a1 w1 ⟨x, A1, μ1, hI, rfl, h1, h2⟩
      have hr := hround x hI
      rw [zX] at hr
      refine wp_mono (gG hT hG hP c hc' _ hJ _ _ a1 w1 A1 μ1 hr h1 (hX.mono h2.mu0)) (fun e a' w' ⟨g1, g2, σ', g3, A', μ', g4, g5⟩ => ?_)
      cases e with
      | normal =>
        obtain ⟨y, rn, hIy, hlt, hF⟩ := g3
        obtain ⟨μ2, k1, k2⟩ := qY hok g4 (h2.trans' g5) hF
        exact ⟨m y, hlt, y, A', μ2, hIy, rfl, k1, k2⟩
      | exit id => exact ⟨g1, g2, σ', g3, A', μ', g4, h2.trans' g5⟩
      | goto l => exact ⟨g1, g2, σ', g3, A', μ', g4, h2.trans' g5⟩
      | ret => exact ⟨g1, g2, σ', g3, A', μ', g4, h2.trans' g5⟩
      | panic c => exact absurd rfl (g1 c)
      | outgrown => exact absurd rfl g2
  | .rangeFunc .., _, J, hJ, Q, σ, a, w, A, μ, h, hok, hX => h.elim
  | .scope _, _, J, hJ, Q, σ, a, w, A, μ, h, hok, hX => h.elim
  | .label _, _, J, hJ, Q, σ, a, w, A, μ, h, hok, hX => h.elim
  | .goto _, _, J, hJ, Q, σ, a, w, A, μ, h, hok, hX => h.elim
  | .refuse _, _, J, hJ, Q, σ, a, w, A, μ, h, hok, hX => h.elim
end
end Go.Aw
