import Derived.Orders
import Derived.Below
import Derived.Laws.Append
import Derived.Laws.AppendOwn
import Derived.KernelRfl
import Derived.Great.FillDense
import Derived.Great.BuildSlice
import Derived.Laws.Tables
import Derived.RowKit
import Derived.Laws.StructEq
import Derived.Laws.Slices
import Derived.Laws.Strings2
import Derived.Laws.BytesString
import Derived.Laws.Cells
set_option linter.unusedVariables false
set_option linter.unusedSimpArgs false
set_option linter.unusedVariables false
namespace Go.Aw
inductive V where
  | und
  | int (k : IntKind) (n : Int)
  | bool (b : Bool)
  | str (s : ByteArray)
  | nil
  | sl (sz n : Nat) (xs : List (List V))
  | rp (cs : List V)
  | fn (f : FuncId)
  | agg (cs : List V)
  | tup (cs : List V)
  | own (i len : Nat)
  | bp (i off : Nat)
  | ep (i idx off : Nat)
  | cf (f : FuncId) (i : Nat)
  | dsl (i idx off n : Nat)
  | ip (i idx off s j o : Nat)
  | mp (i : Nat)
  | ifs (t : TypeId) (i len : Nat)
  deriving Inhabited
inductive Ob where
  | box (cs : List V)
  | arr (e : TypeId) (sz : Nat) (xs : List (List V))
  | deep (e : TypeId) (sz : Nat) (es : List TypeId) (xs : List (List V))
  | dirt (e : TypeId) (sz : Nat) (es : List TypeId) (xs : List (List V)) (idx : Nat) (row : List V)
  | tail (e : TypeId) (sz : Nat) (es : List TypeId) (xs : List (List V)) (k : Nat)
  | mp (es : List (ByteArray × Int))
structure St where
  env : Nat → V
  mem : Nat → Option Ob
  next : Nat
  ids : List Nat
structure Hd where
  k : Nat
  b : Option Nat
  len : Nat
  cap : Nat
structure Loc where
  b : Option Nat
  len : Nat
  cap : Nat
  sz : Nat
  fp : List Hd := []
def Loc.hd (l : Loc) (k : Nat) : Option Hd := l.fp.find? (fun h => Nat.beq h.k k)
def Loc.has (l : Loc) (b : Nat) : Prop := l.b = some b ∨ ∃ k h, l.hd k = some h ∧ h.b = some b
def Hd.val (h : Hd) : Value := .slice (h.b.map (⟨·, 0, none⟩)) h.len h.cap
theorem Loc.hd_has {l : Loc} {k b : Nat} {h : Hd} (hk : l.hd k = some h) (hb : h.b = some b) : l.has b := .inr ⟨k, h, hk, hb⟩
theorem gV {o : Option Nat} {n c s b : Nat} (h : Loc.has ⟨o, n, c, s, []⟩ b) : o = some b := by
  rcases h with h | ⟨_, _, h, _⟩
  · exact h
  · simp [Loc.hd] at h
inductive Rc (w : World) (A : Nat → Prop) : V → Value → Prop
  | und (v : Value) : Rc w A .und v
  | int (k : IntKind) (n : Int) : Rc w A (.int k n) (.int k n)
  | bool (b : Bool) : Rc w A (.bool b) (.bool b)
  | str (s : ByteArray) : Rc w A (.str s) (.string s)
  | nil : Rc w A .nil (.slice none 0 0)
  | fn (f : FuncId) : Rc w A (.fn f) (.func (.func f) #[] #[])
  | sl (sz n : Nat) (xs : List (List V)) (hn : xs.length = n) (a : Option Addr) (cap : Nat) (f : Nat → Value) (hc : xs.length ≤ cap) (hu : ∀ p ∈ xs, p.length = sz)
      (h0 : xs ≠ [] → ∃ ad, a = some ad ∧ A ad.block) (h1 : ∀ ad k u, a = some ad → xs.flatten[k]? = some u → w.cell? (ad.add k) = some (f k))
      (h2 : ∀ k u, xs.flatten[k]? = some u → Rc w A u (f k)) (h3 : ∀ k u, xs.flatten[k]? = some u → (f k).oneCell' = true) : Rc w A (.sl sz n xs) (.slice a n cap)
  | rp (cs : List V) (ad : Addr) (f : Nat → Value) (hA : A ad.block) (h1 : ∀ k u, cs[k]? = some u → w.cell? (ad.add k) = some (f k)) (h2 : ∀ k u, cs[k]? = some u → Rc w A u (f k)) :
      Rc w A (.rp cs) (.pointer (some ad))
inductive Rv (w : World) (A : Nat → Prop) (μ : Nat → Option Loc) : V → Value → Prop
  | c {x : V} {v : Value} (h : Rc w A x v) : Rv w A μ x v
  | agg (xs : List V) (cs : Array Value) (hl : cs.size = xs.length) (h : ∀ (i : Nat) (x : V) (c : Value), xs[i]? = some x → cs[i]? = some c → Rv w A μ x c) : Rv w A μ (.agg xs) (.agg cs)
  | tup (xs : List V) (cs : Array Value) (hl : cs.size = xs.length) (h : ∀ (i : Nat) (x : V) (c : Value), xs[i]? = some x → cs[i]? = some c → Rv w A μ x c) : Rv w A μ (.tup xs) (.tuple cs)
  | own (i : Nat) (l : Loc) (h : μ i = some l) : Rv w A μ (.own i l.len) (.slice (l.b.map (⟨·, 0, none⟩)) l.len l.cap)
  | bp (i off : Nat) (l : Loc) (b : Nat) (h : μ i = some l) (hb : l.b = some b) : Rv w A μ (.bp i off) (.pointer (some ⟨b, off, none⟩))
  | ep (i idx off : Nat) (l : Loc) (b : Nat) (h : μ i = some l) (hb : l.b = some b) : Rv w A μ (.ep i idx off) (.pointer (some ⟨b, idx * l.sz + off, none⟩))
  | cf (f : FuncId) (i : Nat) (l : Loc) (b : Nat) (h : μ i = some l) (hb : l.b = some b) : Rv w A μ (.cf f i) (.func (.func f) #[] #[.pointer (some ⟨b, 0, none⟩)])
  | dsl (i idx off : Nat) (l : Loc) (d : Hd) (h : μ i = some l) (hd : l.hd (idx * l.sz + off) = some d) : Rv w A μ (.dsl i idx off d.len) d.val
  | ip (i idx off s j o : Nat) (l : Loc) (d : Hd) (b : Nat) (h : μ i = some l) (hd : l.hd (idx * l.sz + off) = some d) (hb : d.b = some b) : Rv w A μ (.ip i idx off s j o) (.pointer (some ⟨b, j * s + o, none⟩))
  | mp (i : Nat) (l : Loc) (b : Nat) (h : μ i = some l) (hb : l.b = some b) : Rv w A μ (.mp i) (.map (some b))
  | ifs (t : TypeId) (i : Nat) (l : Loc) (h : μ i = some l) : Rv w A μ (.ifs t i l.len) (.iface t (.slice (l.b.map (⟨·, 0, none⟩)) l.len l.cap))
theorem kL (a : Addr) (k : Nat) : (a.add k).block = a.block := by unfold Addr.add; split <;> rfl
theorem Rc.mono {w w' : World} {A A' : Nat → Prop} (hA : ∀ b, A b → A' b) (hw : ∀ ad c, A ad.block → w.cell? ad = some c → w'.cell? ad = some c) {x : V} {v : Value} (h : Rc w A x v) : Rc w' A' x v := by
  induction h with
  | und v => exact .und v
  | int k n => exact .int k n
  | bool b => exact .bool b
  | str s => exact .str s
  | nil => exact .nil
  | fn f => exact .fn f
  | sl sz n xs hn a cap f hc hu h0 h1 h2 h3 ih =>
    refine .sl sz n xs hn a cap f hc hu (fun hn => (h0 hn).imp fun ad h => ⟨h.1, hA _ h.2⟩) (fun ad k u ha hk => ?_) ih h3
    refine hw _ _ ?_ (h1 ad k u ha hk)
    rw [kL]
    obtain ⟨ad', e, hb⟩ := h0 (by rintro rfl; simp at hk)
    rw [ha] at e; injection e with e; exact e ▸ hb
  | rp cs ad f hA' h1 h2 ih => exact .rp cs ad f (hA _ hA') (fun k u hk => hw _ _ (by rw [kL]; exact hA') (h1 k u hk)) ih
theorem Rv.mono {w w' : World} {A A' : Nat → Prop} {μ μ' : Nat → Option Loc} (hA : ∀ b, A b → A' b) (hw : ∀ ad c, A ad.block → w.cell? ad = some c → w'.cell? ad = some c) (hm : ∀ i l, μ i = some l → μ' i = some l)
    {x : V} {v : Value} (h : Rv w A μ x v) : Rv w' A' μ' x v := by
  induction h with
  | c h => exact .c (h.mono hA hw)
  | agg xs cs hl h ih => exact .agg xs cs hl ih
  | tup xs cs hl h ih => exact .tup xs cs hl ih
  | own i l h => exact .own i l (hm _ _ h)
  | bp i off l b h hb => exact .bp i off l b (hm _ _ h) hb
  | ep i idx off l b h hb => exact .ep i idx off l b (hm _ _ h) hb
  | cf f i l b h hb => exact .cf f i l b (hm _ _ h) hb
  | dsl i idx off l d h hd => exact .dsl i idx off l d (hm _ _ h) hd
  | ip i idx off s j o l d b h hd hb => exact .ip i idx off s j o l d b (hm _ _ h) hd hb
  | mp i l b h hb => exact .mp i l b (hm _ _ h) hb
  | ifs t i l h => exact .ifs t i l (hm _ _ h)
def V.bare : V → Bool
  | .int .. | .bool _ | .str _ | .nil | .fn _ => true
  | _ => false
def V.bareE (u : V) : Bool := u.bare || (match u with | .sl _ _ [] => true | _ => false)
def Row (w : World) (l : Loc) (e : TypeId) (sz : Nat) (xs : List (List V)) (R : Nat → V → Value → Prop) : Prop :=
  l.sz = sz ∧ l.len = xs.length ∧ (∀ p ∈ xs, p.length = sz) ∧ ∃ cs : List Value, w.ownsRow 0 e sz (.slice (l.b.map (⟨·, 0, none⟩)) l.len l.cap) l.len cs ∧ (∀ c ∈ cs, c.oneCell' = true) ∧ ∀ (k : Nat) (u : V) (c : Value), xs.flatten[k]? = some u → cs[k]? = some c → R k u c
def Dc (w : World) (l : Loc) (es : List TypeId) (sz k : Nat) (u : V) (c : Value) : Prop :=
  match u with
  | .sl s n ys => ∃ h, l.hd k = some h ∧ h.len = n ∧ c = h.val ∧ Row w ⟨h.b, h.len, h.cap, s, []⟩ (es.getD (k % sz) 0) s ys (fun _ => Rc w (fun _ => False))
  | u => u.bare = true ∧ Rc w (fun _ => False) u c
def Dr (w : World) (μ : Nat → Option Loc) (u : V) (c : Value) : Prop := (u.bare = true ∨ (∃ m n, u = .own m n) ∨ ∃ i x o n, u = .dsl i x o n) ∧ Rv w (fun _ => False) μ u c
def zW (l : Loc) : Prop := ∀ (k : Nat) (h : Hd) (b : Nat), l.hd k = some h → h.b = some b → l.b ≠ some b ∧ ∀ (k' : Nat) (h' : Hd), l.hd k' = some h' → h'.b = some b → k = k'
def gP (w : World) (A : Nat → Prop) (μ : Nat → Option Loc) (l : Loc) : Ob → Prop
  | .box cs => ∃ b arr el, l.b = some b ∧ w.heap[b]? = some (.cells arr el (0, 0)) ∧ arr.size = cs.length ∧ ∀ (i : Nat) (u : V) (c : Value), cs[i]? = some u → arr[i]? = some c → Rv w A μ u c
  | .arr e sz xs => l.sz = sz ∧ l.len = xs.length ∧ (∀ p ∈ xs, p.length = sz) ∧ ∃ cs : List Value, w.ownsRow 0 e sz (.slice (l.b.map (⟨·, 0, none⟩)) l.len l.cap) l.len cs ∧ (∀ c ∈ cs, c.oneCell' = true) ∧ ∀ (k : Nat) (u : V) (c : Value), xs.flatten[k]? = some u → cs[k]? = some c → Rc w A u c
  | .deep e sz es xs => zW l ∧ Row w l e sz xs (Dc w l es sz)
  | .tail e sz es xs k => zW l ∧ Row w l e sz xs (fun j u c => j / sz < k ∨ Dc w l es sz j u c)
  | .dirt e sz es xs idx row => zW l ∧ idx < xs.length ∧ Row w l e sz (xs.set idx row) (fun k u c => (k / sz ≠ idx ∧ Dc w l es sz k u c) ∨ (k / sz = idx ∧ Dr w μ u c))
  | .mp es => l.fp = [] ∧ ∃ b ms clock, l.b = some b ∧ w.heap[b]? = some (.map ms clock) ∧ ms.toList.map (fun x => (x.key, x.val)) = es.map (fun p => (Value.string p.1, Value.int .i64 p.2))
theorem Row.mono {w w' : World} {l : Loc} {e : TypeId} {sz : Nat} {xs : List (List V)} {R R' : Nat → V → Value → Prop} (hb : ∀ b, l.b = some b → w'.heap[b]? = w.heap[b]?) (hR : ∀ k u c, xs.flatten[k]? = some u → R k u c → R' k u c) (h : Row w l e sz xs R) : Row w' l e sz xs R' := by
  obtain ⟨h1, h2, h3, cs, ⟨ho1, ho2⟩, hone, h5⟩ := h
  refine ⟨h1, h2, h3, cs, ⟨ho1, ?_⟩, hone, fun k u c hk hc => hR k u c hk (h5 k u c hk hc)⟩
  rcases ho2 with ⟨e1, e2⟩ | ⟨g, cap, cur, e1, e2, e3, e4⟩
  · exact .inl ⟨e1, e2⟩
  · refine .inr ⟨g, cap, cur, e1, e2, ?_, e4⟩
    cases hl : l.b with
    | none => rw [hl] at e1; simp at e1
    | some b =>
      rw [hl] at e1; simp at e1
      rw [hb g (by rw [hl, e1.1])]; exact e3
theorem Rc.nomem {w w' : World} {A : Nat → Prop} {u : V} {c : Value} (h : Rc w (fun _ => False) u c) : Rc w' A u c := h.mono (fun _ h => h.elim) (fun _ _ h => h.elim)
theorem Dc.mono {w w' : World} {l : Loc} {es : List TypeId} {sz k : Nat} {u : V} {c : Value} (hb : ∀ (d : Hd) (b : Nat), l.hd k = some d → d.b = some b → w'.heap[b]? = w.heap[b]?) (h : Dc w l es sz k u c) : Dc w' l es sz k u c := by
  cases u with
  | sl s n ys =>
    obtain ⟨d, h1, h2, h3, h4⟩ := h
    exact ⟨d, h1, h2, h3, h4.mono (fun b hb' => hb d b h1 hb') (fun _ _ _ _ h => h.nomem)⟩
  | _ => exact ⟨h.1, h.2.nomem⟩
theorem Dr.mono {w w' : World} {μ μ' : Nat → Option Loc} (hm : ∀ i l, μ i = some l → μ' i = some l) {u : V} {c : Value} (h : Dr w μ u c) : Dr w' μ' u c :=
  ⟨h.1, h.2.mono (fun _ h => h) (fun _ _ h => h.elim) hm⟩
theorem gP.mono {w w' : World} {A A' : Nat → Prop} {μ μ' : Nat → Option Loc} (hA : ∀ b, A b → A' b) (hw : ∀ ad c, A ad.block → w.cell? ad = some c → w'.cell? ad = some c) (hm : ∀ i l, μ i = some l → μ' i = some l)
    {l : Loc} {ob : Ob} (hb : ∀ b, l.has b → w'.heap[b]? = w.heap[b]?) (h : gP w A μ l ob) : gP w' A' μ' l ob := by
  cases ob with
  | box cs =>
    obtain ⟨b, arr, el, h1, h2, h3, h4⟩ := h
    exact ⟨b, arr, el, h1, (hb b (.inl h1)).trans h2, h3, fun i u c hi hc => (h4 i u c hi hc).mono hA hw hm⟩
  | arr e sz xs => exact Row.mono (R := fun _ => Rc w A) (R' := fun _ => Rc w' A') (fun b h => hb b (.inl h)) (fun _ _ _ _ h => h.mono hA hw) h
  | deep e sz es xs => exact ⟨h.1, h.2.mono (fun b h => hb b (.inl h)) (fun _ _ _ _ h => h.mono (fun d b h1 h2 => hb b (Loc.hd_has h1 h2)))⟩
  | tail e sz es xs k => exact ⟨h.1, h.2.mono (fun b h => hb b (.inl h)) (fun _ _ _ _ h => h.imp id (fun h => h.mono (fun d b h1 h2 => hb b (Loc.hd_has h1 h2))))⟩
  | dirt e sz es xs idx row => exact ⟨h.1, h.2.1, h.2.2.mono (fun b h => hb b (.inl h)) (fun _ _ _ _ h => h.imp (fun h => ⟨h.1, h.2.mono (fun d b h1 h2 => hb b (Loc.hd_has h1 h2))⟩) (fun h => ⟨h.1, h.2.mono hm⟩))⟩
  | mp es =>
    obtain ⟨h0, b, ms, clock, h1, h2, h3⟩ := h
    exact ⟨h0, b, ms, clock, h1, (hb b (.inl h1)).trans h2, h3⟩
structure Ok (w0 : World) (X : Nat → Prop) (A0 : Nat → Prop) (N : Nat) (bd : Nat → Prop) (σ : St) (a : Act) (w : World) (A : Nat → Prop) (μ : Nat → Option Loc) : Prop where
  tm : a.tmps.size = N
  df : a.defers = []
  env : ∀ t, Rv w A μ (σ.env t) (a.tmps.getD t undef)
  os : w.os = w0.os
  tape : w.tape = w0.tape
  out : w.output = w0.output
  size : w0.heap.size ≤ w.heap.size
  old : ∀ b, b < w0.heap.size → ¬ X b → w.heap[b]? = w0.heap[b]?
  hA : ∀ b, A b → b < w.heap.size ∧ (A0 b ∨ w0.heap.size ≤ b)
  sub : ∀ b, A0 b → A b
  ob : ∀ i ob, σ.mem i = some ob → ∃ l, μ i = some l ∧ gP w A μ l ob ∧ ∀ b, l.has b → b < w.heap.size ∧ ¬ A b ∧ (X b ∨ w0.heap.size ≤ b)
  ap : ∀ i j li lj b, σ.mem i ≠ none → σ.mem j ≠ none → μ i = some li → μ j = some lj → li.has b → lj.has b → i = j
  bd : ∀ i, μ i ≠ none → bd i
end Go.Aw
set_option linter.unusedVariables false
namespace Go.Aw
structure TI where
  size : Nat
  bytes : Nat
  agg : Bool
  elem : TypeId
  alen : Nat
  flds : List (Nat × TypeId)
  zero : List V
  int : Option IntKind
  str : Bool
  sl : Bool
  bool : Bool
  plc : List (Nat × Nat)
  msk : List Nat
  eqk : List Nat
@[irreducible] def Br (b : Bool) (X Y : Prop) : Prop := (b = true → X) ∧ (b = false → Y)
@[irreducible] def Nd (c : Prop) (X : Prop) : Prop := c ∧ X
@[irreducible] def El (xs : List (List V)) (i : Nat) (K : List V → Prop) : Prop := ∃ p, xs[i]? = some p ∧ K p
def Br2 (b want : Bool) (X Y : Prop) : Prop := match want with | true => Br b X Y | false => Br b Y X
theorem Br.t {b : Bool} {X Y : Prop} (h : b = true) (x : X) : Br b X Y := by unfold Br; exact ⟨fun _ => x, fun h' => by rw [h] at h'; cases h'⟩
theorem Br.f {b : Bool} {X Y : Prop} (h : b = false) (y : Y) : Br b X Y := by unfold Br; exact ⟨fun h' => (by rw [h] at h'; cases h'), fun _ => y⟩
theorem Br.out {b : Bool} {X Y : Prop} (h : Br b X Y) : (b = true → X) ∧ (b = false → Y) := by unfold Br at h; exact h
theorem Nd.mk {c X : Prop} (h : c) (x : X) : Nd c X := by unfold Nd; exact ⟨h, x⟩
theorem Nd.out {c X : Prop} (h : Nd c X) : c ∧ X := by unfold Nd at h; exact h
theorem El.mk {xs : List (List V)} {i : Nat} {K : List V → Prop} {p : List V} (h : xs[i]? = some p) (k : K p) : El xs i K := by unfold El; exact ⟨p, h, k⟩
theorem El.out {xs : List (List V)} {i : Nat} {K : List V → Prop} (h : El xs i K) : ∃ p, xs[i]? = some p ∧ K p := by unfold El at h; exact h
def cv : Value → V
  | .int k n => .int k n
  | .bool b => .bool b
  | .string s => .str s
  | .slice none 0 0 => .nil
  | _ => .und
def St.ev (σ : St) : Operand → V
  | .tmp t => σ.env t
  | .const v => cv v
  | .global _ => .und
  | .func f => .fn f
def St.put (σ : St) (d : Option Tmp) (v : V) : St :=
  match d with
  | some d => { σ with env := fun t => match Nat.beq t d with | true => v | false => σ.env t }
  | none => σ
def V.cells : V → List V
  | .agg cs => cs
  | .und | .tup _ | .dsl .. => []
  | v => [v]
def mkv (agg : Bool) (cs : List V) : V := match agg with | true => .agg cs | false => cs.headD .und
def V.shut : V → Bool
  | .und | .own .. | .bp .. | .ep .. | .agg _ | .tup _ | .cf .. | .dsl .. | .ip .. | .mp _ | .ifs .. => false
  | _ => true
def V.shutA : V → Bool
  | .agg cs => cs.all V.shut
  | v => v.shut
def iI {α : Type} (cs : List α) (off : Nat) (vs : List α) : List α := cs.take off ++ vs ++ cs.drop (off + vs.length)
def aLY (m : Nat) (v : V) : V := match v, m with
  | .nil, n + 1 => .sl (n + 1) 0 []
  | v, _ => v
def nrm : List Nat → List V → List V
  | m :: ms, v :: vs => aLY m v :: nrm ms vs
  | _, vs => vs
def bt (s : ByteArray) (i : Int) : Int := if h : i.toNat < s.size then ((s[i.toNat]'h).toNat : Int) else 0
def wr (k : IntKind) (n : Int) : Int := match k with | .i64 => RowKit.wrap64 n | k => k.wrap n
def mx (a b : Int) : Int := if a < b then b else a
def mn (a b : Int) : Int := if b < a then b else a
def mxS (a b : ByteArray) : ByteArray := if Op.bytesLess a.toList b.toList = true then b else a
def mnS (a b : ByteArray) : ByteArray := if Op.bytesLess b.toList a.toList = true then b else a
def mxV (x y : V) (k : V → Prop) : Prop :=
  match x, y with
  | .int ka a, .int kb b => match decide (ka = kb) with | true => k (.int ka (mx a b)) | false => False
  | .str a, .str b => k (.str (mxS a b))
  | _, _ => False
def mnV (x y : V) (k : V → Prop) : Prop :=
  match x, y with
  | .int ka a, .int kb b => match decide (ka = kb) with | true => k (.int ka (mn a b)) | false => False
  | .str a, .str b => k (.str (mnS a b))
  | _, _ => False
def tE : List (List V) → Option (List UInt8)
  | [] => some []
  | [.int .u8 n] :: l => match tE l with | some bs => some (UInt8.ofNat n.toNat :: bs) | none => none
  | _ => none
def oA (ev : Operand → V) (lo hi : Option Operand) (sz n : Nat) (xs : List (List V)) (k : V → Prop) : Prop :=
  match lo, hi with
  | none, none => k (.sl sz n xs)
  | none, some h => match ev h with | .int _ h => Nd (0 ≤ h) (Nd (h ≤ n) (k (.sl sz h.toNat (xs.take h.toNat)))) | _ => False
  | some l, none => match ev l with | .int _ l => Nd (0 ≤ l) (Nd (l ≤ n) (k (.sl sz (n - l.toNat) (xs.drop l.toNat)))) | _ => False
  | some l, some h => match ev l, ev h with | .int _ l, .int _ h => Nd (0 ≤ l) (Nd (l ≤ h) (Nd (h ≤ n) (k (.sl sz (h.toNat - l.toNat) ((xs.take h.toNat).drop l.toNat))))) | _, _ => False
def nQ (ev : Operand → V) (lo hi : Option Operand) (s : ByteArray) (k : V → Prop) : Prop :=
  match lo, hi with
  | none, none => k (.str (s.extract 0 s.size))
  | none, some h => match ev h with | .int _ h => Nd (0 ≤ h) (Nd (h ≤ s.size) (k (.str (s.extract 0 h.toNat)))) | _ => False
  | some l, none => match ev l with | .int _ l => Nd (0 ≤ l) (Nd (l ≤ s.size) (k (.str (s.extract l.toNat s.size)))) | _ => False
  | some l, some h => match ev l, ev h with | .int _ l, .int _ h => Nd (0 ≤ l) (Nd (l ≤ h) (Nd (h ≤ s.size) (k (.str (s.extract l.toNat h.toNat))))) | _, _ => False
def rL (ev : Operand → V) (lo hi : Option Operand) (ti : TI) (oe : Option TI) (v : V) (k : V → Prop) : Prop :=
  match v with
  | .str s => match ti.str with | true => nQ ev lo hi s k | false => False
  | .sl sz n xs => match oe, ti.sl with
    | some ei, true => match Nat.beq sz ei.size with | true => oA ev lo hi sz n xs k | false => False
    | _, _ => False
  | _ => False
def aFA (op : BinOp) (a b : Int) (k : V → Prop) : Prop :=
  match op with
  | .eql => k (.bool (decide (a = b)))
  | .neq => k (.bool (!decide (a = b)))
  | .lss => k (.bool (decide (a < b)))
  | .leq => k (.bool (decide (a ≤ b)))
  | .gtr => k (.bool (decide (a > b)))
  | .geq => k (.bool (decide (a ≥ b)))
  | _ => False
def aBC (kd : IntKind) (a b : Int) : Int := kd.wrap ((BitVec.ofInt kd.bits a ^^^ BitVec.ofInt kd.bits b).toNat : Int)
def aBD (op : BinOp) (kd : IntKind) (a b : Int) (k : V → Prop) : Prop :=
  match op with
  | .add => k (.int kd (wr kd (a + b)))
  | .sub => k (.int kd (wr kd (a - b)))
  | .mul => k (.int kd (wr kd (a * b)))
  | .rem => Nd (b ≠ 0) (k (.int kd (a.tmod b)))
  | .quo => Nd (b ≠ 0) (k (.int kd (wr kd (a.tdiv b))))
  | .xor => k (.int kd (aBC kd a b))
  | op => aFA op a b k
def aEC (op : BinOp) (a b : ByteArray) (k : V → Prop) : Prop :=
  match op with
  | .add => Nd (((a.size + b.size : Nat) : Int) ≤ 9223372036854775807) (k (.str (a ++ b)))
  | .eql => k (.bool (decide (a.toList = b.toList)))
  | .neq => k (.bool (!decide (a.toList = b.toList)))
  | .lss => k (.bool (Op.bytesLess a.toList b.toList))
  | .geq => k (.bool (!Op.bytesLess a.toList b.toList))
  | .gtr => k (.bool (Op.bytesLess b.toList a.toList))
  | .leq => k (.bool (!Op.bytesLess b.toList a.toList))
  | _ => False
def aLN (n : Nat) (x y : V) : Option Bool :=
  match x, y, n with
  | .int k a, .int k' b, 1 => match decide (k = k') with | true => some (decide (a = b)) | false => none
  | .str a, .str b, 2 => some (decide (a.toList = b.toList))
  | .bool a, .bool b, 3 => some (a == b)
  | _, _, _ => none
def aEF : List Nat → List V → List V → Option Bool
  | [], [], [] => some true
  | n :: ns, a :: xs, b :: bs => match aLN n a b, aEF ns xs bs with | some p, some q => some (p && q) | _, _ => none
  | _, _, _ => none
def bin (isb : Bool) (eqk : List Nat) (op : BinOp) (x y : V) (k : V → Prop) : Prop :=
  match x, y with
  | .agg us, .agg vs => match eqk, op with
    | n :: ns, .eql => match aEF (n :: ns) us vs with | some b => k (.bool b) | none => False
    | n :: ns, .neq => match aEF (n :: ns) us vs with | some b => k (.bool (!b)) | none => False
    | _, _ => False
  | .int ka a, .int kb b => match decide (ka = kb) with | true => aBD op ka a b k | false => False
  | .str a, .str b => aEC op a b k
  | .bool a, .bool b => match op, isb with
    | .eql, true => k (.bool (a == b))
    | .neq, true => k (.bool (a != b))
    | _, _ => False
  | _, _ => False
def aGQ (i idx : Nat) : Nat → List V → Option (List V)
  | _, [] => some []
  | off, u :: l => match aGQ i idx (off + 1) l with
    | none => none
    | some r => match u with
      | .sl _ q _ => some (.dsl i idx off q :: r)
      | u => (match u.bare with | true => some (u :: r) | false => none)
def rdD (n : Nat) (agg : Bool) (i idx off : Nat) (p : List V) (k : V → Prop) : Prop :=
  match Nat.ble (off + n) p.length, aGQ i idx off ((p.drop off).take n) with
  | true, some cs => k (mkv agg cs)
  | _, _ => False
def rdI (s n : Nat) (agg : Bool) (j o : Nat) (c : Option V) (k : V → Prop) : Prop :=
  match c with
  | some (.sl s' _ ys) => match Nat.beq s s' with
    | true => El ys j fun q => match Nat.ble (o + n) q.length with | true => k (mkv agg ((q.drop o).take n)) | false => False
    | false => False
  | _ => False
def uM (s : Nat) (c : Option V) (k : Prop) : Prop :=
  match c with
  | some (.sl s' _ _) => (match Nat.beq s s' with | true => k | false => False)
  | _ => False
def rdP (ck : Nat → Bool) (m : Nat → Option Ob) (n : Nat) (agg : Bool) (p : V) (k : V → Prop) : Prop :=
  match p with
  | .bp i off => match ck i, m i with
    | true, some (.box cs) => match Nat.ble (off + n) cs.length with | true => k (mkv agg ((cs.drop off).take n)) | false => False
    | _, _ => False
  | .ep i idx off => match ck i, m i with
    | true, some (.arr e sz xs) => El xs idx fun p => match Nat.ble (off + n) p.length with | true => k (mkv agg ((p.drop off).take n)) | false => False
    | true, some (.deep e sz es xs) => El xs idx fun p => rdD n agg i idx off p k
    | true, some (.tail e sz es xs k0) => El xs idx fun p => Nd (k0 ≤ idx) (rdD n agg i idx off p k)
    | _, _ => False
  | .ip i idx off s j o => match ck i, m i with
    | true, some (.deep e sz es xs) => El xs idx fun p => rdI s n agg j o p[off]? k
    | true, some (.tail e sz es xs k0) => El xs idx fun p => Nd (k0 ≤ idx) (rdI s n agg j o p[off]? k)
    | _, _ => False
  | .rp cs => match Nat.ble n cs.length with | true => k (mkv agg (cs.take n)) | false => False
  | _ => False
variable (T : TypeId → Option TI) (ck : Nat → Bool)
def aMV (str sl : Bool) (v : V) : Option Nat :=
  match v, str, sl with
  | .str s, true, _ => some s.size
  | .sl sz n xs, _, true => some n
  | .nil, _, true => some 0
  | .own i len, _, true => some len
  | .dsl _ _ _ len, _, true => some len
  | _, _, _ => none
def pI (ev : Operand → V) (plc : List (Nat × Nat)) (cs : List V) : List (Nat × Operand) → Option (List V)
  | [] => some cs
  | (i, x) :: l => match plc[i]? with
    | some (off, sz) => match Nat.beq (ev x).cells.length sz, Nat.ble (off + sz) cs.length, Nat.ble 1 sz with
      | true, true, true => pI ev plc (iI cs off (ev x).cells) l
      | _, _, _ => none
    | none => none
def opv (ev : Operand → V) (m : Nat → Option Ob) (o : Op) (k : V → Prop) : Prop :=
  match o with
  | .move x => k (ev x)
  | .assign x => k (ev x)
  | .pick c a b => match ev c with | .bool t => Br t (k (ev a)) (k (ev b)) | _ => False
  | .nilCheck x => match ev x with | .bp i o => k (.bp i o) | .ep i j o => k (.ep i j o) | .rp cs => k (.rp cs) | .ip a b c d j o => k (.ip a b c d j o) | _ => False
  | .load t x => match T t with | some ti => rdP ck m ti.size ti.agg (ev x) k | none => False
  | .fieldAddr t x f => match T t with
    | some ti => match ti.flds[f]? with
      | some (off, _) => match ev x with
        | .bp i o => k (.bp i (o + off))
        | .ep i j o => k (.ep i j (o + off))
        | .rp cs => k (.rp (cs.drop off))
        | .ip a b c d j o => k (.ip a b c d j (o + off))
        | _ => False
      | none => False
    | none => False
  | .field t x f => match T t with
    | some ti => match ti.flds[f]? with
      | some (off, ft) => match T ft with
        | some fi => match ev x with
          | .agg cs => match Nat.ble (off + fi.size) cs.length with | true => k (mkv fi.agg ((cs.drop off).take fi.size)) | false => False
          | _ => False
        | none => False
      | none => False
    | none => False
  | .indexAddr t x ix => match T t with
    | some ti => match T ti.elem, ti.sl with
      | some ei, true => match ev ix with
        | .int _ n => match ev x with
          | .own i len => match ck i, m i with
            | true, some (.arr e sz xs) => match Nat.beq sz ei.size with
              | true => Nd (0 ≤ n) (Nd (n < len) (k (.ep i n.toNat 0)))
              | false => False
            | true, some (.deep e sz es xs) => match Nat.beq sz ei.size with
              | true => Nd (0 ≤ n) (Nd (n < len) (k (.ep i n.toNat 0)))
              | false => False
            | true, some (.tail e sz es xs k0) => match Nat.beq sz ei.size with
              | true => Nd (0 ≤ n) (Nd (n < len) (k (.ep i n.toNat 0)))
              | false => False
            | _, _ => False
          | .dsl i idx off len => match ck i, m i with
            | true, some (.deep e sz es xs) => El xs idx fun p => uM ei.size p[off]? (Nd (0 ≤ n) (Nd (n < len) (k (.ip i idx off ei.size n.toNat 0))))
            | true, some (.tail e sz es xs k0) => El xs idx fun p => Nd (k0 ≤ idx) (uM ei.size p[off]? (Nd (0 ≤ n) (Nd (n < len) (k (.ip i idx off ei.size n.toNat 0)))))
            | _, _ => False
          | .sl sz m xs => match Nat.beq sz ei.size with
            | true => Nd (0 ≤ n) (Nd (n < m) (El xs n.toNat fun p => k (.rp p)))
            | false => False
          | _ => False
        | _ => False
      | some ei, false => match ev ix with
        | .int _ (.ofNat n) => match Nat.blt n ti.alen with
          | true => match ev x with
            | .bp i o => k (.bp i (o + n * ei.size))
            | .ep i j o => k (.ep i j (o + n * ei.size))
            | .rp cs => k (.rp (cs.drop (n * ei.size)))
            | _ => False
          | false => False
        | _ => False
      | _, _ => False
    | none => False
  | .index t x ix => match T t with
    | some ti => match ti.str, ev ix, ev x with
      | true, .int _ n, .str s => Nd (0 ≤ n) (Nd (n < s.size) (k (.int .u8 (bt s n))))
      | _, _, _ => False
    | none => False
  | .build t parts => match T t with
    | some ti => match ti.agg, pI ev ti.plc ti.zero parts.toList with
      | true, some cs => k (.agg cs)
      | _, _ => False
    | none => False
  | .binOp op t x y _ => bin (match T t with | some ti => ti.bool | none => false) (match T t with | some ti => ti.eqk | none => []) op (ev x) (ev y) k
  | .unOp op _ x => match op, ev x with
    | .not, .bool b => k (.bool (!b))
    | .neg, .int kd n => k (.int kd (wr kd (0 - n)))
    | _, _ => False
  | .convert s d x => match T s, T d with
    | some _, some ti => match ti.int, ev x with
      | some kd, .int _ n => k (.int kd (wr kd n))
      | none, .str s => match ti.str with | true => k (.str s) | false => False
      | none, .own i len => match ti.str, T s with
        | true, some si => match si.sl, T si.elem, ck i, m i with
          | true, some ei, true, some (.arr e sz xs) => match ei.int, tE xs with
            | some .u8, some bs => match Nat.beq sz 1 with | true => k (.str ⟨bs.toArray⟩) | false => False
            | _, _ => False
          | _, _, _, _ => False
        | _, _ => False
      | _, _ => False
    | _, _ => False
  | .slice t x lo hi mx => match T t, mx with
    | some ti, none => rL ev lo hi ti (T ti.elem) (ev x) k
    | _, _ => False
  | .makeFunc fn first cap => match fn, first.toList, cap.toList with
    | .func f, [], [] => k (.fn f)
    | .func f, [], [x] => match ev x with | .bp i off => (match Nat.beq off 0 with | true => k (.cf f i) | false => False) | _ => False
    | _, _, _ => False
  | .makeInterface t x => match T t with
    | some ti => match ti.sl, ev x with
      | true, .own i len => k (.ifs t i len)
      | _, _ => False
    | none => False
  | .extract x i => match ev x with
    | .tup vs => (match vs[i]? with | some v => k v | none => False)
    | _ => False
  | .call c => match c.callee with
    | .builtin .len => match c.argTypes.toList, c.args.toList with
      | [t], [x] => match T t with
        | some ti => match aMV ti.str ti.sl (ev x) with | some n => k (.int .i64 n) | none => False
        | none => False
      | _, _ => False
    | .builtin .max => match c.args.toList with | [x, y] => mxV (ev x) (ev y) k | _ => False
    | .builtin .min => match c.args.toList with | [x, y] => mnV (ev x) (ev y) k | _ => False
    | _ => False
  | _ => False
end Go.Aw
set_option linter.unusedVariables false
namespace Go.Aw
def Eff := Nat → Option (Option Ob)
def Eff.no : Eff := fun _ => none
def Eff.set (i : Nat) (ob : Ob) : Eff := fun j => match Nat.beq j i with | true => some (some ob) | false => none
def Eff.app (i j : Nat) (ob : Ob) : Eff := fun n => match Nat.beq n j with | true => some (some ob) | false => match Nat.beq n i with | true => some none | false => none
def Eff.setL (i : Nat) : List Ob → Eff
  | [] => Eff.no
  | ob :: l => fun j => match Nat.beq j i with | true => some (some ob) | false => Eff.setL (i + 1) l j
def Eff.at (ids : List Nat) (obs : List Ob) : Eff :=
  match ids, obs with
  | i :: ids, ob :: obs => fun j => match Nat.beq j i with | true => some (some ob) | false => Eff.at ids obs j
  | _, _ => Eff.no
def St.eff (σ : St) (e : Eff) : St := { σ with mem := fun j => match e j with | some x => x | none => σ.mem j }
def V.ren1 (ρ : Nat → Nat) : V → V
  | .own i len => .own (ρ i) len
  | .bp i off => .bp (ρ i) off
  | .ep i j off => .ep (ρ i) j off
  | .cf f i => .cf f (ρ i)
  | .dsl i j off n => .dsl (ρ i) j off n
  | .ip i a b c j o => .ip (ρ i) a b c j o
  | .mp i => .mp (ρ i)
  | .ifs t i n => .ifs t (ρ i) n
  | v => v
def V.ren2 (ρ : Nat → Nat) : V → V
  | .agg cs => .agg (cs.map (V.ren1 ρ))
  | v => v.ren1 ρ
def V.ren (ρ : Nat → Nat) : V → V
  | .agg cs => .agg (cs.map (V.ren1 ρ))
  | .tup cs => .tup (cs.map (V.ren2 ρ))
  | v => v.ren1 ρ
def V.lf : V → Bool
  | .agg _ | .tup _ => false
  | _ => true
def V.flat2 : V → Bool
  | .agg cs => cs.all V.lf
  | v => v.lf
def V.flat : V → Bool
  | .agg cs => cs.all V.lf
  | .tup cs => cs.all V.flat2
  | v => v.lf
def V.refs1 (n : Nat) : V → Bool
  | .own i _ | .bp i _ | .ep i _ _ | .cf _ i | .dsl i _ _ _ | .ip i _ _ _ _ _ | .mp i | .ifs _ i _ => Nat.blt i n
  | _ => true
def V.refs (n : Nat) : V → Bool
  | .agg cs => cs.all (V.refs1 n)
  | v => v.refs1 n
def blk (μ : Nat → Option Loc) (n : Nat) (b : Nat) : Prop := ∃ m l, m < n ∧ μ m = some l ∧ l.has b
structure wJ (w : World) (A : Nat → Prop) (μ : Nat → Option Loc) (mi : List Ob) (B : Nat → Prop) : Prop where
  ob : ∀ (m : Nat) (ob : Ob), mi[m]? = some ob → ∃ l, μ m = some l ∧ gP w A μ l ob ∧ ∀ b, l.has b → b < w.heap.size ∧ ¬ A b ∧ B b
  ap : ∀ (i j : Nat) (li lj : Loc) (b : Nat), i < mi.length → j < mi.length → μ i = some li → μ j = some lj → li.has b → lj.has b → i = j
  bd : ∀ i, μ i ≠ none → i < mi.length
structure aMO (w : World) (A : Nat → Prop) (μ : Nat → Option Loc) (n : Nat) (mo : List Ob) (r : V) (v : Value) (w' : World) (A' : Nat → Prop) (μ' : Nat → Option Loc) : Prop where
  os : w'.os = w.os
  tape : w'.tape = w.tape
  out : w'.output = w.output
  size : w.heap.size ≤ w'.heap.size
  old : ∀ b, b < w.heap.size → ¬ blk μ n b → w'.heap[b]? = w.heap[b]?
  hA : ∀ b, A' b → b < w'.heap.size ∧ (A b ∨ w.heap.size ≤ b)
  sub : ∀ b, A b → A' b
  res : Rv w' A' μ' r v
  same : ∀ m, m < n → μ' m = μ m
  objs : wJ w' A' μ' mo (fun b => blk μ n b ∨ w.heap.size ≤ b)
def Gl (G : Nat → Option Obj) (w : World) (A : Nat → Prop) : Prop := ∀ g o, G g = some o → A g ∧ w.heap[g]? = some o
def GX (G : Nat → Option Obj) (w0 : World) (X A0 : Nat → Prop) : Prop := ∀ g o, G g = some o → A0 g ∧ g < w0.heap.size ∧ ¬ X g ∧ w0.heap[g]? = some o
theorem Gl.mono {G : Nat → Option Obj} {w : World} {A A' : Nat → Prop} (hA : ∀ b, A b → A' b) (h : Gl G w A) : Gl G w A' := fun g o hg => ⟨hA g (h g o hg).1, (h g o hg).2⟩
theorem Ok.gl {G : Nat → Option Obj} {w0 w : World} {X A0 A bd : Nat → Prop} {N : Nat} {σ : St} {a : Act} {μ : Nat → Option Loc} (h : Ok w0 X A0 N bd σ a w A μ) (hG : GX G w0 X A0) : Gl G w A := fun g o hg =>
  let ⟨h1, h2, h3, h4⟩ := hG g o hg
  ⟨h.sub g h1, (h.old g h2 h3).trans h4⟩
def Fok (P : Program) (f : FuncId) : Prop := ∃ fn, P.funcs[f]? = some fn ∧ (fn.name == "runtime.NumGoroutine") = false ∧ fn.body.isNone = false
def cI (P : Program) (G : Nat → Option Obj) (f : FuncId) (mi : List Ob) (Vs : List V) (mo : List Ob) (r : V) : Prop :=
  Fok P f ∧ ∀ (w : World) (A : Nat → Prop) (μ : Nat → Option Loc) (vs : Array Value), vs.size = Vs.length → (∀ (i : Nat) (x : V) (v : Value), Vs[i]? = some x → vs[i]? = some v → Rv w A μ x v) →
    (∀ b, A b → b < w.heap.size) → Gl G w A → wJ w A μ mi (fun _ => True) →
    Calls P f vs w fun e w' => ∃ v A' μ', e = .returned v ∧ aMO w A μ mi.length mo r v w' A' μ'
structure aGH (w : World) (A : Nat → Prop) (μ : Nat → Option Loc) (n kp : Nat) (mo : List Ob) (r : V) (v : Value) (w' : World) (A' : Nat → Prop) (μ' : Nat → Option Loc) : Prop where
  os : w'.os = w.os
  tape : w'.tape = w.tape
  out : w'.output = w.output
  size : w.heap.size ≤ w'.heap.size
  old : ∀ b, b < w.heap.size → ¬ blk μ n b → w'.heap[b]? = w.heap[b]?
  hA : ∀ b, A' b → b < w'.heap.size ∧ (A b ∨ w.heap.size ≤ b)
  sub : ∀ b, A b → A' b
  res : Rv w' A' μ' r v
  same : ∀ m, m < kp → μ' m = μ m
  objs : wJ w' A' μ' mo (fun b => blk μ n b ∨ w.heap.size ≤ b)
def lP (P : Program) (G : Nat → Option Obj) (f : FuncId) (kp : Nat) (mi : List Ob) (Vs : List V) (mo : List Ob) (r : V) : Prop :=
  Fok P f ∧ ∀ (w : World) (A : Nat → Prop) (μ : Nat → Option Loc) (vs : Array Value), vs.size = Vs.length → (∀ (i : Nat) (x : V) (v : Value), Vs[i]? = some x → vs[i]? = some v → Rv w A μ x v) →
    (∀ b, A b → b < w.heap.size) → Gl G w A → wJ w A μ mi (fun _ => True) →
    Calls P f vs w fun e w' => ∃ v A' μ', e = .returned v ∧ aGH w A μ mi.length kp mo r v w' A' μ'
def Ob.rn1 (ρ : Nat → Nat) : Ob → Ob
  | .box cs => .box (cs.map (V.ren1 ρ))
  | ob => ob
def Ob.rOk (n : Nat) : Ob → Bool
  | .arr .. => true
  | .deep .. => true
  | .box cs => cs.all (fun v => v.lf && v.refs1 n)
  | _ => false
def Eff.atK (kp id : Nat) (ids : List Nat) (mo : List Ob) : Eff := fun j => match Eff.at (ids.take kp) (mo.take kp) j with
  | some x => some x
  | none => match (ids.drop kp).any (Nat.beq j) with
    | true => some none
    | false => Eff.setL id (mo.drop kp) j
def uG (kp id : Nat) (ids : List Nat) (n : Nat) : Nat := match Nat.blt n kp with | true => ids.getD n 0 | false => id + (n - kp)
def Av (ck : Nat → Bool) (m : Nat → Option Ob) (u V : V) : Prop :=
  match u with
  | .own i len => match ck i, m i with
    | true, some (.arr e sz xs) => ∃ n, (n = len ∨ xs.length = n) ∧ V = .sl sz n xs
    | true, some (.deep e sz es xs) => ∃ n, (n = len ∨ xs.length = n) ∧ V = .sl sz n xs
    | _, _ => False
  | .nil => V = .nil ∨ ∃ sz, V = .sl sz 0 []
  | .dsl i idx off q => match ck i, m i with
    | true, some (.deep e sz es xs) => ∃ p s n ys, xs[idx]? = some p ∧ p[off]? = some (.sl s n ys) ∧ V = .sl s n ys
    | true, some (.tail e sz es xs k0) => ∃ p s n ys, xs[idx]? = some p ∧ p[off]? = some (.sl s n ys) ∧ V = .sl s n ys ∧ k0 ≤ idx
    | _, _ => V = .und
  | .bp .. | .ep .. | .agg _ | .tup _ | .cf .. | .ip .. | .mp _ | .ifs .. => V = .und
  | u => V = u
def AvL (ck : Nat → Bool) (m : Nat → Option Ob) : List V → List V → Prop
  | [], l => l = []
  | u :: us, l => ∃ x xs, l = x :: xs ∧ Av ck m u x ∧ AvL ck m us xs
def AvA (ck : Nat → Bool) (m : Nat → Option Ob) (u V : V) : Prop :=
  match u with
  | .agg us => ∃ xs, V = .agg xs ∧ AvL ck m us xs
  | u => Av ck m u V
def sD (ck : Nat → Bool) (m : Nat → Option Ob) : List V → List V → Prop
  | [], l => l = []
  | u :: us, l => ∃ x xs, l = x :: xs ∧ AvA ck m u x ∧ sD ck m us xs
def Ob.isA : Ob → Bool
  | .arr .. => true
  | .deep .. => true
  | .tail .. => true
  | .dirt .. => false
  | .mp _ => false
  | .box cs => cs.all V.shut
def V.bare1 : V → Bool
  | .own .. => true
  | v => v.bare
def V.bare2 : V → Bool
  | .agg cs => cs.all V.bare1
  | v => v.bare1
def aDC : V → Bool
  | .agg cs => cs.all V.bare1
  | .tup cs => cs.all V.bare2
  | v => v.bare1
def mF (ob : Ob) : Prop := match ob with
  | .arr e sz xs => ∀ p ∈ xs, ∀ u ∈ p, V.bareE u = true
  | .deep .. => True
  | _ => False
def V.clo1 : V → Bool
  | .und => true
  | v => v.shut
def V.clo2 : V → Bool
  | .agg cs => cs.all V.clo1
  | v => v.clo1
def V.clo : V → Bool
  | .agg cs => cs.all V.clo1
  | .tup cs => cs.all V.clo2
  | v => v.clo1
def V.leaf (u : V) : Bool := match u with | .und | .agg _ | .tup _ => false | _ => true
variable (P : Program) (G : Nat → Option Obj) (T : TypeId → Option TI)
def rows (ev : Operand → V) (sz : Nat) : Nat → List (Nat × Operand) → Option (List (List V))
  | _, [] => some []
  | n, (i, x) :: l => match Nat.beq i n, Nat.beq (ev x).cells.length sz, (ev x).cells.all V.shut, rows ev sz (n + 1) l with
    | true, true, true, some r => some ((ev x).cells :: r)
    | _, _, _, _ => none
def sE (ck : Nat → Bool) (m : Nat → Option Ob) (size : Nat) (x : V) (K : List (List V) → Nat → Prop) : Prop :=
  match x with
  | .nil => K [] 0
  | .sl sz n ys => match Nat.beq sz size with | true => K ys n | false => False
  | .own j len => match ck j, m j with
    | true, some (.arr e sz ys) => match Nat.beq sz size with | true => K ys len | false => False
    | _, _ => False
  | _ => False
def wC (ck : Nat → Bool) (id : Nat) (m : Nat → Option Ob) (te : TypeId) (ei : TI) (i len : Nat) (e : TypeId) (sz : Nat) (es : List TypeId) (xs : List (List V)) (x : V) (k : V → Eff → Prop) : Prop :=
  match x with
  | .own j n => match ck j, m j with
    | true, some (.dirt e2 sz2 es2 [p0] 0 row) => match Nat.beq e te, Nat.beq sz ei.size, Nat.beq sz2 ei.size with
      | true, true, true => Nd ((len + 1) * ei.bytes ≤ 140737488355328) (k (.own id (len + 1)) (Eff.app i id (.dirt e sz es (xs ++ [[]]) xs.length row)))
      | _, _, _ => False
    | _, _ => False
  | _ => False
def uT (ck : Nat → Bool) (id : Nat) (ev : Operand → V) (m : Nat → Option Ob) (t : TypeId) (s x : Operand) (k : V → Eff → Prop) : Prop :=
  match T t with
  | none => False
  | some ti => match T ti.elem, ti.sl with
    | some ei, true => match ev s with
      | .nil => sE ck m ei.size (ev x) fun ys n => Nd (n * ei.bytes ≤ 140737488355328) (k (.own id n) (Eff.set id (.arr ti.elem ei.size ys)))
      | .own i len => match ck i, m i with
        | true, some (.arr e sz xs) => match Nat.beq e ti.elem, Nat.beq sz ei.size with
          | true, true => sE ck m ei.size (ev x) fun ys n => Nd ((len + n) * ei.bytes ≤ 140737488355328) (k (.own id (len + n)) (Eff.app i id (.arr e sz (xs ++ ys))))
          | _, _ => False
        | true, some (.deep e sz es xs) => wC ck id m ti.elem ei i len e sz es xs (ev x) k
        | _, _ => False
      | _ => False
    | _, _ => False
def V.inn (i idx off : Nat) : V → V
  | .own 0 n => .dsl i idx off n
  | v => v
def V.inOk : V → Bool
  | .own 0 _ => true
  | v => v.shut
def jW (ck : Nat → Bool) (id : Nat) (us : List V) (m : Nat → Option Ob) (f : FuncId) (k : V → Eff → Prop) : Prop :=
  (∃ Vs mo r, cI P G f [] Vs mo r ∧ sD ck m us Vs ∧ ((us.all V.shutA = true) ∨ (aDC r = true ∧ ∀ ob ∈ mo, mF ob)) ∧ r.flat = true ∧ (mo.all Ob.isA = true) ∧ mo.length ≤ 8 ∧ k (r.ren (id + ·)) (Eff.setL id mo)) ∨
  (∃ (ids : List Nat) (Vs : List V) (mi mo : List Ob) (r : V), cI P G f mi Vs mo r ∧ ids.length = mi.length ∧ mo.length = mi.length ∧ ids.Nodup ∧ ids.all ck = true ∧ ck 1000000007 = true ∧ (∀ (n i : Nat), ids[n]? = some i → m i = mi[n]?) ∧
    ((mi ++ mo).all Ob.isA = true) ∧ us = Vs.map (V.ren fun n => ids.getD n 0) ∧ (Vs.all (fun v => v.flat2 && v.refs ids.length) = true) ∧ V.clo r = true ∧ k r (Eff.at ids mo)) ∨
  (∃ (i idx off n n' : Nat) (Vs : List V) (e e' : TypeId) (sz s : Nat) (es : List TypeId) (xs : List (List V)) (p : List V) (ys ys' : List (List V)) (r : V), cI P G f [.arr e' s ys] Vs [.arr e' s ys'] r ∧ ck i = true ∧ ck 1000000007 = true ∧ m i = some (.deep e sz es xs) ∧
    xs[idx]? = some p ∧ p[off]? = some (.sl s n ys) ∧ es.getD off 0 = e' ∧ us = Vs.map (V.inn i idx off) ∧ (Vs.all V.inOk = true) ∧ ys'.length = n' ∧ mF (.arr e' s ys') ∧ V.clo r = true ∧ k r (Eff.set i (.deep e sz es (xs.set idx (p.set off (.sl s n' ys')))))) ∨
  (∃ (ids : List Nat) (Vs : List V) (mi mo : List Ob) (r : V), cI P G f mi Vs mo r ∧ ids.length = mo.length ∧ mi.length ≤ mo.length ∧ ids.Nodup ∧ ck 1000000007 = true ∧ (∀ (n i : Nat), ids[n]? = some i → (n < mi.length ∧ ck i = true ∧ m i = mi[n]?) ∨ (mi.length ≤ n ∧ n < mi.length + 8 ∧ i = id + (n - mi.length))) ∧
    ((mi ++ mo).all Ob.isA = true) ∧ us = Vs.map (V.ren fun n => ids.getD n 0) ∧ (Vs.all (fun v => v.flat2 && v.refs mi.length) = true) ∧ r.flat = true ∧ k (r.ren fun n => ids.getD n 0) (Eff.at ids mo)) ∨
  (∃ (kp : Nat) (ids : List Nat) (Vs : List V) (mi mo : List Ob) (r : V), lP P G f kp mi Vs mo r ∧ ids.length = mi.length ∧ kp ≤ mi.length ∧ kp ≤ mo.length ∧ mo.length ≤ kp + 8 ∧ ids.Nodup ∧ ids.all ck = true ∧ ck 1000000007 = true ∧
    (∀ (n i : Nat), ids[n]? = some i → m i = (mi[n]?).map (Ob.rn1 fun n => ids.getD n 0)) ∧ (mi.all (Ob.rOk mi.length) && mo.all (Ob.rOk mo.length)) = true ∧
    us = Vs.map (V.ren fun n => ids.getD n 0) ∧ (Vs.all (fun v => v.flat2 && v.refs mi.length) = true) ∧ V.clo r = true ∧ k r (Eff.atK kp id ids (mo.map (Ob.rn1 (uG kp id ids)))))
def aHU (P : Program) (t : TypeId) : Prop := ∃ key e, P.underlying t = some (.map key e) ∧ P.underlying key = some .string ∧ ∀ w, (zeroValue e).run P w = .ok (.int .i64 0) w
def mpH (es : List (ByteArray × Int)) (s : ByteArray) : Bool := es.any fun p => s == p.1
def mpG : List (ByteArray × Int) → ByteArray → Int
  | [], _ => 0
  | p :: es, s => if (s == p.1) = true then p.2 else mpG es s
def dpM : List Nat → Bool
  | [] => false
  | 0 :: l => dpM l
  | (_ + 1) :: _ => true
def V.rowOk : V → Bool
  | .own .. | .dsl .. => true
  | v => v.bare
def stD (i idx off size : Nat) (e : TypeId) (sz : Nat) (es : List TypeId) (xs : List (List V)) (p cs : List V) (k : V → Eff → Prop) : Prop :=
  match cs.all V.bare with
  | true => (match Nat.ble (off + size) p.length with | true => k (.tup []) (Eff.set i (.deep e sz es (xs.set idx (iI p off cs)))) | false => False)
  | false => match Nat.beq off 0, Nat.beq size sz, cs.all V.rowOk with
    | true, true, true => k (.tup []) (Eff.set i (.dirt e sz es xs idx cs))
    | _, _, _ => False
def stI (i idx off s j o size : Nat) (e : TypeId) (sz : Nat) (es : List TypeId) (xs : List (List V)) (p : List V) (c : Option V) (cs : List V) (k : V → Eff → Prop) : Prop :=
  match c with
  | some (.sl s' n ys) => match Nat.beq s s' with
    | true => El ys j fun q => match Nat.ble (o + size) q.length with | true => ∃ (n' : Nat) (ys' : List (List V)), n' = n ∧ ys' = ys.set j (iI q o cs) ∧ k (.tup []) (Eff.set i (.deep e sz es (xs.set idx (p.set off (.sl s' n' ys'))))) | false => False
    | false => False
  | _ => False
def bsD (ev : Operand → V) (id : Nat) (ti ei : TI) (len : Nat) (parts : List (Nat × Operand)) (k : V → Eff → Prop) : Prop :=
  match parts with
  | [(j, x)] => match Nat.beq j 0 && Nat.beq len 1 && ti.sl && Nat.ble ei.size 1000 && Nat.beq (ev x).cells.length ei.size && (ev x).cells.all V.rowOk with
    | true => ∃ es, k (.own id 1) (Eff.set id (.dirt ti.elem ei.size es [[]] 0 (ev x).cells))
    | false => False
  | _ => False
def lG (ck : Nat → Bool) (id : Nat) (o : Op) (ev : Operand → V) (m : Nat → Option Ob) (k : V → Eff → Prop) : Prop :=
  match o with
  | .box t x => match T t with
    | some ti => match Nat.beq (ev x).cells.length ti.size with | true => k (.bp id 0) (Eff.set id (.box (ev x).cells)) | false => False
    | none => False
  | .alloc t => match T t with
    | some ti => k (.bp id 0) (Eff.set id (.box ti.zero))
    | none => False
  | .buildSlice t len parts => match T t with
    | some ti => match T ti.elem with
      | some ei => match rows ev ei.size 0 parts.toList with
        | some xs => match Nat.beq xs.length len, Nat.ble (len * ei.size) 1000 && ti.sl with | true, true => k (.own id len) (Eff.set id (.arr ti.elem ei.size (xs.map (nrm ei.msk)))) ∨ k (.sl ei.size len xs) Eff.no ∨ (xs = [] ∧ ∃ es, k (.own id len) (Eff.set id (.deep ti.elem ei.size es []))) | _, _ => False
        | none => bsD ev id ti ei len parts.toList k
      | none => False
    | none => False
  | .makeSlice t lo co => match T t with
    | some ti => match T ti.elem, ti.sl with
      | some ei, true => match ev lo, ev co with
        | .int .i64 l, .int .i64 c => match ei.zero.all V.bare with
          | true => match dpM ei.msk with
            | false => Nd (0 ≤ l) (Nd (l ≤ c) (Nd (c * (ei.bytes : Int) ≤ 140737488355328) (k (.own id l.toNat) (Eff.set id (.arr ti.elem ei.size (List.replicate l.toNat (nrm ei.msk ei.zero)))))))
            | true => Nd (0 ≤ l) (Nd (l ≤ c) (Nd (c * (ei.bytes : Int) ≤ 140737488355328) ((k (.own id l.toNat) (Eff.set id (.arr ti.elem ei.size (List.replicate l.toNat (nrm ei.msk ei.zero)))) ∨ ∃ es, k (.own id l.toNat) (Eff.set id (.deep ti.elem ei.size es (List.replicate l.toNat (nrm ei.msk ei.zero))))))))
          | false => False
        | _, _ => False
      | _, _ => False
    | none => False
  | .store t a x => match T t with
    | some ti => match Nat.beq (ev x).cells.length ti.size with
      | true => match ev a with
        | .bp i off => match ck i, m i, (ev x).cells.all V.leaf with
          | true, some (.box cs), true => match Nat.ble (off + ti.size) cs.length with | true => k (.tup []) (Eff.set i (.box (iI cs off (ev x).cells))) | false => False
          | _, _, _ => False
        | .ep i idx off => match ck i, m i, (ev x).cells.all V.shut with
          | true, some (.arr e sz xs), true => El xs idx fun p => match Nat.ble (off + ti.size) p.length with | true => k (.tup []) (Eff.set i (.arr e sz (xs.set idx (iI p off (nrm (match T e with | some ei => ei.msk.drop off | none => []) (ev x).cells))))) | false => False
          | true, some (.deep e sz es xs), _ => El xs idx fun p => stD i idx off ti.size e sz es xs p (ev x).cells k
          | _, _, _ => False
        | .ip i idx off s j o => match ck i, m i, (ev x).cells.all V.bare with
          | true, some (.deep e sz es xs), true => El xs idx fun p => stI i idx off s j o ti.size e sz es xs p p[off]? (ev x).cells k
          | _, _, _ => False
        | _ => False
      | false => False
    | none => False
  | .makeMap t r => match r with
    | none => k (.mp id) (Eff.set id (.mp []))
    | some _ => False
  | .insert t x y z => match ev x, ev y, ev z with
    | .mp i, .str s, .int .i64 n => match ck i, m i with
      | true, some (.mp es) => aHU P t ∧ mpH es s = false ∧ k (.tup []) (Eff.set i (.mp (es ++ [(s, n)])))
      | _, _ => False
    | _, _, _ => False
  | .lookup t x y c => match ev x, ev y, c with
    | .mp i, .str s, true => match ck i, m i with
      | true, some (.mp es) => aHU P t ∧ k (.tup [.int .i64 (mpG es s), .bool (mpH es s)]) Eff.no
      | _, _ => False
    | _, _, _ => False
  | .call c => match c.callee with
    | .value (.func f) => jW P G ck id (c.args.toList.map ev) m f k
    | .value (.tmp t) => match ev (.tmp t) with | .fn f => jW P G ck id (c.args.toList.map ev) m f k | .cf f i => jW P G ck id (c.args.toList.map ev ++ [.bp i 0]) m f k | _ => False
    | .builtin .append => match c.argTypes.toList, c.args.toList with
      | [t, u], [s, x] => match Nat.beq t u with | true => uT T ck id ev m t s x k | false => False
      | _, _ => False
    | _ => opv T ck ev m o fun v => k v Eff.no
  | o => opv T ck ev m o fun v => k v Eff.no
def sid (base i : Nat) : Nat := base + 8 * i
def frc (v : V) (k : V → Prop) : Prop :=
  match v with
  | .und => k .und | .int a b => k (.int a b) | .bool b => k (.bool b) | .str s => k (.str s) | .nil => k .nil | .sl a b c => k (.sl a b c) | .rp a => k (.rp a) | .fn f => k (.fn f)
  | .agg a => k (.agg a) | .tup a => k (.tup a) | .own a b => k (.own a b) | .bp a b => k (.bp a b) | .ep a b c => k (.ep a b c) | .cf a b => k (.cf a b) | .dsl a b c d => k (.dsl a b c d) | .ip a b c d e f => k (.ip a b c d e f) | .mp a => k (.mp a) | .ifs a b c => k (.ifs a b c)
def yD (ck : Nat → Bool) (base i : Nat) (ops : Array Oper) (o : Oper) (K : St → Prop) (σ : St) : Prop :=
  match o.guard with
  | none => lG P G T ck (sid base i) o.op σ.ev σ.mem fun v e => frc v fun v => K ((σ.put o.dst v).eff e)
  | some (j, want) => match (ops[j]?).bind (·.dst) with
    | none => False
    | some t => match σ.env t with
      | .bool b => Br2 b want (lG P G T ck (sid base i) o.op σ.ev σ.mem fun v e => frc v fun v => K ((σ.put o.dst v).eff e)) (K (σ.put o.dst (.tup [])))
      | .tup [] => K (σ.put o.dst (.tup []))
      | _ => False
def rgo (ck : Nat → Nat → Bool) (base : Nat) (ops : Array Oper) : Nat → List Oper → (St → Prop) → St → Prop
  | _, [], K, σ => K σ
  | i, o :: os, K, σ => yD P G T (ck i) base i ops o (rgo ck base ops (i + 1) os K) σ
def bits (acc : List Nat) (o : Oper) : Nat := o.after.toList.foldl (fun s e => match Region.binds .any e with | true => s ||| 2 ^ e.on ||| acc.getD e.on 0 | false => s) 0
def eU : List Oper → List Nat → List Nat
  | [], acc => acc
  | o :: os, acc => eU os (acc ++ [bits acc o])
def dV : Op → Bool
  | .load .. | .indexAddr .. | .store .. | .convert .. | .insert .. | .lookup .. => false
  | .call c => match c.callee with | .builtin .len => true | .builtin .max => true | .builtin .min => true | _ => false
  | _ => true
def jT (b : List Nat) (i : Nat) : Nat → List Bool → Bool
  | _, [] => true
  | k, f :: l => match f || Nat.beq k i || (b.getD i 0).testBit k || (b.getD k 0).testBit i with | true => jT b i (k + 1) l | false => false
def ckD (b : List Nat) (fr : List Bool) (base i j : Nat) : Bool :=
  match Nat.beq j 1000000007 with
  | true => match Nat.ble (base + 8 * fr.length) 1000000007 with | true => jT b i 0 fr | false => false
  | false => match Nat.blt j base with | true => true | false => (b.getD i 0).testBit ((j - base) / 8)
def V.nd1 : V → Bool
  | .dsl .. | .ip .. | .agg _ | .tup _ => false
  | _ => true
def V.nd2 : V → Bool
  | .agg cs => cs.all V.nd1
  | v => v.nd1
def V.nod : V → Bool
  | .agg cs => cs.all V.nd1
  | .tup cs => cs.all V.nd2
  | v => v.nd1
def Ob.nod : Ob → Bool
  | .box cs => cs.all V.nd1
  | .dirt .. => false
  | .mp _ => false
  | _ => true
def Ob.isT : Ob → Bool
  | .tail .. => true
  | _ => false
def kd (v : V) : V := match v.nod with | true => v | false => .und
def fB (l : List Nat) (t : Nat) : Bool := match l with | [] => false | k :: l => match Nat.beq k t with | true => true | false => fB l t
def gQ : Op → Bool
  | .call c => match c.callee with | .value _ => true | _ => false
  | _ => false
def ckW (b : List Nat) (nc : List Bool) (W : List Nat) (base i j : Nat) : Bool :=
  match Nat.beq j 1000000007 with
  | true => match nc.getD i true, Nat.ble (base + 8 * nc.length) 1000000007 with | false, true => jT b i 0 nc | _, _ => false
  | false => match nc.getD i true with
    | false => match Nat.blt j base with | true => fB W j | false => false
    | true => match Nat.blt j base with | true => !fB W j | false => (b.getD i 0).testBit ((j - base) / 8)
def sC : Op → Bool
  | .store .. => true
  | .insert .. => true
  | .call c => match c.callee with | .builtin .append => true | _ => false
  | _ => false
def lZ (x y : Op) : Bool := dV x || dV y || (!sC x && !sC y)
def iR : Op → Bool
  | .call c => match c.callee with | .builtin .append => true | _ => false
  | _ => false
def aBE (b : List Nat) (i q : Nat) : Nat → List Bool → Bool
  | _, [] => true
  | k, f :: l => match !f || Nat.beq k i || (b.getD i 0).testBit k || (b.getD k 0).testBit i || !(b.getD k 0).testBit q with | true => aBE b i q (k + 1) l | false => false
def ckL (b : List Nat) (fr ap : List Bool) (W : List Nat) (base i j : Nat) : Bool :=
  match Nat.beq j 1000000007 with
  | true => false
  | false => match ap.getD i false with
    | true => match Nat.blt j base with
      | true => (match fB W j with | true => jT b i 0 (ap.map fun x => !x) | false => jT b i 0 fr)
      | false => match (b.getD i 0).testBit ((j - base) / 8) with | true => aBE b i ((j - base) / 8) 0 ap | false => false
    | false => match Nat.blt j base with
      | true => !fB W j
      | false => match (b.getD i 0).testBit ((j - base) / 8) with | true => aBE b i ((j - base) / 8) 0 ap | false => false
def rM (ops : Array Oper) : Bool :=
  let b := eU ops.toList []
  (List.range ops.size).all fun i => match ops[i]? with
    | none => true
    | some y => (List.range i).all fun k => (b.getD i 0).testBit k || (match ops[k]? with
      | none => true
      | some x => lZ x.op y.op)
def oI (ops : Array Oper) : Bool := match ops.toList.any fun o => iR o.op with | true => !rM ops | false => false
def stV : Op → Bool
  | .store .. => true
  | .insert .. => true
  | _ => false
def ckS (b : List Nat) (ns : List Bool) (W : List Nat) (base i j : Nat) : Bool :=
  match Nat.beq j 1000000007 with
  | true => false
  | false => match ns.getD i true with
    | false => match Nat.blt j base with | true => (match fB W j with | true => jT b i 0 ns | false => false) | false => false
    | true => match Nat.blt j base with | true => !fB W j | false => (b.getD i 0).testBit ((j - base) / 8)
def aGR (ops : Array Oper) : Bool := match ops.toList.any fun o => stV o.op with
  | true => (match ops.toList.any fun o => iR o.op with | true => false | false => !rM ops)
  | false => false
def aEY (ops : Array Oper) (base : Nat) (W : List Nat) : Bool → Nat → Nat → Bool
  | true => match W with
    | [] => ckD (eU ops.toList []) (ops.toList.map fun o => dV o.op) base
    | w :: W => match Nat.beq w 1000000009 with
      | true => ckL (eU ops.toList []) (ops.toList.map fun o => dV o.op) (ops.toList.map fun o => iR o.op) W base
      | false => match Nat.beq w 1000000011 with
        | true => ckS (eU ops.toList []) (ops.toList.map fun o => !stV o.op) W base
        | false => ckW (eU ops.toList []) (ops.toList.map fun o => !gQ o.op) (w :: W) base
  | false => fun _ _ => true
def aLI (env : Nat → V) (x : Operand) (r : List Nat) : List Nat := match x with | .tmp t => (match env t with | .bp i _ => i :: r | _ => r) | _ => r
def aKN (env : Nat → V) : List Operand → List Nat → List Nat
  | [], r => r
  | x :: l, r => aLI env x (aKN env l r)
def aHR (env : Nat → V) : List Oper → List Nat
  | [] => []
  | o :: l => match o.op with
    | .move x => aLI env x (aHR env l)
    | .call c => (match c.callee with | .value _ => aKN env c.args.toList (aHR env l) | _ => aHR env l)
    | _ => aHR env l
def aMA (env : Nat → V) : List Oper → List Nat
  | [] => []
  | o :: l => match o.op with
    | .store _ x _ => aLI env x (aMA env l)
    | _ => aMA env l
def wM (b : List Nat) (fr : List Bool) : Nat → List Bool → Bool
  | _, [] => true
  | i, true :: l => wM b fr (i + 1) l
  | i, false :: l => match jT b i 0 fr with | true => wM b fr (i + 1) l | false => false
def wOf (ops : Array Oper) (env : Nat → V) : Bool → List Nat
  | false => []
  | true => match oI ops with
    | true => [1000000009]
    | false => match aGR ops with
      | true => 1000000011 :: aMA env ops.toList
      | false => match wM (eU ops.toList []) (ops.toList.map fun o => dV o.op) 0 (ops.toList.map fun o => !gQ o.op) with | true => [] | false => aHR env ops.toList
def lsK : List Nat → (List Nat → Prop) → Prop
  | [], k => k []
  | a :: l, k => lsK l fun r => k (a :: r)
theorem aGM : ∀ (l : List Nat) (k : List Nat → Prop), lsK l k = k l
  | [], _ => rfl
  | a :: l, k => aGM l _
def aBB (m : Nat → Option Ob) (base : Nat) : Nat → List Nat
  | 0 => []
  | n + 1 => match m (base + 8 * n), m (base + 8 * n + 1) with
    | none, none => aBB m base n
    | some _, none => (base + 8 * n) :: aBB m base n
    | none, some _ => (base + 8 * n + 1) :: aBB m base n
    | some _, some _ => match m (base + 8 * n + 2), m (base + 8 * n + 3) with
      | none, none => (base + 8 * n) :: (base + 8 * n + 1) :: aBB m base n
      | some _, none => (base + 8 * n) :: (base + 8 * n + 1) :: (base + 8 * n + 2) :: aBB m base n
      | _, _ => (base + 8 * n) :: (base + 8 * n + 1) :: (base + 8 * n + 2) :: (base + 8 * n + 3) :: aBB m base n
def St.done (σ : St) (base n : Nat) : St := { σ with next := base + 8 * n, ids := aBB σ.mem base n ++ σ.ids }
def qW : Code → List Tmp
  | .region _ ops _ => ops.toList.filterMap (·.dst)
  | .seq a b => qW a ++ qW b
  | .cond _ a b => qW a ++ qW b
  | .block _ c => qW c
  | .loop c => qW c
  | .scope c => qW c
  | _ => []
def lk {α : Type} : List (Nat × α) → Nat → Option α
  | [], _ => none
  | (k, x) :: l, i => match Nat.beq k i with | true => some x | false => lk l i
def Mt (rn : List (Option Nat)) (u v : V) : Prop :=
  match v with
  | .own j len => match rn[j]? with
    | some (some i) => u = .own i len
    | some none => u = .nil ∧ len = 0
    | none => False
  | v => (u = v ∧ v.shutA = true) ∨ (u = .nil ∧ ∃ sz, v = .sl sz 0 [])
def MtL (rn : List (Option Nat)) : List V → List V → Prop
  | [], [] => True
  | u :: us, v :: vs => Mt rn u v ∧ MtL rn us vs
  | _, _ => False
def aKZ (rn : List (Option Nat)) (o : Option Ob) : Ob → Prop
  | .box cs => ∃ us, o = some (.box us) ∧ MtL rn us cs
  | .arr e sz xs => o = some (.arr e sz xs)
  | .deep e sz es xs => o = some (.deep e sz es xs)
  | .tail e sz es xs k => o = some (.tail e sz es xs k)
  | .dirt .. => False
  | .mp _ => False
def aLO (n : Nat) (k : Nat → Prop) : Prop := match n with | 0 => k 0 | n + 1 => k (n + 1)
theorem aCC (n : Nat) (k : Nat → Prop) : aLO n k = k n := by cases n <;> rfl
def aEQ : Nat → (Nat → Prop) → Prop
  | 0, k => k 0
  | n + 1, k => aEQ n (fun m => k (m + 1))
theorem sS : ∀ (n : Nat) (k : Nat → Prop), aEQ n k = k n
  | 0, _ => rfl
  | n + 1, k => sS n _
def aAV (nx mx : Nat) (σ : St) (hv : List Tmp) (md : List Nat) (E : List (Nat × V)) (B : List (Nat × Ob)) (M : List Ob) : St :=
  { env := fun t => match lk E t with | some v => v.ren1 (nx + ·) | none => match fB hv t with | true => .und | false => kd (σ.env t)
    mem := fun i => match Nat.blt i nx with
      | true => (match lk B i with
        | some ob => some (ob.rn1 (nx + ·))
        | none => match fB md i with | true => none | false => match fB σ.ids i with | true => σ.mem i | false => none)
      | false => M[i - nx]?
    next := nx + mx
    ids := σ.ids.filter (fun i => !fB md i) ++ B.map (·.1) ++ (List.range M.length).map (nx + ·) }
def sL (σ : St) (hv : List Tmp) (md : List Nat) (E : List (Nat × V)) (B : List (Nat × Ob)) (M : List Ob) : St := aAV σ.next M.length σ hv md E B M
def dL (σ : St) (hv : List Tmp) (md : List Nat) (E : List (Nat × V)) (B : List (Nat × Ob)) (M : List Ob) (k : St → Prop) : Prop := aLO σ.next fun nx => aEQ M.length fun mx => k (aAV nx mx σ hv md E B M)
theorem zX (σ : St) (hv : List Tmp) (md : List Nat) (E : List (Nat × V)) (B : List (Nat × Ob)) (M : List Ob) (k : St → Prop) : dL σ hv md E B M k = k (sL σ hv md E B M) := by
  unfold dL sL; rw [aCC, sS]
def Ob.emp : Ob → Bool
  | .arr _ _ [] => true
  | .deep _ _ _ [] => true
  | _ => false
def Ob.sz0 : Ob → Nat
  | .arr _ sz _ => sz
  | .deep _ sz _ _ => sz
  | _ => 0
def cG (σ0 σ : St) (md : List Nat) (E : List (Nat × V)) (B : List (Nat × Ob)) (M : List Ob) (rn : List (Option Nat)) : Prop :=
  (∀ p ∈ E, Mt rn (σ.env p.1) p.2) ∧ rn.length = M.length ∧ (rn.filterMap id).Nodup ∧ (∀ i ∈ rn.filterMap id, fB σ0.ids i = true → fB md i = true) ∧
  (∀ (j : Nat) (i : Nat), rn[j]? = some (some i) → σ.mem i = M[j]?) ∧ (∀ (j : Nat), rn[j]? = some none → ∃ ob, M[j]? = some ob ∧ ob.emp = true) ∧
  (∀ i ∈ σ0.ids, fB md i = true ∨ σ.mem i = σ0.mem i) ∧ M.all Ob.isA = true ∧
  (∀ p ∈ B, fB md p.1 = true ∧ Nat.blt p.1 σ0.next = true ∧ (∃ ob, σ0.mem p.1 = some ob) ∧ p.1 ∉ rn.filterMap id ∧ aKZ rn (σ.mem p.1) p.2)
def Lp (F : (Exit → St → Prop) → St → Prop) (hv : List Tmp) (Q : Exit → St → Prop) (σ : St) : Prop :=
  ∃ (τ : Type) (I : τ → Prop) (m : τ → Nat) (md : List Nat) (E : τ → List (Nat × V)) (B : τ → List (Nat × Ob)) (M : τ → List Ob),
      (∃ x rn, I x ∧ cG σ σ md (E x) (B x) (M x) rn) ∧
      ∀ x, I x → dL σ hv md (E x) (B x) (M x) (F (fun e σ' => match e with | .normal => ∃ y rn, I y ∧ m y < m x ∧ cG σ σ' md (E y) (B y) (M y) rn | e => Q e σ'))
inductive Jt where
  | n
  | l (a b : Jt)
  | j (a b : Jt)
  | c (a b : Jt)
  | f (m : Nat) (a b : Jt)
  | w (W : List Nat)
def Jt.a : Jt → Jt
  | .n => .n
  | .l a _ => a
  | .j a _ => a
  | .c a _ => a
  | .f _ a _ => a
  | .w _ => .n
def Jt.b : Jt → Jt
  | .n => .n
  | .l _ b => b
  | .j _ b => b
  | .c _ b => b
  | .f _ _ b => b
  | .w _ => .n
def Jt.on : Jt → Bool
  | .j _ _ => true
  | _ => false
def Jt.ct : Jt → Bool
  | .c _ _ => true
  | .f _ _ _ => true
  | _ => false
def Jt.fz : Jt → Option Nat
  | .f m _ _ => some m
  | _ => none
def Jt.fok (N : Nat) : Jt → Bool
  | .n => true
  | .l a b => a.fok N && b.fok N
  | .j a b => a.fok N && b.fok N
  | .c a b => a.fok N && b.fok N
  | .f m a b => Nat.beq m N && (a.fok N && b.fok N)
  | .w _ => true
def Jt.wl (ops : Array Oper) : Jt → List Nat → List Nat
  | .w W, r0 => match oI ops with | true => 1000000009 :: W | false => r0
  | _, r0 => r0
theorem Jt.fok_a {N : Nat} {J : Jt} (h : J.fok N = true) : J.a.fok N = true := by
  cases J <;> simp_all [Jt.fok, Jt.a]
theorem Jt.fok_b {N : Nat} {J : Jt} (h : J.fok N = true) : J.b.fok N = true := by
  cases J <;> simp_all [Jt.fok, Jt.b]
theorem Jt.fok_fz {N : Nat} {J : Jt} (h : J.fok N = true) : J.fz = none ∨ J.fz = some N := by
  cases J <;> first | exact .inl rfl | skip
  simp only [Jt.fok, Bool.and_eq_true] at h
  rw [Nat.eq_of_beq_eq_true h.1]; exact .inr rfl
def low (n : Nat) (E : List (Nat × V)) (B : List (Nat × Ob)) : St := { env := fun t => match lk E t with | some v => v | none => .und, mem := lk B, next := n, ids := B.map (·.1) }
def Fz (mem : Nat → Option Ob) (fz : List Nat) (u v : V) : Prop := u = v ∨ (match v with
  | .sl sz n xs => (∃ i len e, u = .own i len ∧ mem i = some (.arr e sz xs) ∧ fB fz i = true ∧ (n = len ∨ xs.length = n)) ∨ (∃ i len e es, u = .own i len ∧ mem i = some (.deep e sz es xs) ∧ fB fz i = true ∧ (n = len ∨ xs.length = n)) ∨
    ∃ i idx off q e s es ys p, u = .dsl i idx off q ∧ mem i = some (.deep e s es ys) ∧ fB fz i = true ∧ ys[idx]? = some p ∧ p[off]? = some (.sl sz n xs)
  | _ => False)
def CE0 (mem : Nat → Option Ob) (fz : List Nat) (env : Nat → V) : List (Nat × V) → Prop
  | [] => True
  | (t, v) :: l => Fz mem fz (env t) v ∧ CE0 mem fz env l
def CB0 (mem : Nat → Option Ob) : List (Nat × Ob) → Prop
  | [] => True
  | (i, ob) :: l => mem i = some ob ∧ CB0 mem l
def FL (mem : Nat → Option Ob) (fz : List Nat) : List V → List V → Prop
  | [], [] => True
  | u :: us, v :: vs => Fz mem fz u v ∧ FL mem fz us vs
  | _, _ => False
def FzG (mem : Nat → Option Ob) (fz : List Nat) (u v : V) : Prop := Fz mem fz u v ∨ (match v with
  | .agg vs => ∃ us, u = .agg us ∧ FL mem fz us vs
  | _ => False)
def mvd (B : List (Nat × Ob)) (i idx : Nat) : Prop := match lk B i with
  | none => True
  | some (.tail _ _ _ _ k) => idx < k
  | _ => False
def Mg (mem : Nat → Option Ob) (fz : List Nat) (B : List (Nat × Ob)) (j : Nat) (e : TypeId) (u v : V) : Prop := (u = v ∧ v.bare = true) ∨ (match v with
  | .sl s n ys => (u = .nil ∧ ys = [] ∧ n = 0) ∨ (∃ m len, u = .own m len ∧ mem m = some (.arr e s ys) ∧ fB fz (m + 1000000000) = true ∧ (n = len ∨ ys.length = n) ∧ mF (.arr e s ys)) ∨
    ∃ i idx q p e2 sz es xs, u = .dsl i idx j q ∧ (mem i = some (.deep e2 sz es xs) ∨ ∃ k0, mem i = some (.tail e2 sz es xs k0) ∧ k0 ≤ idx) ∧ xs[idx]? = some p ∧ p[j]? = some (.sl s n ys) ∧ es.getD j 0 = e ∧ fB fz i = false ∧ mvd B i idx
  | _ => False)
def MgL (mem : Nat → Option Ob) (fz : List Nat) (B : List (Nat × Ob)) (es : List TypeId) : Nat → List V → List V → Prop
  | _, [], [] => True
  | j, u :: us, v :: vs => Mg mem fz B j (es.getD j 0) u v ∧ MgL mem fz B es (j + 1) us vs
  | _, _, _ => False
def lX : List V → List Nat
  | [] => []
  | .own m _ :: l => m :: lX l
  | _ :: l => lX l
def FzB (mem : Nat → Option Ob) (fz : List Nat) (B : List (Nat × Ob)) (i : Nat) (o : Option Ob) (ob : Ob) : Prop := o = some ob ∨ (match ob with
  | .box vs => ∃ us, o = some (.box us) ∧ FL mem fz us vs
  | .tail e sz es xs k => o = some (.deep e sz es xs) ∨ ∃ k0, o = some (.tail e sz es xs k0) ∧ k0 ≤ k
  | .deep e sz es vs => ∃ xs idx row row', o = some (.dirt e sz es xs idx row) ∧ (lX row).Nodup ∧ MgL mem fz B es 0 row row' ∧ vs = xs.set idx row' ∧ fB fz (i + 2000000000) = true
  | _ => False)
def CE (mem : Nat → Option Ob) (fz : List Nat) (env : Nat → V) : List (Nat × V) → Prop
  | [] => True
  | (t, v) :: l => FzG mem fz (env t) v ∧ CE mem fz env l
def CB (mem : Nat → Option Ob) (fz : List Nat) (B : List (Nat × Ob)) : List (Nat × Ob) → Prop
  | [] => True
  | (i, ob) :: l => FzB mem fz B i (mem i) ob ∧ CB mem fz B l
theorem CE0.up {mem : Nat → Option Ob} {fz : List Nat} {env : Nat → V} : ∀ {E : List (Nat × V)}, CE0 mem fz env E → CE mem fz env E
  | [], _ => trivial
  | _ :: _, ⟨h, k⟩ => ⟨.inl h, k.up⟩
theorem CB0.up {mem : Nat → Option Ob} {fz : List Nat} {B0 : List (Nat × Ob)} : ∀ {B : List (Nat × Ob)}, CB0 mem B → CB mem fz B0 B
  | [], _ => trivial
  | _ :: _, ⟨h, k⟩ => ⟨.inl h, k.up⟩
def rQ (n : Nat) (B : List (Nat × Ob)) : Bool := (List.range n).all fun m => (lk B m).isSome
def xY (m : Nat) (E : List (Nat × V)) (B : List (Nat × Ob)) (fz : List Nat) : Bool :=
  match fz.any (Nat.ble 1000000000) || B.any (fun p => p.2.isT) with
  | false => true
  | true => Nat.ble (fz.filter (Nat.ble 2000000000)).length 1 && (fz.all fun x => match Nat.ble 1000000000 x with | true => Nat.ble (m + 1000000000) x && !(lk B (x - 1000000000)).isSome && !fB fz (x - 1000000000) | false => true) &&
      (fz.all fun x => match Nat.ble 2000000000 x with | true => Nat.ble (m + 2000000000) x | false => true) && (E.all fun p => p.2.nod) && (B.all fun p => p.2.nod) && (B.all fun p => !p.2.isT || Nat.ble m p.1)
def Cut (al : Option Nat) (K : St → Prop) (σ : St) : Prop := ∃ n E B fz, (match al with | none => fz.isEmpty && B.all (fun p => !p.2.isT) | some m => rQ m B && xY m E B fz) = true ∧ (B.all fun p => !fB fz p.1) = true ∧ σ.next = n ∧ CE σ.mem fz σ.env E ∧ CB σ.mem fz B B ∧ K (low n E B)
def Sq (F : (Exit → St → Prop) → St → Prop) (hv : List Tmp) (K : St → Prop) (Q : Exit → St → Prop) (σ : St) : Prop :=
  ∃ (τ : Type) (I : τ → Prop) (md : List Nat) (E : τ → List (Nat × V)) (B : τ → List (Nat × Ob)) (M : τ → List Ob),
      F (fun e σ' => match e with | .normal => ∃ y rn, I y ∧ cG σ σ' md (E y) (B y) (M y) rn | e => Q e σ') σ ∧ ∀ x, I x → dL σ hv md (E x) (B x) (M x) K
def awp : Code → Jt → (Exit → St → Prop) → St → Prop
  | .skip, _, Q, σ => Q .normal σ
  | .region _ ops draw, J, Q, σ => aLO σ.next fun nx => lsK (J.wl ops (wOf ops σ.env draw)) fun W => rgo P G T (aEY ops nx W draw) nx ops 0 ops.toList (fun σ' => Q .normal (σ'.done nx ops.size)) σ
  | .seq a b, J, Q, σ => match J.on with
    | true => Sq (awp a J.a) (qW a) (awp b J.b Q) Q σ
    | false => match J.ct with
      | true => awp a J.a (fun e σ' => match e with | .normal => Cut J.fz (awp b J.b Q) σ' | e => Q e σ') σ
      | false => awp a J.a (fun e σ' => match e with | .normal => awp b J.b Q σ' | e => Q e σ') σ
  | .cond c x y, J, Q, σ => match σ.ev c with
    | .bool b => (match J.ct with
      | true => Br b (Cut J.fz (awp x J.a Q) σ) (Cut J.fz (awp y J.b Q) σ)
      | false => Br b (awp x J.a Q σ) (awp y J.b Q σ))
    | _ => False
  | .block id c, J, Q, σ => awp c J (fun e σ' => match e with | .exit id' => (match Nat.beq id' id with | true => Q .normal σ' | false => Q (.exit id') σ') | e => Q e σ') σ
  | .loop c, J, Q, σ => Lp (awp c J) (qW c) Q σ
  | .exit id, _, Q, σ => Q (.exit id) σ
  | .ret, _, Q, σ => Q .ret σ
  | _, _, _, _ => False
end Go.Aw
set_option linter.unusedVariables false
namespace Go.Aw
def aET (n : Nat) (x y : Value) : Option Bool :=
  match x, y, n with
  | .int k a, .int k' b, 1 => if k = k' then some (decide (a = b)) else none
  | .string a, .string b, 2 => some (decide (a.toList = b.toList))
  | .bool a, .bool b, 3 => some (a == b)
  | _, _, _ => none
def qS : List Nat → List Value → List Value → Option Bool
  | [], [], [] => some true
  | n :: ns, a :: xs, b :: bs => match aET n a b, qS ns xs bs with | some p, some q => some (p && q) | _, _ => none
  | _, _, _ => none
structure TIb (P : Program) (t : TypeId) (ti : TI) : Prop where
  bld : ti.agg = true → ∃ z : Value, ∃ pl : Nat → Option (Nat × Nat), z.cells.toList.map cv = ti.zero ∧ (∀ (i : Nat) (p : Nat × Nat), ti.plc[i]? = some p → pl i = some p) ∧ ∀ parts, P.built t parts = Instr.fill pl z.cells parts
  one : ti.agg = false → ti.size = 1
  pos : 0 < ti.size
  bpos : 0 < ti.bytes
  info : ∃ i z, P.info? t = some i ∧ i.size = ti.size ∧ i.bytes = ti.bytes ∧ i.zero = some z ∧ z.cells.toList.map cv = ti.zero ∧ z.cells.size = ti.size
  desc : ∃ d, P.underlying t = some d ∧ (ti.agg = true → (∃ fs, d = .struct fs) ∨ ∃ n e, d = .array n e) ∧ (ti.agg = false → (∀ fs, d ≠ .struct fs) ∧ (∀ n e, d ≠ .array n e)) ∧
    (∀ (f off : Nat) (ft : TypeId), ti.flds[f]? = some (off, ft) → ∃ (fs : Array Field) (fl : Field), d = .struct fs ∧ fs[f]? = some fl ∧ fl.offset = off ∧ fl.type = ft ∧ ∃ fi, P.info? ft = some fi ∧ fi.size ≠ 0) ∧
    (ti.sl = true → d = .slice ti.elem ∧ 0 < ti.size) ∧ (∀ k, ti.int = some k → d = .int k) ∧ (ti.str = true → d = .string) ∧ (ti.bool = true → d = .bool) ∧ (0 < ti.alen → d = .array ti.alen ti.elem)
structure sI (P : Program) (t : TypeId) (ti : TI) : Prop extends TIb P t ti where
  eq : ti.eqk ≠ [] → P.eqGuardType P.depth t = false ∧ ∀ (w : World) (xs ys : Array Value) (b : Bool), qS ti.eqk xs.toList ys.toList = some b → (Op.equal t (.agg xs) (.agg ys)).run P w = .ok b w
def TOk (P : Program) (T : TypeId → Option TI) : Prop := ∀ t ti, T t = some ti → sI P t ti
theorem Rc.int_inv {w : World} {A : Nat → Prop} {k : IntKind} {n : Int} {v : Value} (h : Rc w A (.int k n) v) : v = .int k n := by cases h; rfl
section
variable {w : World} {A : Nat → Prop} {μ : Nat → Option Loc} {v : Value}
theorem Rv.int_inv {k : IntKind} {n : Int} (h : Rv w A μ (.int k n) v) : v = .int k n := by cases h with | c h => cases h; rfl
theorem Rv.bool_inv {b : Bool} (h : Rv w A μ (.bool b) v) : v = .bool b := by cases h with | c h => cases h; rfl
theorem Rv.str_inv {s : ByteArray} (h : Rv w A μ (.str s) v) : v = .string s := by cases h with | c h => cases h; rfl
theorem Rv.fn_inv {f : FuncId} (h : Rv w A μ (.fn f) v) : v = .func (.func f) #[] #[] := by cases h with | c h => cases h; rfl
theorem Rv.nil_inv (h : Rv w A μ .nil v) : v = .slice none 0 0 := by cases h with | c h => cases h; rfl
theorem Rv.tup_inv {xs : List V} (h : Rv w A μ (.tup xs) v) : ∃ cs : Array Value, v = .tuple cs ∧ cs.size = xs.length ∧ ∀ (i : Nat) (x : V) (c : Value), xs[i]? = some x → cs[i]? = some c → Rv w A μ x c := by
  cases h with
  | c h => cases h
  | tup xs cs hl h => exact ⟨cs, rfl, hl, h⟩
theorem Rv.tup0_inv (h : Rv w A μ (.tup []) v) : v = .tuple #[] := by
  obtain ⟨cs, rfl, hl, _⟩ := h.tup_inv
  have : cs = #[] := Array.eq_empty_of_size_eq_zero (by simpa using hl)
  rw [this]
theorem Rv.agg_inv {xs : List V} (h : Rv w A μ (.agg xs) v) : ∃ cs : Array Value, v = .agg cs ∧ cs.size = xs.length ∧ ∀ (i : Nat) (x : V) (c : Value), xs[i]? = some x → cs[i]? = some c → Rv w A μ x c := by
  cases h with
  | c h => cases h
  | agg xs cs hl h => exact ⟨cs, rfl, hl, h⟩
theorem Rv.own_inv {i len : Nat} (h : Rv w A μ (.own i len) v) : ∃ l, μ i = some l ∧ l.len = len ∧ v = .slice (l.b.map (⟨·, 0, none⟩)) l.len l.cap := by
  cases h with
  | c h => cases h
  | own i l h => exact ⟨l, h, rfl, rfl⟩
theorem Rv.bp_inv {i off : Nat} (h : Rv w A μ (.bp i off) v) : ∃ l b, μ i = some l ∧ l.b = some b ∧ v = .pointer (some ⟨b, off, none⟩) := by
  cases h with
  | c h => cases h
  | bp i off l b h hb => exact ⟨l, b, h, hb, rfl⟩
theorem Rv.dsl_inv {i idx off n : Nat} (h : Rv w A μ (.dsl i idx off n) v) : ∃ l d, μ i = some l ∧ l.hd (idx * l.sz + off) = some d ∧ d.len = n ∧ v = d.val := by
  cases h with
  | c h => cases h
  | dsl i idx off l d h hd => exact ⟨l, d, h, hd, rfl, rfl⟩
theorem Rv.ip_inv {i idx off s j o : Nat} (h : Rv w A μ (.ip i idx off s j o) v) : ∃ l d b, μ i = some l ∧ l.hd (idx * l.sz + off) = some d ∧ d.b = some b ∧ v = .pointer (some ⟨b, j * s + o, none⟩) := by
  cases h with
  | c h => cases h
  | ip i idx off s j o l d b h hd hb => exact ⟨l, d, b, h, hd, hb, rfl⟩
theorem Rv.mp_inv {i : Nat} (h : Rv w A μ (.mp i) v) : ∃ l b, μ i = some l ∧ l.b = some b ∧ v = .map (some b) := by
  cases h with
  | c h => cases h
  | mp i l b h hb => exact ⟨l, b, h, hb, rfl⟩
theorem Rv.ifs_inv {t : TypeId} {i len : Nat} (h : Rv w A μ (.ifs t i len) v) : ∃ l, μ i = some l ∧ l.len = len ∧ v = .iface t (.slice (l.b.map (⟨·, 0, none⟩)) l.len l.cap) := by
  cases h with
  | c h => cases h
  | ifs t i l h => exact ⟨l, h, rfl, rfl⟩
theorem Rv.cf_inv {f : FuncId} {i : Nat} (h : Rv w A μ (.cf f i) v) : ∃ l b, μ i = some l ∧ l.b = some b ∧ v = .func (.func f) #[] #[.pointer (some ⟨b, 0, none⟩)] := by
  cases h with
  | c h => cases h
  | cf f i l b h hb => exact ⟨l, b, h, hb, rfl⟩
theorem Rv.ep_inv {i j off : Nat} (h : Rv w A μ (.ep i j off) v) : ∃ l b, μ i = some l ∧ l.b = some b ∧ v = .pointer (some ⟨b, j * l.sz + off, none⟩) := by
  cases h with
  | c h => cases h
  | ep i j off l b h hb => exact ⟨l, b, h, hb, rfl⟩
theorem Rv.rp_inv {cs : List V} (h : Rv w A μ (.rp cs) v) : ∃ ad, ∃ f : Nat → Value, v = .pointer (some ad) ∧ A ad.block ∧ (∀ (k : Nat) (u : V), cs[k]? = some u → w.cell? (ad.add k) = some (f k)) ∧ ∀ (k : Nat) (u : V), cs[k]? = some u → Rc w A u (f k) := by
  cases h with
  | c h => cases h with | rp cs ad f hA h1 h2 => exact ⟨ad, f, rfl, hA, h1, h2⟩
theorem Rv.sl_inv {sz n : Nat} {xs : List (List V)} (h : Rv w A μ (.sl sz n xs) v) : ∃ (a : Option Addr) (cap : Nat) (f : Nat → Value), xs.length = n ∧ v = .slice a n cap ∧ xs.length ≤ cap ∧ (∀ p ∈ xs, p.length = sz) ∧
    (xs ≠ [] → ∃ ad, a = some ad ∧ A ad.block) ∧ (∀ ad (k : Nat) (u : V), a = some ad → xs.flatten[k]? = some u → w.cell? (ad.add k) = some (f k)) ∧ (∀ (k : Nat) (u : V), xs.flatten[k]? = some u → Rc w A u (f k)) ∧ ∀ (k : Nat) (u : V), xs.flatten[k]? = some u → (f k).oneCell' = true := by
  cases h with
  | c h => cases h with | sl sz n xs hn a cap f hc hu h0 h1 h2 h3 => exact ⟨a, cap, f, hn, rfl, hc, hu, h0, h1, h2, h3⟩
end
theorem aGN (w : World) (A : Nat → Prop) (μ : Nat → Option Loc) (v : Value) : Rv w A μ (cv v) v := by
  unfold cv
  split
  · exact .c (.int _ _)
  · exact .c (.bool _)
  · exact .c (.str _)
  · exact .c .nil
  · exact .c (.und _)
section
variable {P : Program} {w0 : World} {X A0 : Nat → Prop} {N : Nat} {bd : Nat → Prop} {σ : St} {a : Act} {w : World} {A : Nat → Prop} {μ : Nat → Option Loc}
theorem Ok.ev (h : Ok w0 X A0 N bd σ a w A μ) (x : Operand) : Rv w A μ (σ.ev x) (a.eval x) := by
  cases x with
  | tmp t => exact h.env t
  | const v => exact aGN w A μ v
  | global g => exact .c (.und _)
  | func f => exact .c (.fn f)
end
theorem flat_get {sz : Nat} : ∀ (xs : List (List V)) (j i : Nat) (p : List V) (u : V), (∀ p ∈ xs, p.length = sz) → xs[j]? = some p → p[i]? = some u → xs.flatten[j * sz + i]? = some u
  | [], j, i, p, u, _, h, _ => by simp at h
  | q :: xs, 0, i, p, u, hu, h, hp => by
    simp at h; subst h
    rw [List.flatten_cons, Nat.zero_mul, Nat.zero_add, List.getElem?_append_left (List.getElem?_eq_some_iff.1 hp).1]; exact hp
  | q :: xs, j + 1, i, p, u, hu, h, hp => by
    have hq : q.length = sz := hu q (List.mem_cons_self ..)
    rw [List.flatten_cons, List.getElem?_append_right (by rw [hq, Nat.add_mul]; omega)]
    rw [show (j + 1) * sz + i - q.length = j * sz + i by rw [hq, Nat.add_mul]; omega]
    exact flat_get xs j i p u (fun p hp => hu p (List.mem_cons_of_mem _ hp)) (by simpa using h) hp
end Go.Aw
set_option linter.unusedVariables false
namespace Go.Aw
variable {P : Program} {T : TypeId → Option TI} {ck : Nat → Bool} {ev : Operand → V} {m : Nat → Option Ob}
theorem aMG {α : Type} {b : Bool} {F G : (α → Prop) → Prop} {k : α → Prop} (hF : F k → ∃ v, F (fun u => u = v) ∧ k v) (hG : G k → ∃ v, G (fun u => u = v) ∧ k v)
    (h : Br b (F k) (G k)) : ∃ v, Br b (F (fun u => u = v)) (G (fun u => u = v)) ∧ k v := by
  cases b with
  | true => obtain ⟨v, h1, h2⟩ := hF (h.out.1 rfl); exact ⟨v, Br.t rfl h1, h2⟩
  | false => obtain ⟨v, h1, h2⟩ := hG (h.out.2 rfl); exact ⟨v, Br.f rfl h1, h2⟩
theorem gL {α : Type} {c : Prop} {F : (α → Prop) → Prop} {k : α → Prop} (hF : F k → ∃ v, F (fun u => u = v) ∧ k v) (h : Nd c (F k)) : ∃ v, Nd c (F (fun u => u = v)) ∧ k v := by
  obtain ⟨h0, h⟩ := h.out
  obtain ⟨v, h1, h2⟩ := hF h
  exact ⟨v, Nd.mk h0 h1, h2⟩
theorem qQ {α : Type} {xs : List (List V)} {i : Nat} {F : List V → (α → Prop) → Prop} {k : α → Prop} (hF : ∀ p, F p k → ∃ v, F p (fun u => u = v) ∧ k v) (h : El xs i (fun p => F p k)) :
    ∃ v, El xs i (fun p => F p (fun u => u = v)) ∧ k v := by
  obtain ⟨p, h0, h⟩ := h.out
  obtain ⟨v, h1, h2⟩ := hF p h
  exact ⟨v, El.mk h0 h1, h2⟩
theorem dZ {α : Type} {x : α} {k : α → Prop} (h : k x) : ∃ v, x = v ∧ k v := ⟨x, rfl, h⟩
theorem aIT {op : BinOp} {a b : Int} {k : V → Prop} (h : aFA op a b k) : ∃ v, aFA op a b (fun u => u = v) ∧ k v := by
  unfold aFA at *
  split at h <;> first | exact dZ h | exact h.elim
theorem aJV {op : BinOp} {kd : IntKind} {a b : Int} {k : V → Prop} (h : aBD op kd a b k) : ∃ v, aBD op kd a b (fun u => u = v) ∧ k v := by
  cases op <;> simp only [aBD] at h ⊢ <;> first
    | exact aIT h
    | exact dZ h
    | exact gL (F := fun k => k _) dZ h
theorem aLW {x y : V} {k : V → Prop} (h : mxV x y k) : ∃ v, mxV x y (fun u => u = v) ∧ k v := by
  unfold mxV at *
  split at h
  · split at h <;> first | exact dZ h | exact h.elim
  · exact dZ h
  · exact h.elim
theorem aLA {x y : V} {k : V → Prop} (h : mnV x y k) : ∃ v, mnV x y (fun u => u = v) ∧ k v := by
  unfold mnV at *
  split at h
  · split at h <;> first | exact dZ h | exact h.elim
  · exact dZ h
  · exact h.elim
theorem aEO {lo hi : Option Operand} {sz n : Nat} {xs : List (List V)} {k : V → Prop} (h : oA ev lo hi sz n xs k) : ∃ v, oA ev lo hi sz n xs (fun u => u = v) ∧ k v := by
  unfold oA at *
  split at h
  · exact dZ h
  · split at h
    · exact gL (F := fun k => Nd _ (k _)) (gL (F := fun k => k _) dZ) h
    · exact h.elim
  · split at h
    · exact gL (F := fun k => Nd _ (k _)) (gL (F := fun k => k _) dZ) h
    · exact h.elim
  · split at h
    · exact gL (F := fun k => Nd _ (Nd _ (k _))) (gL (F := fun k => Nd _ (k _)) (gL (F := fun k => k _) dZ)) h
    · exact h.elim
theorem aEB {lo hi : Option Operand} {s : ByteArray} {k : V → Prop} (h : nQ ev lo hi s k) : ∃ v, nQ ev lo hi s (fun u => u = v) ∧ k v := by
  unfold nQ at *
  split at h
  · exact dZ h
  · split at h
    · exact gL (F := fun k => Nd _ (k _)) (gL (F := fun k => k _) dZ) h
    · exact h.elim
  · split at h
    · exact gL (F := fun k => Nd _ (k _)) (gL (F := fun k => k _) dZ) h
    · exact h.elim
  · split at h
    · exact gL (F := fun k => Nd _ (Nd _ (k _))) (gL (F := fun k => Nd _ (k _)) (gL (F := fun k => k _) dZ)) h
    · exact h.elim
theorem aEK {lo hi : Option Operand} {ti : TI} {oe : Option TI} {x : V} {k : V → Prop} (h : rL ev lo hi ti oe x k) : ∃ v, rL ev lo hi ti oe x (fun u => u = v) ∧ k v := by
  unfold rL at *
  split at h
  · split at h
    · exact aEB h
    · exact h.elim
  · split at h
    · split at h
      · exact aEO h
      · exact h.elim
    · exact h.elim
  · exact h.elim
theorem aIU {op : BinOp} {a b : ByteArray} {k : V → Prop} (h : aEC op a b k) : ∃ v, aEC op a b (fun u => u = v) ∧ k v := by
  unfold aEC at *
  split at h
  · exact gL (F := fun k => k _) dZ h
  all_goals first | exact dZ h | exact h.elim
theorem aLT {isb : Bool} {eqk : List Nat} {op : BinOp} {x y : V} {k : V → Prop} (h : bin isb eqk op x y k) : ∃ v, bin isb eqk op x y (fun u => u = v) ∧ k v := by
  unfold bin at *
  split at h
  · split at h
    · split at h <;> first | exact dZ h | exact h.elim
    · split at h <;> first | exact dZ h | exact h.elim
    · exact h.elim
  · split at h
    · exact aJV h
    · exact h.elim
  · exact aIU h
  · split at h <;> first | exact dZ h | exact h.elim
  · exact h.elim
theorem aGO {n : Nat} {agg : Bool} {i idx off : Nat} {p : List V} {k : V → Prop} (h : rdD n agg i idx off p k) : ∃ v, rdD n agg i idx off p (fun u => u = v) ∧ k v := by
  unfold rdD at *
  split at h
  · exact dZ h
  · exact h.elim
theorem aHF {s n : Nat} {agg : Bool} {j o : Nat} {c : Option V} {k : V → Prop} (h : rdI s n agg j o c k) : ∃ v, rdI s n agg j o c (fun u => u = v) ∧ k v := by
  unfold rdI at *
  split at h
  · split at h
    · refine qQ (F := fun q k => match Nat.ble _ q.length with | true => k _ | false => False) (fun q h => ?_) h
      split at h
      · exact dZ h
      · exact h.elim
    · exact h.elim
  · exact h.elim
theorem aCF {α : Type} {s : Nat} {c : Option V} {F : (α → Prop) → Prop} {k : α → Prop} (hF : F k → ∃ v, F (fun u => u = v) ∧ k v) (h : uM s c (F k)) : ∃ v, uM s c (F (fun u => u = v)) ∧ k v := by
  unfold uM at *
  split at h
  · split at h
    · exact hF h
    · exact h.elim
  · exact h.elim
theorem aGJ {n : Nat} {agg : Bool} {p : V} {k : V → Prop} (h : rdP ck m n agg p k) : ∃ v, rdP ck m n agg p (fun u => u = v) ∧ k v := by
  unfold rdP at *
  split at h
  · split at h
    · split at h
      · exact dZ h
      · exact h.elim
    · exact h.elim
  · split at h
    · refine qQ (F := fun p k => match Nat.ble _ p.length with | true => k _ | false => False) (fun p h => ?_) h
      split at h
      · exact dZ h
      · exact h.elim
    · exact qQ (F := fun p k => rdD _ _ _ _ _ p k) (fun p h => aGO h) h
    · exact qQ (F := fun p k => Nd _ (rdD _ _ _ _ _ p k)) (fun p h => gL (F := fun k => rdD _ _ _ _ _ p k) aGO h) h
    · exact h.elim
  · split at h
    · exact qQ (F := fun p k => rdI _ _ _ _ _ _ k) (fun p h => aHF h) h
    · exact qQ (F := fun p k => Nd _ (rdI _ _ _ _ _ _ k)) (fun p h => gL (F := fun k => rdI _ _ _ _ _ _ k) aHF h) h
    · exact h.elim
  · split at h
    · exact dZ h
    · exact h.elim
  · exact h.elim
theorem aAS {o : Op} {k : V → Prop} (h : opv T ck ev m o k) : ∃ v, opv T ck ev m o (fun u => u = v) ∧ k v := by
  cases o <;> simp only [opv] at h ⊢ <;> first
    | exact dZ h
    | exact h.elim
    | exact aLT h
    | skip
  case pick c a b =>
    split at h
    · exact aMG (F := fun k => k _) (G := fun k => k _) dZ dZ h
    · exact h.elim
  case nilCheck x => split at h <;> first | exact dZ h | exact h.elim
  case load t x =>
    split at h
    · exact aGJ h
    · exact h.elim
  case build t parts =>
    split at h
    · split at h <;> first | exact dZ h | exact h.elim
    · exact h.elim
  case fieldAddr t x f =>
    split at h
    · split at h
      · split at h <;> first | exact dZ h | exact h.elim
      · exact h.elim
    · exact h.elim
  case field t x f =>
    split at h
    · split at h
      · split at h
        · split at h
          · split at h <;> first | exact dZ h | exact h.elim
          · exact h.elim
        · exact h.elim
      · exact h.elim
    · exact h.elim
  case indexAddr t x ix =>
    split at h
    · split at h
      · split at h
        · split at h
          · split at h
            · split at h
              · exact gL (F := fun k => Nd _ (k _)) (gL (F := fun k => k _) dZ) h
              · exact h.elim
            · split at h
              · exact gL (F := fun k => Nd _ (k _)) (gL (F := fun k => k _) dZ) h
              · exact h.elim
            · split at h
              · exact gL (F := fun k => Nd _ (k _)) (gL (F := fun k => k _) dZ) h
              · exact h.elim
            · exact h.elim
          · split at h
            · exact qQ (F := fun p k => uM _ _ (Nd _ (Nd _ (k _)))) (fun p => aCF (F := fun k => Nd _ (Nd _ (k _))) (gL (F := fun k => Nd _ (k _)) (gL (F := fun k => k _) dZ))) h
            · exact qQ (F := fun p k => Nd _ (uM _ _ (Nd _ (Nd _ (k _))))) (fun p => gL (F := fun k => uM _ _ (Nd _ (Nd _ (k _)))) (aCF (F := fun k => Nd _ (Nd _ (k _))) (gL (F := fun k => Nd _ (k _)) (gL (F := fun k => k _) dZ)))) h
            · exact h.elim
          · split at h
            · exact gL (F := fun k => Nd _ (El _ _ fun p => k (V.rp p))) (gL (F := fun k => El _ _ fun p => k (V.rp p)) (qQ (F := fun p k => k (V.rp p)) fun p => dZ)) h
            · exact h.elim
          · exact h.elim
        · exact h.elim
      · split at h
        · split at h
          · split at h <;> first | exact dZ h | exact h.elim
          · exact h.elim
        · exact h.elim
      · exact h.elim
    · exact h.elim
  case makeFunc fn first cap =>
    split at h
    · exact dZ h
    · split at h
      · split at h <;> first | exact dZ h | exact h.elim
      · exact h.elim
    · exact h.elim
  case makeInterface t x =>
    split at h
    · split at h <;> first | exact dZ h | exact h.elim
    · exact h.elim
  case index t x ix =>
    split at h
    · split at h
      · exact gL (F := fun k => Nd _ (k _)) (gL (F := fun k => k _) dZ) h
      · exact h.elim
    · exact h.elim
  case unOp op t x => split at h <;> first | exact dZ h | exact h.elim
  case convert s d x =>
    split at h
    · split at h
      · exact dZ h
      · split at h <;> first | exact dZ h | exact h.elim
      · split at h
        · split at h
          · split at h
            · split at h <;> first | exact dZ h | exact h.elim
            · exact h.elim
          · exact h.elim
        · exact h.elim
      · exact h.elim
    · exact h.elim
  case slice t x lo hi mx =>
    split at h
    · exact aEK h
    · exact h.elim
  case extract x i =>
    split at h
    · split at h <;> first | exact dZ h | exact h.elim
    · exact h.elim
  case call c =>
    split at h
    · split at h
      · split at h
        · split at h <;> first | exact dZ h | exact h.elim
        · exact h.elim
      · exact h.elim
    · split at h <;> first | exact aLW h | exact h.elim
    · split at h <;> first | exact aLA h | exact h.elim
    · exact h.elim
end Go.Aw
set_option linter.unusedVariables false
namespace Go.Aw
section
variable {P : Program} {w : World} {A : Nat → Prop} {μ : Nat → Option Loc}
theorem iO {α : Type} {cs : List α} {off n k : Nat} {u : α} (h : ((cs.drop off).take n)[k]? = some u) : cs[off + k]? = some u := by
  rw [List.getElem?_take] at h
  split at h
  · rwa [List.getElem?_drop] at h
  · cases h
theorem fE {b i : Nat} {arr : Array Value} {el : TypeId} {fz : Nat × Nat} (h : w.heap[b]? = some (.cells arr el fz)) : w.cell? ⟨b, i, none⟩ = arr[i]? := by
  simp [World.cell?, h]
theorem gH (b i k : Nat) : (⟨b, i, none⟩ : Addr).add k = ⟨b, i + k, none⟩ := by
  unfold Addr.add; split
  · rename_i h; subst h; rfl
  · rfl
theorem vY {t : TypeId} {ti : TI} (ht : sI P t ti) : (isAgg t).run P w = .ok ti.agg w := by
  obtain ⟨d, hd, h1, h2, _⟩ := ht.desc
  unfold isAgg
  simp only [Sem.run_bind, run_underlying hd, Result.andThen_ok]
  cases hb : ti.agg with
  | true =>
    rcases h1 hb with ⟨fs, rfl⟩ | ⟨n, e, rfl⟩ <;> rfl
  | false =>
    obtain ⟨h3, h4⟩ := h2 hb
    cases d <;> first | rfl | exact absurd rfl (h3 _) | exact absurd rfl (h4 _ _)
theorem jM {t : TypeId} {ti : TI} (ht : sI P t ti) : (sizeOf t).run P w = .ok ti.size w := by
  obtain ⟨i, z, hi, hs, _⟩ := ht.info
  simp [sizeOf, typeInfo, hi, hs]
theorem nR {t : TypeId} {ti : TI} (ht : sI P t ti) {ad : Addr} {cs : List V} (hl : cs.length = ti.size) (f : Nat → Value) (hc : ∀ (k : Nat) (u : V), cs[k]? = some u → w.cell? (ad.add k) = some (f k))
    (hr : ∀ (k : Nat) (u : V), cs[k]? = some u → Rv w A μ u (f k)) : ∃ cv, (loadVar t ad).run P w = .ok cv w ∧ Rv w A μ (mkv ti.agg cs) cv := by
  unfold loadVar
  simp only [Sem.run_bind, vY ht, Result.andThen_ok]
  cases hb : ti.agg with
  | true =>
    have hlc := run_loadCells (P := P) w ad ti.size f (fun j hj => hc j (cs[j]'(by omega)) (by simp))
    refine ⟨.agg ((List.range ti.size).map f).toArray, ?_, ?_⟩
    · simp [jM ht, hlc]
    · refine .agg _ _ (by simp [hl]) (fun i x c hi hx => ?_)
      have := hr i x hi
      simp at hx
      obtain ⟨j, hj, rfl⟩ := hx
      obtain ⟨_, e⟩ := List.getElem?_eq_some_iff.1 hj
      simp at e; subst e
      exact this
  | false =>
    have h1 := ht.one hb
    rw [h1] at hl
    match cs, hl with
    | [u], _ =>
      refine ⟨f 0, ?_, hr 0 u rfl⟩
      have := hc 0 u rfl
      simp only [Addr.add, if_true] at this
      simp [run_load, this]
def Mok (w : World) (A : Nat → Prop) (μ : Nat → Option Loc) (m : Nat → Option Ob) : Prop := ∀ i ob, m i = some ob → ∃ l, μ i = some l ∧ gP w A μ l ob
variable {ck : Nat → Bool} {m : Nat → Option Ob}
theorem aEA {w : World} {l : Loc} {cs : List V} (h : gP w A μ l (.box cs)) : ∃ b, ∃ f : Nat → Value, l.b = some b ∧ ∀ (k : Nat) (u : V), cs[k]? = some u → w.cell? ⟨b, k, none⟩ = some (f k) ∧ Rv w A μ u (f k) := by
  obtain ⟨b, arr, el, h1, h2, h3, h4⟩ := h
  refine ⟨b, fun k => arr.getD k undef, h1, fun k u hk => ?_⟩
  have hlt : k < arr.size := by rw [h3]; exact (List.getElem?_eq_some_iff.1 hk).1
  have e : arr[k]? = some (arr.getD k undef) := by simp [hlt]
  exact ⟨(fE h2).trans e, h4 k u _ hk e⟩
theorem vF {w : World} {l : Loc} {e : TypeId} {sz : Nat} {xs : List (List V)} (h : gP w A μ l (.arr e sz xs)) : l.sz = sz ∧ l.len = xs.length ∧ (∀ p ∈ xs, p.length = sz) ∧ ∃ f : Nat → Value, ∀ (k : Nat) (u : V), xs.flatten[k]? = some u →
    ∃ b, l.b = some b ∧ w.cell? ⟨b, k, none⟩ = some (f k) ∧ Rc w A u (f k) ∧ (f k).oneCell' = true := by
  obtain ⟨h1, h2, h3, cs, ⟨ho1, ho2⟩, hone, h5⟩ := h
  refine ⟨h1, h2, h3, fun k => cs.getD k undef, fun k u hk => ?_⟩
  have hfl : xs.flatten.length = l.len * sz := by
    rw [List.length_flatten, h2]
    clear hk h5 ho1 ho2 h2
    induction xs with
    | nil => simp
    | cons p xs ih => simp only [List.map_cons, List.sum_cons, List.length_cons]; rw [ih (fun p hp => h3 p (List.mem_cons_of_mem _ hp)), h3 p (List.mem_cons_self ..), Nat.add_mul]; omega
  have hlt : k < cs.length := by rw [ho1, ← hfl]; exact (List.getElem?_eq_some_iff.1 hk).1
  have ek : cs[k]? = some (cs.getD k undef) := by simp [hlt]
  rcases ho2 with ⟨e1, e2⟩ | ⟨g, cap, cur, e1, e2, e3, e4, e5, e6, e7⟩
  · rw [ho1, e2] at hlt; simp at hlt
  · cases hl : l.b with
    | none => rw [hl] at e1; simp at e1
    | some b =>
      rw [hl] at e1; simp at e1
      obtain ⟨rfl, _⟩ := e1
      refine ⟨b, rfl, ?_, h5 k u _ hk ek, hone _ (List.mem_of_getElem? ek)⟩
      rw [fE e3, ← ek, ← e7, List.getElem?_take, if_pos (by rw [← ho1]; exact hlt)]
      simp
theorem jE {w : World} {l : Loc} {e : TypeId} {sz : Nat} {xs : List (List V)} {R : Nat → V → Value → Prop} (h : Row w l e sz xs R) : ∃ f : Nat → Value, ∀ (k : Nat) (u : V), xs.flatten[k]? = some u →
    ∃ b, l.b = some b ∧ w.cell? ⟨b, k, none⟩ = some (f k) ∧ R k u (f k) ∧ (f k).oneCell' = true := by
  obtain ⟨h1, h2, h3, cs, ⟨ho1, ho2⟩, hone, h5⟩ := h
  refine ⟨fun k => cs.getD k undef, fun k u hk => ?_⟩
  have hfl : xs.flatten.length = l.len * sz := by
    rw [List.length_flatten, h2]
    clear hk h5 ho1 ho2 h2
    induction xs with
    | nil => simp
    | cons p xs ih => simp only [List.map_cons, List.sum_cons, List.length_cons]; rw [ih (fun p hp => h3 p (List.mem_cons_of_mem _ hp)), h3 p (List.mem_cons_self ..), Nat.add_mul]; omega
  have hlt : k < cs.length := by rw [ho1, ← hfl]; exact (List.getElem?_eq_some_iff.1 hk).1
  have ek : cs[k]? = some (cs.getD k undef) := by simp [hlt]
  rcases ho2 with ⟨e1, e2⟩ | ⟨g, cap, cur, e1, e2, e3, e4, e5, e6, e7⟩
  · rw [ho1, e2] at hlt; simp at hlt
  · cases hl : l.b with
    | none => rw [hl] at e1; simp at e1
    | some b =>
      rw [hl] at e1; simp at e1
      obtain ⟨rfl, _⟩ := e1
      refine ⟨b, rfl, ?_, h5 k u _ hk ek, hone _ (List.mem_of_getElem? ek)⟩
      rw [fE e3, ← ek, ← e7, List.getElem?_take, if_pos (by rw [← ho1]; exact hlt)]
      simp
theorem yJ (i idx : Nat) : ∀ (vs : List V) (off : Nat) (cs : List V), aGQ i idx off vs = some cs → cs.length = vs.length ∧ ∀ (j : Nat) (u : V), cs[j]? = some u → ∃ v, vs[j]? = some v ∧ ((v.bare = true ∧ u = v) ∨ ∃ s q ys, v = .sl s q ys ∧ u = .dsl i idx (off + j) q)
  | [], off, cs, h => by
    simp only [aGQ] at h; injection h with h; subst h
    exact ⟨rfl, fun j u hu => by simp at hu⟩
  | v :: vs, off, cs, h => by
    simp only [aGQ] at h
    split at h
    · cases h
    · rename_i r hr
      obtain ⟨g1, g2⟩ := yJ i idx vs (off + 1) r hr
      have tl : ∀ (c : V), (c :: r).length = (v :: vs).length ∧ ∀ (j : Nat) (u : V), (c :: r)[j + 1]? = some u → ∃ w, (v :: vs)[j + 1]? = some w ∧ ((w.bare = true ∧ u = w) ∨ ∃ s q ys, w = .sl s q ys ∧ u = .dsl i idx (off + (j + 1)) q) := fun c => ⟨by simp [g1], fun j u hu => by
        obtain ⟨w, h1, h2⟩ := g2 j u (by simpa using hu)
        exact ⟨w, by simpa using h1, by rwa [show off + (j + 1) = off + 1 + j by omega]⟩⟩
      split at h
      · rename_i s q ys
        injection h with h; subst h
        refine ⟨(tl _).1, fun j u hu => ?_⟩
        cases j with
        | zero => simp at hu; subst hu; exact ⟨_, rfl, .inr ⟨s, q, ys, rfl, rfl⟩⟩
        | succ j => exact (tl _).2 j u hu
      · split at h
        · rename_i hb
          injection h with h; subst h
          refine ⟨(tl _).1, fun j u hu => ?_⟩
          cases j with
          | zero => simp at hu; subst hu; exact ⟨_, rfl, .inl ⟨hb, rfl⟩⟩
          | succ j => exact (tl _).2 j u hu
        · cases h
theorem aAD {l : Loc} {es : List TypeId} {sz k : Nat} {u : V} {c : Value} (hb : u.bare = true) (h : Dc w l es sz k u c) : Rc w (fun _ => False) u c := by
  cases u <;> first | (cases hb; done) | exact h.2
theorem aBP {t : TypeId} {ti : TI} (ht : sI P t ti) {i idx off b sz : Nat} {l : Loc} {es : List TypeId} {xs : List (List V)} {q : List V} {v : V} (hl : μ i = some l) (hlb : l.b = some b) (hsz : l.sz = sz) (hu : ∀ p ∈ xs, p.length = sz) (f : Nat → Value)
    (hc : ∀ (j : Nat) (u : V), xs.flatten[j]? = some u → idx = j / sz → w.cell? ⟨b, j, none⟩ = some (f j) ∧ Dc w l es sz j u (f j)) (hq : xs[idx]? = some q) (h : rdD ti.size ti.agg i idx off q (fun u => u = v)) :
    ∃ cv, (Instr.loadAt t (.pointer (some ⟨b, idx * l.sz + off, none⟩))).run P w = .ok cv w ∧ Rv w A μ v cv := by
  unfold rdD at h
  split at h
  · rename_i cs h1 h2
    subst h
    obtain ⟨g1, g2⟩ := yJ _ _ _ _ _ h2
    have hle := Nat.le_of_ble_eq_true h1
    have hql : q.length = sz := hu q (List.mem_of_getElem? hq)
    have key : ∀ (k : Nat) (u : V), cs[k]? = some u → ∃ x, xs.flatten[idx * sz + off + k]? = some x ∧ idx = (idx * sz + off + k) / sz ∧ ((x.bare = true ∧ u = x) ∨ ∃ s n ys, x = .sl s n ys ∧ u = .dsl i idx (off + k) n) := fun k u hk => by
      obtain ⟨x, k1, k2⟩ := g2 k u hk
      have k3 := iO k1
      refine ⟨x, by rw [Nat.add_assoc]; exact flat_get xs idx (off + k) q x hu hq k3, ?_, k2⟩
      have h2 := (List.getElem?_eq_some_iff.1 k3).1
      rw [Nat.add_assoc, Nat.mul_comm, Nat.mul_add_div (by omega), Nat.div_eq_of_lt (by omega)]; omega
    have := nR (P := P) (w := w) (A := A) (μ := μ) ht (ad := ⟨b, idx * l.sz + off, none⟩) (cs := cs) (by rw [g1]; simp; omega) (fun k => f (idx * sz + off + k))
      (fun k u hk => by
        obtain ⟨x, k1, k2, _⟩ := key k u hk
        rw [gH, hsz]; exact (hc _ x k1 k2).1)
      (fun k u hk => by
        obtain ⟨x, k1, k2, k3⟩ := key k u hk
        have hD := (hc _ x k1 k2).2
        rcases k3 with ⟨hb, rfl⟩ | ⟨s, n, ys, rfl, rfl⟩
        · exact .c (aAD hb hD).nomem
        · obtain ⟨d, d1, d2, d3, _⟩ := hD
          rw [d3, ← d2]
          exact .dsl i idx (off + k) l d hl (by rw [hsz, ← Nat.add_assoc]; exact d1))
    simpa [Instr.loadAt, Instr.sureAddr] using this
  · exact h.elim
theorem aCP {t : TypeId} {ti : TI} (ht : sI P t ti) {i idx off s j o sz : Nat} {l : Loc} {es : List TypeId} {xs : List (List V)} {q : List V} {v : V} {pv : Value} (hp : Rv w A μ (.ip i idx off s j o) pv) (hl : μ i = some l) (hsz : l.sz = sz) (hu : ∀ p ∈ xs, p.length = sz)
    (hc : ∀ (u : V), q[off]? = some u → ∃ c, Dc w l es sz (idx * sz + off) u c) (h : rdI s ti.size ti.agg j o q[off]? (fun u => u = v)) :
    ∃ cv, (Instr.loadAt t pv).run P w = .ok cv w ∧ Rv w A μ v cv := by
  unfold rdI at h
  split at h
  · rename_i s' n ys e1
    split at h
    · rename_i hs
      have hs := Nat.eq_of_beq_eq_true hs
      subst hs
      obtain ⟨r, hr, h⟩ := h.out
      split at h
      · rename_i hb
        subst h
        have hle := Nat.le_of_ble_eq_true hb
        obtain ⟨l', d, b, h1, h2, h3, rfl⟩ := hp.ip_inv
        rw [hl] at h1; injection h1 with h1; subst h1
        obtain ⟨c, d', d1, _, _, d4⟩ := hc _ e1
        rw [hsz, d1] at h2; injection h2 with h2; subst h2
        obtain ⟨f, hf⟩ := jE d4
        have hul := d4.2.2.1
        have key : ∀ (k : Nat) (u : V), ((r.drop o).take ti.size)[k]? = some u → ys.flatten[j * s + o + k]? = some u := fun k u hk => by
          rw [Nat.add_assoc]; exact flat_get ys j (o + k) r u hul hr (iO hk)
        have := nR (P := P) (w := w) (A := A) (μ := μ) ht (ad := ⟨b, j * s + o, none⟩) (cs := (r.drop o).take ti.size) (by simp; omega) (fun k => f (j * s + o + k))
          (fun k u hk => by
            rw [gH]
            obtain ⟨b', hb', g1, _, _⟩ := hf _ u (key k u hk)
            obtain rfl : b' = b := by
              have : d'.b = some b' := hb'
              rw [h3] at this; injection this with e; exact e.symm
            exact g1)
          (fun k u hk => by obtain ⟨_, _, _, g2, _⟩ := hf _ u (key k u hk); exact .c g2.nomem)
        simpa [Instr.loadAt, Instr.sureAddr] using this
      · exact h.elim
    · exact h.elim
  · exact h.elim
theorem aBL {t : TypeId} {ti : TI} (ht : sI P t ti) (hm : Mok w A μ m) {p v : V} {pv : Value} (hp : Rv w A μ p pv) (h : rdP ck m ti.size ti.agg p (fun u => u = v)) :
    ∃ cv, (Instr.loadAt t pv).run P w = .ok cv w ∧ Rv w A μ v cv := by
  unfold rdP at h
  split at h
  · rename_i i off
    split at h
    · rename_i cs _ hi
      split at h
      · rename_i hb
        subst h
        obtain ⟨l, b, hl, hlb, rfl⟩ := hp.bp_inv
        obtain ⟨l', hl', ho⟩ := hm _ _ hi
        obtain rfl : l' = l := by rw [hl] at hl'; injection hl' with e; exact e.symm
        obtain ⟨b', f, hb', hc⟩ := aEA ho
        obtain rfl : b' = b := by rw [hlb] at hb'; injection hb' with e; exact e.symm
        have hle := Nat.le_of_ble_eq_true hb
        have := nR (P := P) (w := w) (A := A) (μ := μ) ht (ad := ⟨b', off, none⟩) (cs := (cs.drop off).take ti.size) (by simp; omega) (fun k => f (off + k))
          (fun k u hk => by rw [gH]; exact (hc _ u (iO hk)).1) (fun k u hk => (hc _ u (iO hk)).2)
        simpa [Instr.loadAt, Instr.sureAddr] using this
      · exact h.elim
    · exact h.elim
  · rename_i i idx off
    split at h
    · rename_i e sz xs _ hi
      obtain ⟨q, hq, h⟩ := h.out
      split at h
      · rename_i hb
        subst h
        obtain ⟨l, b, hl, hlb, rfl⟩ := hp.ep_inv
        obtain ⟨l', hl', ho⟩ := hm _ _ hi
        obtain rfl : l' = l := by rw [hl] at hl'; injection hl' with e; exact e.symm
        obtain ⟨hsz, hlen, hu, f, hc⟩ := vF ho
        have hle := Nat.le_of_ble_eq_true hb
        have key : ∀ (k : Nat) (u : V), ((q.drop off).take ti.size)[k]? = some u → xs.flatten[idx * l'.sz + off + k]? = some u := fun k u hk => by
          rw [hsz, Nat.add_assoc]; exact flat_get xs idx (off + k) q u hu hq (iO hk)
        have := nR (P := P) (w := w) (A := A) (μ := μ) ht (ad := ⟨b, idx * l'.sz + off, none⟩) (cs := (q.drop off).take ti.size) (by simp; omega) (fun k => f (idx * l'.sz + off + k))
          (fun k u hk => by
            rw [gH]
            obtain ⟨b', hb', h1, _, _⟩ := hc _ u (key k u hk)
            obtain rfl : b' = b := by rw [hlb] at hb'; injection hb' with e; exact e.symm
            exact h1)
          (fun k u hk => by obtain ⟨_, _, _, h2, _⟩ := hc _ u (key k u hk); exact .c h2)
        simpa [Instr.loadAt, Instr.sureAddr] using this
      · exact h.elim
    · rename_i e sz es xs _ hi
      obtain ⟨q, hq, h⟩ := h.out
      obtain ⟨l, b, hl, hlb, rfl⟩ := hp.ep_inv
      obtain ⟨l', hl', ho⟩ := hm _ _ hi
      obtain rfl : l' = l := by rw [hl] at hl'; injection hl' with e; exact e.symm
      obtain ⟨f, hc⟩ := jE ho.2
      exact aBP ht hl hlb ho.2.1 ho.2.2.2.1 f (fun j u hu hjd => by
        obtain ⟨b', hb', g1, g2, _⟩ := hc j u hu
        obtain rfl : b' = b := by rw [hlb] at hb'; injection hb' with e; exact e.symm
        exact ⟨g1, g2⟩) hq h
    · rename_i e sz es xs k0 _ hi
      obtain ⟨q, hq, h⟩ := h.out
      obtain ⟨hk0, h⟩ := h.out
      obtain ⟨l, b, hl, hlb, rfl⟩ := hp.ep_inv
      obtain ⟨l', hl', ho⟩ := hm _ _ hi
      obtain rfl : l' = l := by rw [hl] at hl'; injection hl' with e; exact e.symm
      obtain ⟨f, hc⟩ := jE ho.2
      exact aBP ht hl hlb ho.2.1 ho.2.2.2.1 f (fun j u hu hjd => by
        obtain ⟨b', hb', g1, g2, _⟩ := hc j u hu
        obtain rfl : b' = b := by rw [hlb] at hb'; injection hb' with e; exact e.symm
        exact ⟨g1, g2.resolve_left (by omega)⟩) hq h
    · exact h.elim
  · rename_i i idx off s j o
    split at h
    · rename_i e sz es xs _ hi
      obtain ⟨q, hq, h⟩ := h.out
      obtain ⟨l', hl', ho⟩ := hm _ _ hi
      obtain ⟨f, hc⟩ := jE ho.2
      exact aCP ht hp hl' ho.2.1 ho.2.2.2.1 (fun u hu => by
        obtain ⟨_, _, _, g2, _⟩ := hc _ _ (flat_get xs idx off q u ho.2.2.2.1 hq hu)
        exact ⟨_, g2⟩) h
    · rename_i e sz es xs k0 _ hi
      obtain ⟨q, hq, h⟩ := h.out
      obtain ⟨hk0, h⟩ := h.out
      obtain ⟨l', hl', ho⟩ := hm _ _ hi
      obtain ⟨f, hc⟩ := jE ho.2
      have hu := ho.2.2.2.1
      exact aCP ht hp hl' ho.2.1 hu (fun u hu2 => by
        obtain ⟨_, _, _, g2, _⟩ := hc _ _ (flat_get xs idx off q u hu hq hu2)
        refine ⟨_, g2.resolve_left ?_⟩
        have h1 : q.length = sz := hu q (List.mem_of_getElem? hq)
        have h2 := (List.getElem?_eq_some_iff.1 hu2).1
        rw [Nat.mul_comm, Nat.mul_add_div (by omega), Nat.div_eq_of_lt (by omega)]
        omega) h
    · exact h.elim
  · split at h
    · rename_i cs _ hb
      subst h
      obtain ⟨ad, f, rfl, hA, h1, h2⟩ := hp.rp_inv
      have hle := Nat.le_of_ble_eq_true hb
      have key : ∀ (k : Nat) (u : V), (cs.take ti.size)[k]? = some u → cs[k]? = some u := fun k u hk => by
        rw [List.getElem?_take] at hk
        split at hk
        · exact hk
        · cases hk
      have := nR (P := P) (w := w) (A := A) (μ := μ) ht (ad := ad) (cs := cs.take ti.size) (by simp; omega) f (fun k u hk => h1 k u (key k u hk)) (fun k u hk => .c (h2 k u (key k u hk)))
      simpa [Instr.loadAt, Instr.sureAddr] using this
    · exact h.elim
  · exact h.elim
end
end Go.Aw
set_option linter.unusedVariables false
namespace Go.Aw
section
variable {P : Program} {T : TypeId → Option TI} {ck : Nat → Bool} {ev : Operand → V} {ρ : Operand → Value} {m : Nat → Option Ob} {w : World} {A : Nat → Prop} {μ : Nat → Option Loc}
theorem lV : ∀ x : List UInt8, Op.bytesLess x x = false
  | [] => rfl
  | a :: x => by simp [Op.bytesLess, lV x]
theorem mI : ∀ x y : List UInt8, Op.bytesLess x y = true → Op.bytesLess y x = false
  | [], [], _ => rfl
  | [], _ :: _, _ => rfl
  | _ :: _, [], h => by simp [Op.bytesLess] at h
  | a :: x, b :: y, h => by
    simp only [Op.bytesLess, Bool.or_eq_true, Bool.and_eq_true, decide_eq_true_eq, beq_iff_eq] at h
    simp only [Op.bytesLess, Bool.or_eq_false_iff, Bool.and_eq_false_iff, decide_eq_false_iff_not, beq_eq_false_iff_ne]
    rcases h with h | ⟨rfl, h⟩
    · exact ⟨UInt8.lt_asymm h, .inl (fun e => by subst e; exact UInt8.lt_irrefl _ h)⟩
    · exact ⟨UInt8.lt_irrefl _, .inr (mI x y h)⟩
theorem rB : ∀ x y : List UInt8, Op.bytesLess x y = true ∨ x = y ∨ Op.bytesLess y x = true
  | [], [] => .inr (.inl rfl)
  | [], _ :: _ => .inl rfl
  | _ :: _, [] => .inr (.inr rfl)
  | a :: x, b :: y => by
    simp only [Op.bytesLess, Bool.or_eq_true, Bool.and_eq_true, decide_eq_true_eq, beq_iff_eq, List.cons.injEq]
    rcases UInt8.lt_or_lt_of_ne (a := a) (b := b) |> fun f => (Classical.em (a = b)).imp id f with rfl | h | h
    · rcases rB x y with q | rfl | q
      · exact .inl (.inr ⟨rfl, q⟩)
      · exact .inr (.inl ⟨rfl, rfl⟩)
      · exact .inr (.inr (.inr ⟨rfl, q⟩))
    · exact .inl (.inl h)
    · exact .inr (.inr (.inl h))
theorem aAC (x y : List UInt8) : (!(Op.bytesLess x y || x == y)) = Op.bytesLess y x := by
  rcases rB x y with h | h | h
  · rw [h, mI _ _ h]; rfl
  · subst h; rw [lV]; simp
  · rw [h, mI _ _ h, Bool.false_or, Bool.not_eq_true', beq_eq_false_iff_ne]
    intro e; subst e; rw [lV] at h; cases h
theorem aCZ (k : IntKind) (n : Int) : k.wrap n = wr k n := by
  cases k <;> try rfl
  show IntKind.wrap .i64 n = RowKit.wrap64 n
  unfold RowKit.wrap64
  exact IntKind.wrap_i64 n
theorem aHL {t : TypeId} {op : BinOp} {kd : IntKind} {a b : Int} {v : V} (h : aBD op kd a b (fun u => u = v)) : ∃ cv, (binOp op t (.int kd a) (.int kd b)).run P w = .ok cv w ∧ Rv w A μ v cv := by
  by_cases e : op = .xor
  · subst e; simp only [aBD] at h; subst h; exact ⟨.int kd (aBC kd a b), by rw [show binOp .xor t (.int kd a) (.int kd b) = Op.intBits .xor kd a b by simp [binOp]]; rfl, .c (.int _ _)⟩
  cases op <;> simp only [aBD, aFA] at h <;> first
    | exact absurd rfl e
    | exact h.elim
    | (subst h; exact ⟨_, by simp [binOp, Op.intArith, aCZ], .c (.int _ _)⟩)
    | (subst h; refine ⟨_, by simp [binOp, Op.intCmp]; rfl, ?_⟩; exact .c (.bool _))
    | (obtain ⟨h0, rfl⟩ := h.out; exact ⟨_, by simp [binOp, Op.intDiv, h0, aCZ], .c (.int _ _)⟩)
theorem aHE {t : TypeId} {op : BinOp} {a b : ByteArray} {v : V} (h : aEC op a b (fun u => u = v)) : ∃ cv, (binOp op t (.string a) (.string b)).run P w = .ok cv w ∧ Rv w A μ v cv := by
  have he : (a.toList == b.toList) = decide (a.toList = b.toList) := by rw [Bool.eq_iff_iff]; simp
  unfold aEC at h
  split at h
  · obtain ⟨h0, rfl⟩ := h.out
    have hn : ¬ (9223372036854775807 : Int) < (a.size : Int) + (b.size : Int) := by omega
    exact ⟨_, by simp [binOp, Op.stringOp, hn], .c (.str _)⟩
  · subst h; exact ⟨_, by simp [binOp, Op.stringOp, he], .c (.bool _)⟩
  · subst h; exact ⟨_, by simp [binOp, Op.stringOp, he], .c (.bool _)⟩
  · subst h; exact ⟨_, by simp [binOp, Op.stringOp], .c (.bool _)⟩
  · subst h; exact ⟨_, by simp [binOp, Op.stringOp], .c (.bool _)⟩
  · subst h
    rw [← aAC]
    exact ⟨_, by simp [binOp, Op.stringOp], .c (.bool _)⟩
  · subst h
    rw [← aAC, Bool.not_not]
    exact ⟨_, by simp [binOp, Op.stringOp], .c (.bool _)⟩
  · exact h.elim
theorem aFS {n : Nat} {u v : V} {c d : Value} {b : Bool} (hc : Rv w A μ u c) (hd : Rv w A μ v d) (h : aLN n u v = some b) : aET n c d = some b := by
  unfold aLN at h
  split at h
  · split at h
    · rename_i hk
      have hk := of_decide_eq_true hk
      subst hk
      rw [hc.int_inv, hd.int_inv]; simpa [aET] using h
    · cases h
  · rw [hc.str_inv, hd.str_inv]; exact h
  · rw [hc.bool_inv, hd.bool_inv]; exact h
  · cases h
theorem zK : ∀ (ns : List Nat) (us vs : List V) (cs ds : List Value) {b : Bool}, cs.length = us.length → ds.length = vs.length →
    (∀ (i : Nat) (u : V) (c : Value), us[i]? = some u → cs[i]? = some c → Rv w A μ u c) → (∀ (i : Nat) (u : V) (c : Value), vs[i]? = some u → ds[i]? = some c → Rv w A μ u c) → aEF ns us vs = some b → qS ns cs ds = some b
  | [], [], [], cs, ds, b, hc, hd, _, _, h => by
    rw [List.length_eq_zero_iff.1 hc, List.length_eq_zero_iff.1 hd]; exact h
  | n :: ns, u :: us, v :: vs, c :: cs, d :: ds, b, hc, hd, h1, h2, h => by
    simp only [aEF] at h
    split at h
    · rename_i p q e1 e2
      simp only [qS, aFS (h1 0 u c rfl rfl) (h2 0 v d rfl rfl) e1, zK ns us vs cs ds (by simpa using hc) (by simpa using hd) (fun i u c h3 h4 => h1 (i + 1) u c (by simpa using h3) (by simpa using h4)) (fun i u c h3 h4 => h2 (i + 1) u c (by simpa using h3) (by simpa using h4)) e2]
      exact h
    · cases h
  | [], [], _ :: _, _, _, _, _, _, _, _, h => by cases h
  | [], _ :: _, _, _, _, _, _, _, _, _, h => by cases h
  | _ :: _, [], _, _, _, _, _, _, _, _, h => by cases h
  | _ :: _, _ :: _, [], _, _, _, _, _, _, _, h => by cases h
  | _ :: _, _ :: _, _ :: _, [], _, _, hc, _, _, _, _ => by cases hc
  | _ :: _, _ :: _, _ :: _, _ :: _, [], _, _, hd, _, _, _ => by cases hd
theorem aJH {o : Oper} {op : BinOp} {t ty : TypeId} {x y : Operand} (ho : o.op = .binOp op t x y ty) (hev : ∀ x, Rv w A μ (ev x) (ρ x)) {isb : Bool} {eqk : List Nat} (hb : isb = true → P.underlying t = some .bool)
    (heq : eqk ≠ [] → P.eqGuardType P.depth t = false ∧ ∀ (w : World) (xs ys : Array Value) (b : Bool), qS eqk xs.toList ys.toList = some b → (Op.equal t (.agg xs) (.agg ys)).run P w = .ok b w)
    {v : V} (h : bin isb eqk op (ev x) (ev y) (fun u => u = v)) :
    ∃ cv, (execOp ρ o).run P w = .ok (.value cv) w ∧ Rv w A μ v cv := by
  have hx := hev x
  have hy := hev y
  have hgo : ∀ c d : Value, ρ x = c → ρ y = d → (∀ cs, c ≠ .agg cs) → (c ≠ .nilIface) → ∀ cv, (binOp op t c d).run P w = .ok cv w → (execOp ρ o).run P w = .ok (.value cv) w := fun c d hc hd h1 h2 cv hr => by
    have hg : (eqGuard op t x y c d).run P w = .ok () w := by
      unfold eqGuard
      cases c <;> first | exact absurd rfl h2 | exact absurd rfl (h1 _) | (cases op <;> rfl)
    simp [execOp, ho, hc, hd, hg, hr]
  unfold bin at h
  split at h
  · rename_i us vs e1 e2
    rw [e1] at hx; rw [e2] at hy
    obtain ⟨cs, hc, hcl, hc1⟩ := hx.agg_inv
    obtain ⟨ds, hd, hdl, hd1⟩ := hy.agg_inv
    have hE : ∀ {b}, eqk ≠ [] → aEF eqk us vs = some b → (eqGuard op t x y (.agg cs) (.agg ds)).run P w = .ok () w ∧ (Op.equal t (.agg cs) (.agg ds)).run P w = .ok b w := fun hne he =>
      ⟨run_eqGuard_agg w op t x y cs ds (heq hne).1, (heq hne).2 w cs ds _ (zK eqk us vs cs.toList ds.toList (by simpa using hcl) (by simpa using hdl) (fun i u c h1 h2 => hc1 i u c h1 (by simpa using h2)) (fun i u c h1 h2 => hd1 i u c h1 (by simpa using h2)) he)⟩
    split at h
    · split at h
      · rename_i b he; subst h
        obtain ⟨hg, hq⟩ := hE (by simp) he
        exact ⟨.bool b, by simp [execOp, ho, hc, hd, hg, binOp, hq], .c (.bool _)⟩
      · exact h.elim
    · split at h
      · rename_i b he; subst h
        obtain ⟨hg, hq⟩ := hE (by simp) he
        exact ⟨.bool (!b), by simp [execOp, ho, hc, hd, hg, binOp, hq], .c (.bool _)⟩
      · exact h.elim
    · exact h.elim
  · rename_i ka a kb b e1 e2
    rw [e1] at hx; rw [e2] at hy
    split at h
    · rename_i hk
      have hk := of_decide_eq_true hk
      subst hk
      obtain ⟨cv, h1, h2⟩ := aHL (P := P) (w := w) (A := A) (μ := μ) (t := t) h
      exact ⟨cv, hgo _ _ hx.int_inv hy.int_inv (fun _ e => by cases e) (fun e => by cases e) cv h1, h2⟩
    · exact h.elim
  · rename_i a b e1 e2
    rw [e1] at hx; rw [e2] at hy
    obtain ⟨cv, h1, h2⟩ := aHE (P := P) (w := w) (A := A) (μ := μ) (t := t) h
    exact ⟨cv, hgo _ _ hx.str_inv hy.str_inv (fun _ e => by cases e) (fun e => by cases e) cv h1, h2⟩
  · rename_i a b e1 e2
    rw [e1] at hx; rw [e2] at hy
    have hh : ∀ cv, (binOp op t (.bool a) (.bool b)).run P w = .ok cv w → (execOp ρ o).run P w = .ok (.value cv) w := fun cv hr => hgo _ _ hx.bool_inv hy.bool_inv (fun _ e => by cases e) (fun e => by cases e) cv hr
    have hq : isb = true → (Op.equal t (.bool a) (.bool b)).run P w = .ok (a == b) w := fun e => by
      have h1 : (Op.equalIn (9999 + 1) t (.bool a) (.bool b)).run P w = .ok (a == b) w := by
        unfold Op.equalIn
        simp only [Sem.run_bind, run_underlying (hb e), Result.andThen_ok]
        rfl
      exact h1
    split at h
    · subst h; exact ⟨_, hh (.bool (a == b)) (by simp only [binOp, Sem.run_bind, hq rfl, Result.andThen_ok]; rfl), .c (.bool _)⟩
    · subst h; exact ⟨_, hh (.bool (!(a == b))) (by simp only [binOp, Sem.run_bind, hq rfl, Result.andThen_ok]; rfl), .c (.bool _)⟩
    · exact h.elim
  · exact h.elim
end
end Go.Aw
set_option linter.unusedVariables false
namespace Go.Aw
section
variable {P : Program} {T : TypeId → Option TI} {ck : Nat → Bool} {ev : Operand → V} {ρ : Operand → Value} {m : Nat → Option Ob} {w : World} {A : Nat → Prop} {μ : Nat → Option Loc}
theorem aHN {t : TypeId} {ti : TI} (ht : sI P t ti) {cs : List V} {arr : Array Value} {off : Nat} (hl : arr.size = cs.length) (hle : off + ti.size ≤ cs.length)
    (h : ∀ (i : Nat) (x : V) (c : Value), cs[i]? = some x → arr[i]? = some c → Rv w A μ x c) : ∃ cv, (part t arr off).run P w = .ok cv w ∧ Rv w A μ (mkv ti.agg ((cs.drop off).take ti.size)) cv := by
  unfold part
  simp only [Sem.run_bind, vY ht, Result.andThen_ok]
  cases hb : ti.agg with
  | true =>
    refine ⟨.agg (arr.extract off (off + ti.size)), by simp [jM ht], ?_⟩
    refine .agg _ _ (by simp; omega) (fun i x c hi hc => ?_)
    rw [Array.getElem?_extract] at hc
    split at hc
    · exact h _ x c (iO hi) hc
    · cases hc
  | false =>
    have h1 := ht.one hb
    rw [h1] at hle
    have hlt : off < arr.size := by omega
    have e1 : arr[off]? = some arr[off] := by simp [hlt]
    have e2 : cs[off]? = some cs[off] := by simp
    refine ⟨arr[off], by simp [e1], ?_⟩
    have e3 : mkv false ((cs.drop off).take ti.size) = cs[off] := by
      rw [h1, List.drop_eq_getElem_cons (by omega)]; rfl
    rw [e3]
    exact h off _ _ e2 e1
theorem kD {x : V} {v : Value} (h : Rv w A μ x v) (hn : x.cells.length ≠ 0) : v.cells.size = x.cells.length ∧ ∀ (i : Nat) (u : V) (c : Value), x.cells[i]? = some u → v.cells[i]? = some c → Rv w A μ u c := by
  have one : ∀ {y : V} {u : Value}, Rv w A μ y u → ∀ (i : Nat) (z : V) (c : Value), [y][i]? = some z → #[u][i]? = some c → Rv w A μ z c := fun {y u} hy i z c hz hc => by
    have hi0 : i = 0 := by
      have := (List.getElem?_eq_some_iff.1 hz).1; simp at this; exact this
    subst hi0
    simp at hz hc
    subst hz; subst hc
    exact hy
  cases h with
  | c h => cases h <;> first | exact absurd rfl hn | exact ⟨rfl, one (.c (by constructor <;> assumption))⟩
  | agg xs cs hl h => exact ⟨hl, h⟩
  | tup xs cs hl h => exact absurd rfl hn
  | own i l h => exact ⟨rfl, one (.own i l h)⟩
  | bp i off l b h hb => exact ⟨rfl, one (.bp i off l b h hb)⟩
  | ep i j off l b h hb => exact ⟨rfl, one (.ep i j off l b h hb)⟩
  | cf f i l b h hb => exact ⟨rfl, one (.cf f i l b h hb)⟩
  | dsl i idx off l d h hd => exact absurd rfl hn
  | ip i idx off s j o l d b h hd hb => exact ⟨rfl, one (.ip i idx off s j o l d b h hd hb)⟩
  | mp i l b h hb => exact ⟨rfl, one (.mp i l b h hb)⟩
  | ifs t i l h => exact ⟨rfl, one (.ifs t i l h)⟩
def Rep (w : World) (A : Nat → Prop) (μ : Nat → Option Loc) (cs : List V) (arr : Array Value) : Prop := arr.size = cs.length ∧ ∀ (i : Nat) (u : V) (c : Value), cs[i]? = some u → arr[i]? = some c → Rv w A μ u c
theorem gE {α : Type} {cs vs : List α} {off : Nat} (h : off + vs.length ≤ cs.length) : (iI cs off vs).length = cs.length := by simp [iI]; omega
theorem fN {α : Type} {cs vs : List α} {off : Nat} (h : off + vs.length ≤ cs.length) (k : Nat) : (iI cs off vs)[k]? = if off ≤ k ∧ k < off + vs.length then vs[k - off]? else cs[k]? := by
  unfold iI
  by_cases h1 : k < off
  · rw [if_neg (by omega), List.append_assoc, List.getElem?_append_left (by simp; omega), List.getElem?_take, if_pos h1]
  · by_cases h2 : k < off + vs.length
    · rw [if_pos ⟨by omega, h2⟩, List.getElem?_append_left (by simp; omega), List.getElem?_append_right (by simp; omega)]
      congr 1; simp; omega
    · rw [if_neg (by omega), List.getElem?_append_right (by simp; omega), List.getElem?_drop]
      congr 1; simp; omega
theorem Rep.set {cs vs : List V} {arr : Array Value} {off : Nat} {v : Value} (h : Rep w A μ cs arr) (hv : v.cells.size = vs.length) (hr : ∀ (i : Nat) (u : V) (c : Value), vs[i]? = some u → v.cells[i]? = some c → Rv w A μ u c) (hle : off + vs.length ≤ cs.length) :
    Rep w A μ (iI cs off vs) (v.cells.zipIdx.foldl (fun cs (c, j) => cs.setIfInBounds (off + j) c) arr) := by
  obtain ⟨g1, g2⟩ := Great.foldl_set off v.cells.toList 0 arr
  have e : v.cells.zipIdx.foldl (fun cs (x : Value × Nat) => cs.setIfInBounds (off + x.2) x.1) arr = (v.cells.toList.zipIdx 0).foldl (fun cs (x : Value × Nat) => cs.setIfInBounds (off + x.2) x.1) arr := by
    rw [← Array.foldl_toList, Array.toList_zipIdx]
  show Rep w A μ _ (v.cells.zipIdx.foldl (fun cs (x : Value × Nat) => cs.setIfInBounds (off + x.2) x.1) arr)
  rw [e]
  refine ⟨by rw [g1, h.1, gE hle], fun i u c hi hc => ?_⟩
  rw [g2] at hc
  rw [fN hle] at hi
  simp only [Nat.add_zero, Array.length_toList, hv] at hc
  by_cases c1 : off ≤ i ∧ i < off + vs.length
  · rw [if_pos c1] at hi
    rw [if_pos ⟨c1.1, c1.2, by rw [h.1]; omega⟩] at hc
    exact hr _ u c hi (by simpa using hc)
  · rw [if_neg c1] at hi
    rw [if_neg (by omega)] at hc
    exact h.2 i u c hi hc
theorem zF {pl : Nat → Option (Nat × Nat)} {plc : List (Nat × Nat)} (hpl : ∀ (i : Nat) (p : Nat × Nat), plc[i]? = some p → pl i = some p) (hev : ∀ x, Rv w A μ (ev x) (ρ x)) :
    ∀ (l : List (Nat × Operand)) (cs cs' : List V) (arr : Array Value), Rep w A μ cs arr → pI ev plc cs l = some cs' → ∃ arr', Instr.fill pl arr (l.map fun x => (x.1, ρ x.2)) = some arr' ∧ Rep w A μ cs' arr'
  | [], cs, cs', arr, hr, h => by
    simp only [pI] at h; injection h with h; subst h
    exact ⟨arr, rfl, hr⟩
  | (i, x) :: l, cs, cs', arr, hr, h => by
    simp only [pI] at h
    split at h
    · rename_i off sz hp
      split at h
      · rename_i e1 e2 e3
        have hlen := Nat.eq_of_beq_eq_true e1
        have hle := Nat.le_of_ble_eq_true e2
        have hpos := Nat.le_of_ble_eq_true e3
        obtain ⟨h1, h2⟩ := kD (hev x) (by omega)
        have hr' := hr.set (off := off) (v := ρ x) (vs := (ev x).cells) h1 h2 (by omega)
        obtain ⟨arr', h3, h4⟩ := zF hpl hev l _ cs' _ hr' h
        refine ⟨arr', ?_, h4⟩
        simp only [List.map_cons, Instr.fill, hpl _ _ hp]
        rw [if_neg (by simp [h1, hlen, hr.1]; omega)]
        exact h3
      · cases h
    · cases h
theorem mJ {s : TypeId} {ti : TI} (ht : sI P s ti) {f off : Nat} {ft : TypeId} (hf : ti.flds[f]? = some (off, ft)) (ad : Addr) : (Instr.fieldAt s (.pointer (some ad)) f).run P w = .ok (.pointer (some (ad.add off))) w := by
  obtain ⟨d, hd, _, _, hfl, _⟩ := ht.desc
  obtain ⟨fs, fl, rfl, h1, h2, h3, fi, h4, h5⟩ := hfl f off ft hf
  subst h2; subst h3
  simp [Instr.fieldAt, run_underlying hd, h1, Instr.sureAddr, fieldPlace, sizeOf, typeInfo, h4, h5]
theorem qD {α : Type} {cs : List α} {off k : Nat} {u : α} (h : (cs.drop off)[k]? = some u) : cs[off + k]? = some u := by rwa [List.getElem?_drop] at h
theorem add_add (a : Addr) (i j : Nat) : (a.add i).add j = a.add (i + j) := by
  unfold Addr.add
  by_cases h1 : i = 0 <;> by_cases h2 : j = 0 <;> simp [h1, h2, Nat.add_assoc]
theorem aHK (a : Addr) (i j : Nat) : (a.add i).add j = a.add (i + j) := add_add a i j
theorem vR {sz : Nat} : ∀ (xs : List (List V)) (k : Nat) (u : V), (∀ p ∈ xs, p.length = sz) → xs.flatten[k]? = some u → ∃ p, xs[k / sz]? = some p ∧ p[k % sz]? = some u
  | [], k, u, _, h => by simp at h
  | q :: xs, k, u, hu, h => by
    have hq : q.length = sz := hu q (List.mem_cons_self ..)
    rw [List.flatten_cons] at h
    by_cases c : k < sz
    · rw [List.getElem?_append_left (by omega)] at h
      exact ⟨q, by rw [Nat.div_eq_of_lt c]; rfl, by rw [Nat.mod_eq_of_lt c]; exact h⟩
    · rw [List.getElem?_append_right (by omega), hq] at h
      obtain ⟨p, h1, h2⟩ := vR xs (k - sz) u (fun p hp => hu p (List.mem_cons_of_mem _ hp)) h
      by_cases h0 : sz = 0
      · subst h0
        have hl : p.length = 0 := hu p (List.mem_cons_of_mem _ (List.mem_of_getElem? h1))
        have hp0 : p = [] := List.length_eq_zero_iff.1 hl
        subst hp0
        simp at h2
      · rw [Nat.div_eq_sub_div (by omega) (by omega), Nat.mod_eq_sub_mod (by omega)]
        exact ⟨p, by simpa using h1, h2⟩
theorem aJQ {x y : V} {a b : Value} {v : V} (ats : Array TypeId) (ty : TypeId) (hx : Rv w A μ x a) (hy : Rv w A μ y b) (h : mxV x y (fun u => u = v)) : ∃ cv, (Builtin.max_ ats ty #[a, b]).run P w = .ok cv w ∧ Rv w A μ v cv := by
  unfold mxV at h
  split at h
  · split at h
    · rename_i hk
      have hk := of_decide_eq_true hk
      subst hk; subst h
      refine ⟨_, ?_, .c (.int _ _)⟩
      simp [Builtin.max_, Builtin.max2, hx.int_inv, hy.int_inv, mx]
    · exact h.elim
  · subst h
    rename_i s t
    refine ⟨.string (mxS s t), ?_, .c (.str _)⟩
    simp only [Builtin.max_, hx.str_inv, hy.str_inv, List.foldlM_cons, List.foldlM_nil, Builtin.max2]
    cases hb : Op.bytesLess s.toList t.toList <;> simp [Op.stringOp, asBool, hb, mxS]
  · exact h.elim
theorem aJN {x y : V} {a b : Value} {v : V} (ats : Array TypeId) (ty : TypeId) (hx : Rv w A μ x a) (hy : Rv w A μ y b) (h : mnV x y (fun u => u = v)) : ∃ cv, (Builtin.min_ ats ty #[a, b]).run P w = .ok cv w ∧ Rv w A μ v cv := by
  unfold mnV at h
  split at h
  · split at h
    · rename_i hk
      have hk := of_decide_eq_true hk
      subst hk; subst h
      refine ⟨_, ?_, .c (.int _ _)⟩
      simp [Builtin.min_, Builtin.min2, hx.int_inv, hy.int_inv, mn]
    · exact h.elim
  · subst h
    rename_i s t
    refine ⟨.string (mnS s t), ?_, .c (.str _)⟩
    simp only [Builtin.min_, hx.str_inv, hy.str_inv, List.foldlM_cons, List.foldlM_nil, Builtin.min2]
    have e := aAC s.toList t.toList
    cases hb : Op.bytesLess t.toList s.toList <;> rw [hb] at e <;> simp only [Bool.not_eq_true', Bool.not_eq_false', Bool.or_eq_true, Bool.or_eq_false_iff] at e <;> simp_all [Op.stringOp, asBool, mnS]
  · exact h.elim
theorem tG : ∀ (xs : List (List V)) (bs : List UInt8), tE xs = some bs → ∃ ns : List Int, xs = ns.map (fun n => [V.int .u8 n]) ∧ bs = ns.map (fun n => UInt8.ofNat n.toNat)
  | [], bs, h => by simp [tE] at h; subst h; exact ⟨[], rfl, rfl⟩
  | [.int .u8 n] :: l, bs, h => by
    simp only [tE] at h
    split at h
    · rename_i b hb
      injection h with h; subst h
      obtain ⟨ns, rfl, rfl⟩ := tG l b hb
      exact ⟨n :: ns, rfl, rfl⟩
    · cases h
theorem aGI (ns : List Int) : ∀ s : ByteArray, ns.foldl (fun r n => r.push (UInt8.ofNat n.toNat)) s = ⟨s.data ++ (ns.map (fun n => UInt8.ofNat n.toNat)).toArray⟩ := by
  induction ns with
  | nil => intro s; simp
  | cons n ns ih =>
    intro s
    rw [List.foldl_cons, ih]
    apply ByteArray.ext
    simp [ByteArray.push]
theorem aDF {sz l : Nat} (xs : List (List V)) (hu : ∀ p ∈ xs, p.length = sz) (h : Nat) (k : Nat) (u : V) (hk : ((xs.take h).drop l).flatten[k]? = some u) : xs.flatten[l * sz + k]? = some u := by
  obtain ⟨p, h1, h2⟩ := vR _ k u (fun p hp => hu p (List.mem_of_mem_take (List.mem_of_mem_drop hp))) hk
  rw [List.getElem?_drop, List.getElem?_take] at h1
  split at h1
  · have := flat_get xs (l + k / sz) (k % sz) p u hu h1 h2
    rw [show (l + k / sz) * sz + k % sz = l * sz + k by rw [Nat.add_mul, Nat.add_assoc, Nat.mul_comm (k / sz), Nat.div_add_mod]] at this
    exact this
  · cases h1
theorem pV {sz n l h cap : Nat} {xs : List (List V)} {a : Option Addr} (hr : Rv w A μ (.sl sz n xs) (.slice a n cap)) (h1 : l ≤ h) (h2 : h ≤ n) : Rv w A μ (.sl sz (h - l) ((xs.take h).drop l)) (sliced a l h cap sz) := by
  obtain ⟨ao, cap', f, hnn, hv, hc, hu, g0, g1, g2, g3⟩ := hr.sl_inv
  injection hv with hv1 hv2 hv3
  subst hv1; subst hv3
  unfold sliced
  have key : ∀ (k : Nat) (u : V), ((xs.take h).drop l).flatten[k]? = some u → xs.flatten[l * sz + k]? = some u := fun k u hk => aDF xs hu h k u hk
  have hne : ∀ {k : Nat} {u : V}, ((xs.take h).drop l).flatten[k]? = some u → cap ≠ l := fun {k u} hk e => by
    have : (xs.take h).drop l = [] := List.drop_eq_nil_of_le (by simp; omega)
    rw [this] at hk; simp at hk
  refine .c (.sl sz _ _ (by simp; omega) _ _ (fun k => f (l * sz + k)) (by simp; omega) (fun p hp => hu p (List.mem_of_mem_take (List.mem_of_mem_drop hp))) (fun hq => ?_) (fun ad k u ha hk => ?_) (fun k u hk => g2 _ u (key k u hk)) (fun k u hk => g3 _ u (key k u hk)))
  · obtain ⟨ad, e, hA⟩ := g0 (fun e => by subst e; simp at hq)
    subst e
    split
    · exact ⟨ad, rfl, hA⟩
    · exact ⟨ad.add (l * sz), rfl, by rw [kL]; exact hA⟩
  · rw [if_neg (hne hk)] at ha
    cases a with
    | none => cases ha
    | some ad' =>
      injection ha with ha; subst ha
      rw [aHK]; exact g1 _ _ u rfl (key k u hk)
theorem aIK {o : Oper} (hT : TOk P T) (hev : ∀ x, Rv w A μ (ev x) (ρ x)) (hm : Mok w A μ m) {v : V} (h : opv T ck ev m o.op (fun u => u = v)) :
    ∃ cv, (execOp ρ o).run P w = .ok (.value cv) w ∧ Rv w A μ v cv := by
  cases ho : o.op <;> rw [ho] at h <;> simp only [opv] at h
  case move x => subst h; exact ⟨_, by simp [execOp, ho], hev x⟩
  case assign x => subst h; exact ⟨_, by simp [execOp, ho], hev x⟩
  case pick c a b =>
    split at h
    · rename_i t e
      have hc := hev c; rw [e] at hc; have hc := hc.bool_inv
      cases t with
      | true => have h := h.out.1 rfl; subst h; exact ⟨_, by simp [execOp, ho, hc, asBool], hev a⟩
      | false => have h := h.out.2 rfl; subst h; exact ⟨_, by simp [execOp, ho, hc, asBool], hev b⟩
    · exact h.elim
  case nilCheck x =>
    split at h
    · rename_i i off e
      subst h; have hx := hev x; rw [e] at hx
      obtain ⟨l, b, _, _, hv⟩ := hx.bp_inv
      exact ⟨_, by simp [execOp, ho, hv], hv ▸ hx⟩
    · rename_i i j off e
      subst h; have hx := hev x; rw [e] at hx
      obtain ⟨l, b, _, _, hv⟩ := hx.ep_inv
      exact ⟨_, by simp [execOp, ho, hv], hv ▸ hx⟩
    · rename_i cs e
      subst h; have hx := hev x; rw [e] at hx
      obtain ⟨ad, f, hv, _⟩ := hx.rp_inv
      exact ⟨_, by simp [execOp, ho, hv], hv ▸ hx⟩
    · rename_i e
      subst h; have hx := hev x; rw [e] at hx
      obtain ⟨l, d, b, _, _, _, hv⟩ := hx.ip_inv
      exact ⟨_, by simp [execOp, ho, hv], hv ▸ hx⟩
    · exact h.elim
  case load t x =>
    split at h
    · rename_i ti ht
      obtain ⟨cv, h1, h2⟩ := aBL (hT _ _ ht) hm (hev x) h
      exact ⟨cv, by simp [execOp, ho, h1], h2⟩
    · exact h.elim
  case build t parts =>
    split at h
    · rename_i ti ht
      split at h
      · rename_i cs hag hf
        subst h
        have hti := hT _ _ ht
        obtain ⟨z, pl, hz, hpl, hb⟩ := hti.bld hag
        obtain ⟨arr, h1, h2⟩ := zF (w := w) (A := A) (μ := μ) hpl hev parts.toList ti.zero cs z.cells ⟨by rw [← hz]; simp, fun i u c hi hc => by
          rw [← hz] at hi; simp at hi hc
          obtain ⟨c', hc', rfl⟩ := hi
          rw [hc] at hc'; injection hc' with hc'; subst hc'
          exact aGN w A μ c⟩ hf
        have hrun := run_build w t (parts.map fun (i, x) => (i, ρ x)) arr (by rw [hb, Array.toList_map]; exact h1)
        exact ⟨.agg arr, by simp [execOp, ho, hrun], .agg _ _ h2.1 h2.2⟩
      · exact h.elim
    · exact h.elim
  case fieldAddr t x f =>
    split at h
    · rename_i ti ht
      split at h
      · rename_i off ft hf
        split at h
        · rename_i i o' e
          subst h; have hx := hev x; rw [e] at hx
          obtain ⟨l, b, h1, h2, hv⟩ := hx.bp_inv
          refine ⟨_, by simp [execOp, ho, hv, mJ (hT _ _ ht) hf]; rfl, ?_⟩
          rw [gH]; exact .bp _ _ l b h1 h2
        · rename_i i j o' e
          subst h; have hx := hev x; rw [e] at hx
          obtain ⟨l, b, h1, h2, hv⟩ := hx.ep_inv
          refine ⟨_, by simp [execOp, ho, hv, mJ (hT _ _ ht) hf]; rfl, ?_⟩
          rw [gH, Nat.add_assoc]; exact .ep _ _ _ l b h1 h2
        · rename_i cs e
          subst h; have hx := hev x; rw [e] at hx
          obtain ⟨ad, f', hv, hA, h1, h2⟩ := hx.rp_inv
          refine ⟨_, by simp [execOp, ho, hv, mJ (hT _ _ ht) hf]; rfl, .c (.rp _ _ (fun k => f' (off + k)) (by rw [kL]; exact hA) (fun k u hk => ?_) (fun k u hk => h2 _ u (qD hk)))⟩
          rw [add_add]; exact h1 _ u (qD hk)
        · rename_i e
          subst h; have hx := hev x; rw [e] at hx
          obtain ⟨l, d, b, h1, h2, h3, hv⟩ := hx.ip_inv
          refine ⟨_, by simp [execOp, ho, hv, mJ (hT _ _ ht) hf]; rfl, ?_⟩
          rw [gH, Nat.add_assoc]; exact .ip _ _ _ _ _ _ l d b h1 h2 h3
        · exact h.elim
      · exact h.elim
    · exact h.elim
  case field t x f =>
    split at h
    · rename_i ti ht
      split at h
      · rename_i off ft hf
        split at h
        · rename_i fi hft
          split at h
          · rename_i cs e
            split at h
            · rename_i hb
              subst h; have hx := hev x; rw [e] at hx
              obtain ⟨arr, hv, hl, hr⟩ := hx.agg_inv
              obtain ⟨cv, h1, h2⟩ := aHN (P := P) (w := w) (A := A) (μ := μ) (hT _ _ hft) hl (Nat.le_of_ble_eq_true hb) hr
              refine ⟨cv, ?_, h2⟩
              obtain ⟨d, hd, _, _, hfl, _⟩ := (hT _ _ ht).desc
              obtain ⟨fs, fl, rfl, g1, g2, g3, _⟩ := hfl f off ft hf
              subst g2; subst g3
              simp [execOp, ho, hv, Instr.field, run_underlying hd, g1, asAgg, h1]
            · exact h.elim
          · exact h.elim
        · exact h.elim
      · exact h.elim
    · exact h.elim
  case binOp op t x y ty =>
    refine aJH ho hev (fun hb => ?_) (fun hne => by cases ht : T t with
      | none => rw [ht] at hne; exact absurd rfl hne
      | some ti => rw [ht] at hne; exact (hT _ _ ht).eq hne) h
    cases ht : T t with
    | none => rw [ht] at hb; cases hb
    | some ti =>
      rw [ht] at hb
      obtain ⟨d, hd, _, _, _, _, _, _, h7, _⟩ := (hT _ _ ht).desc
      rw [hd, h7 hb]
  case unOp op t x =>
    split at h
    · rename_i b e
      subst h; have hx := hev x; rw [e] at hx
      exact ⟨_, by simp [execOp, ho, hx.bool_inv, Op.unary], .c (.bool _)⟩
    · rename_i kd n e
      subst h; have hx := hev x; rw [e] at hx
      exact ⟨_, by simp [execOp, ho, hx.int_inv, Op.unary, Op.intArith, aCZ], .c (.int _ _)⟩
    · exact h.elim
  case makeInterface t x =>
    split at h
    · rename_i ti ht
      split at h
      · rename_i i len hsl e
        subst h
        have hx := hev x; rw [e] at hx
        obtain ⟨l, hl, rfl, hv⟩ := hx.own_inv
        obtain ⟨d, hd, _, _, _, hs, _⟩ := (hT _ _ ht).desc
        have hd' := (hs hsl).1; subst hd'
        exact ⟨.iface t (.slice (l.b.map (⟨·, 0, none⟩)) l.len l.cap), by simp [execOp, ho, Instr.makeInterface, hv, run_underlying hd], .ifs t i l hl⟩
      · exact h.elim
    · exact h.elim
  case makeFunc fn first cap =>
    split at h
    · rename_i f e1 e2
      subst h
      have e1' : first = #[] := by apply Array.toList_inj.1; exact e1
      have e2' : cap = #[] := by apply Array.toList_inj.1; exact e2
      subst e1'; subst e2'
      exact ⟨.func (.func f) #[] #[], by simp [execOp, ho, Instr.makeFunc], .c (.fn f)⟩
    · rename_i f y e1 e2
      have e1' : first = #[] := by apply Array.toList_inj.1; exact e1
      have e2' : cap = #[y] := by apply Array.toList_inj.1; exact e2
      subst e1'; subst e2'
      split at h
      · rename_i i off e
        split at h
        · rename_i hb
          subst h
          have := Nat.eq_of_beq_eq_true hb; subst this
          have hx := hev y; rw [e] at hx
          obtain ⟨l, b, hl, hlb, hv⟩ := hx.bp_inv
          exact ⟨.func (.func f) #[] #[.pointer (some ⟨b, 0, none⟩)], by simp [execOp, ho, Instr.makeFunc, hv], .cf f i l b hl hlb⟩
        · exact h.elim
      · exact h.elim
    · exact h.elim
  case extract x i =>
    split at h
    · rename_i vs e
      split at h
      · rename_i u hu
        subst h; have hx := hev x; rw [e] at hx
        obtain ⟨cs, hv, hl, hr⟩ := hx.tup_inv
        have hlt : i < cs.size := by rw [hl]; exact (List.getElem?_eq_some_iff.1 hu).1
        have e1 : cs[i]? = some cs[i] := by simp [hlt]
        exact ⟨cs[i], by simp [execOp, ho, hv, Instr.extract, e1], hr i u _ hu e1⟩
      · exact h.elim
    · exact h.elim
  case index t x ix =>
    split at h
    · rename_i ti ht
      split at h
      · rename_i kd n s hs e1 e2
        obtain ⟨h0, h⟩ := h.out
        obtain ⟨h1, h⟩ := h.out
        subst h
        have hx := hev x; rw [e2] at hx
        have hi := hev ix; rw [e1] at hi
        obtain ⟨d, hd, _, _, _, _, _, h6, _⟩ := (hT _ _ ht).desc
        have hd' := h6 hs; subst hd'
        have hlt : n.toNat < s.size := by omega
        have hb : bt s n = ((s[n.toNat]'hlt).toNat : Int) := by unfold bt; rw [dif_pos hlt]
        refine ⟨.int .u8 (bt s n), ?_, .c (.int _ _)⟩
        simp [execOp, ho, hx.str_inv, hi.int_inv, Instr.index, asIntOf, run_underlying hd, h0, hb, hlt]
      · exact h.elim
    · exact h.elim
  case indexAddr t x ix =>
    split at h
    · rename_i ti ht
      split at h
      · rename_i ei he hs
        obtain ⟨d, hd, _, _, _, h4, _⟩ := (hT _ _ ht).desc
        obtain ⟨hd', _⟩ := h4 hs; subst hd'
        split at h
        · rename_i kd n e1
          have hi := hev ix; rw [e1] at hi
          split at h
          · rename_i i len e2
            have hx := hev x; rw [e2] at hx
            split at h
            · rename_i e sz xs _ hmi
              split at h
              · rename_i hbq
                obtain ⟨h0, h⟩ := h.out
                obtain ⟨h1, h⟩ := h.out
                subst h
                obtain ⟨l, hl, hlen, hv⟩ := hx.own_inv
                obtain ⟨l', hl', hob⟩ := hm _ _ hmi
                obtain rfl : l' = l := by rw [hl] at hl'; injection hl' with e; exact e.symm
                obtain ⟨hsz, hll, _, cs, ⟨ho1, ho2⟩, _, _⟩ := hob
                have hsz2 : l'.sz = ei.size := hsz.trans (Nat.eq_of_beq_eq_true hbq)
                rcases ho2 with ⟨e1, e2⟩ | ⟨g, cap, cur, e1, e2, _⟩
                · omega
                · cases hlb : l'.b with
                  | none => rw [hlb] at e1; simp at e1
                  | some b =>
                    refine ⟨.pointer (some ⟨b, n.toNat * l'.sz + 0, none⟩), ?_, .ep _ _ _ l' b hl hlb⟩
                    rw [hlb] at hv
                    have h1' : n < (l'.len : Int) := by omega
                    simp [execOp, ho, hv, hi.int_inv, Instr.indexAt, asIntOf, run_underlying hd, h0, h1', jM (hT _ _ he), gH, hsz2]
              · exact h.elim
            · rename_i e sz es xs _ hmi
              split at h
              · rename_i hbq
                obtain ⟨h0, h⟩ := h.out
                obtain ⟨h1, h⟩ := h.out
                subst h
                obtain ⟨l, hl, hlen, hv⟩ := hx.own_inv
                obtain ⟨l', hl', hob⟩ := hm _ _ hmi
                obtain rfl : l' = l := by rw [hl] at hl'; injection hl' with e; exact e.symm
                obtain ⟨_, hsz, hll, _, cs, ⟨ho1, ho2⟩, _, _⟩ := hob
                have hsz2 : l'.sz = ei.size := hsz.trans (Nat.eq_of_beq_eq_true hbq)
                rcases ho2 with ⟨e1, e2⟩ | ⟨g, cap, cur, e1, e2, _⟩
                · omega
                · cases hlb : l'.b with
                  | none => rw [hlb] at e1; simp at e1
                  | some b =>
                    refine ⟨.pointer (some ⟨b, n.toNat * l'.sz + 0, none⟩), ?_, .ep _ _ _ l' b hl hlb⟩
                    rw [hlb] at hv
                    have h1' : n < (l'.len : Int) := by omega
                    simp [execOp, ho, hv, hi.int_inv, Instr.indexAt, asIntOf, run_underlying hd, h0, h1', jM (hT _ _ he), gH, hsz2]
              · exact h.elim
            · rename_i e sz es xs k0 _ hmi
              split at h
              · rename_i hbq
                obtain ⟨h0, h⟩ := h.out
                obtain ⟨h1, h⟩ := h.out
                subst h
                obtain ⟨l, hl, hlen, hv⟩ := hx.own_inv
                obtain ⟨l', hl', hob⟩ := hm _ _ hmi
                obtain rfl : l' = l := by rw [hl] at hl'; injection hl' with e; exact e.symm
                obtain ⟨_, hsz, hll, _, cs, ⟨ho1, ho2⟩, _, _⟩ := hob
                have hsz2 : l'.sz = ei.size := hsz.trans (Nat.eq_of_beq_eq_true hbq)
                rcases ho2 with ⟨e1, e2⟩ | ⟨g, cap, cur, e1, e2, _⟩
                · omega
                · cases hlb : l'.b with
                  | none => rw [hlb] at e1; simp at e1
                  | some b =>
                    refine ⟨.pointer (some ⟨b, n.toNat * l'.sz + 0, none⟩), ?_, .ep _ _ _ l' b hl hlb⟩
                    rw [hlb] at hv
                    have h1' : n < (l'.len : Int) := by omega
                    simp [execOp, ho, hv, hi.int_inv, Instr.indexAt, asIntOf, run_underlying hd, h0, h1', jM (hT _ _ he), gH, hsz2]
              · exact h.elim
            · exact h.elim
          · rename_i i idx off len e2
            have hx := hev x; rw [e2] at hx
            obtain ⟨l, d, hl, hd1, hdl, hv⟩ := hx.dsl_inv
            have fin : (∃ u c es sz, Dc w l es sz (idx * l.sz + off) u c ∧ uM ei.size (some u) (Nd (0 ≤ n) (Nd (n < len) (V.ip i idx off ei.size n.toNat 0 = v)))) → ∃ cv, (execOp ρ o).run P w = .ok (.value cv) w ∧ Rv w A μ v cv := fun ⟨u, c, es, sz, hD, hs⟩ => by
              unfold uM at hs
              split at hs
              · rename_i s' n' ys' hu
                injection hu with hu; subst hu
                split at hs
                · rename_i hbq
                  obtain ⟨h0, hs⟩ := hs.out
                  obtain ⟨h1, hs⟩ := hs.out
                  subst hs
                  obtain ⟨d', f1, f2, f3, _, _, _, cs, ⟨ho1, ho2⟩, _⟩ := hD
                  rw [hd1] at f1; injection f1 with f1; subst f1
                  have h1' : n < (d.len : Int) := by omega
                  rcases ho2 with ⟨e1, e2⟩ | ⟨g, cap, cur, e1, e2, _⟩
                  · have : d.len = 0 := e2
                    omega
                  · cases hlb : d.b with
                    | none => rw [hlb] at e1; simp at e1
                    | some b =>
                      refine ⟨.pointer (some ⟨b, n.toNat * ei.size + 0, none⟩), ?_, .ip _ _ _ _ _ _ l d b hl hd1 hlb⟩
                      have hv : ρ x = .slice (some ⟨b, 0, none⟩) d.len d.cap := by rw [hv]; unfold Hd.val; rw [hlb]; rfl
                      simp [execOp, ho, hv, hi.int_inv, Instr.indexAt, asIntOf, run_underlying hd, h0, h1', jM (hT _ _ he), gH]
                · exact hs.elim
              · exact hs.elim
            have getu : ∀ {e : TypeId} {sz : Nat} {es : List TypeId} {xs : List (List V)} {R : Nat → V → Value → Prop} {q : List V} {u : V}, Row w l e sz xs R → xs[idx]? = some q → q[off]? = some u → idx = (idx * l.sz + off) / sz ∧ ∃ c, R (idx * l.sz + off) u c := fun {e sz es xs R q u} hR hq hu => by
              obtain ⟨f, hc⟩ := jE hR
              have h1 := hR.2.2.1 q (List.mem_of_getElem? hq)
              have h2 := (List.getElem?_eq_some_iff.1 hu).1
              obtain ⟨_, _, _, g2, _⟩ := hc _ _ (flat_get xs idx off q u hR.2.2.1 hq hu)
              have e1 := hR.1
              refine ⟨?_, _, by rw [e1]; exact g2⟩
              rw [e1, Nat.mul_comm, Nat.mul_add_div (by omega), Nat.div_eq_of_lt (by omega)]; omega
            split at h
            · rename_i e sz es xs _ hmi
              obtain ⟨q, hq, h⟩ := h.out
              obtain ⟨l', hl', hob⟩ := hm _ _ hmi
              obtain rfl : l' = l := by rw [hl] at hl'; injection hl' with e; exact e.symm
              cases hu : q[off]? with
              | none => rw [hu] at h; exact h.elim
              | some u =>
                rw [hu] at h
                obtain ⟨_, c, hD⟩ := getu (es := es) hob.2 hq hu
                exact fin ⟨u, c, es, sz, hD, h⟩
            · rename_i e sz es xs k0 _ hmi
              obtain ⟨q, hq, h⟩ := h.out
              obtain ⟨hk0, h⟩ := h.out
              obtain ⟨l', hl', hob⟩ := hm _ _ hmi
              obtain rfl : l' = l := by rw [hl] at hl'; injection hl' with e; exact e.symm
              cases hu : q[off]? with
              | none => rw [hu] at h; exact h.elim
              | some u =>
                rw [hu] at h
                obtain ⟨hix, c, hD⟩ := getu (es := es) hob.2 hq hu
                exact fin ⟨u, c, es, sz, hD.resolve_left (by omega), h⟩
            · exact h.elim
          · rename_i sz mm xs e2
            have hx := hev x; rw [e2] at hx
            split at h
            · rename_i hbq
              obtain ⟨h0, h⟩ := h.out
              obtain ⟨h1, h⟩ := h.out
              obtain ⟨q, hq, h⟩ := h.out
              subst h
              have hsz := Nat.eq_of_beq_eq_true hbq
              obtain ⟨ao, cap, f, hnn, hv, hc, hu, g0, g1, g2, _⟩ := hx.sl_inv
              obtain ⟨ad, rfl, hA⟩ := g0 (by rintro rfl; simp at hq)
              have key : ∀ (k : Nat) (u : V), q[k]? = some u → xs.flatten[n.toNat * sz + k]? = some u := fun k u hk => flat_get xs _ k q u hu hq hk
              refine ⟨.pointer (some (ad.add (n.toNat * sz))), ?_, .c (.rp _ _ (fun k => f (n.toNat * sz + k)) (by rw [kL]; exact hA) (fun k u hk => ?_) (fun k u hk => g2 _ u (key k u hk)))⟩
              · simp [execOp, ho, hv, hi.int_inv, Instr.indexAt, asIntOf, run_underlying hd, h0, h1, jM (hT _ _ he), hsz]
              · rw [add_add]; exact g1 _ _ u rfl (key k u hk)
            · exact h.elim
          · exact h.elim
        · exact h.elim
      · rename_i ei he hs
        obtain ⟨d, hd, _, _, _, _, _, _, _, h8⟩ := (hT _ _ ht).desc
        split at h
        · rename_i kd n e1
          have hi := hev ix; rw [e1] at hi
          split at h
          · rename_i hlt
            have hlt : n < ti.alen := Nat.le_of_ble_eq_true hlt
            have hd' := h8 (by omega); subst hd'
            have run : ∀ ad, ρ x = .pointer (some ad) → (execOp ρ o).run P w = .ok (.value (.pointer (some (ad.add (n * ei.size))))) w := fun ad hv => by
              have h1' : (Int.ofNat n) < (ti.alen : Int) := by show (n : Int) < _; omega
              have h0' : 0 ≤ Int.ofNat n := Int.natCast_nonneg n
              simp [execOp, ho, hv, hi.int_inv, Instr.indexAt, Instr.sureAddr, asIntOf, run_underlying hd, jM (hT _ _ he), hlt]
            split at h
            · rename_i i o' e
              subst h; have hx := hev x; rw [e] at hx
              obtain ⟨l, b, h1, h2, hv⟩ := hx.bp_inv
              refine ⟨_, run _ hv, ?_⟩
              rw [gH]; exact .bp _ _ l b h1 h2
            · rename_i i j o' e
              subst h; have hx := hev x; rw [e] at hx
              obtain ⟨l, b, h1, h2, hv⟩ := hx.ep_inv
              refine ⟨_, run _ hv, ?_⟩
              rw [gH, Nat.add_assoc]; exact .ep _ _ _ l b h1 h2
            · rename_i cs e
              subst h; have hx := hev x; rw [e] at hx
              obtain ⟨ad, f', hv, hA, h1, h2⟩ := hx.rp_inv
              refine ⟨_, run _ hv, .c (.rp _ _ (fun k => f' (n * ei.size + k)) (by rw [kL]; exact hA) (fun k u hk => ?_) (fun k u hk => h2 _ u (qD hk)))⟩
              rw [add_add]; exact h1 _ u (qD hk)
            · exact h.elim
          · exact h.elim
        · exact h.elim
      · exact h.elim
    · exact h.elim
  case convert s d x =>
    split at h
    · rename_i si ti hsi ht
      obtain ⟨dd, hd, _, _, _, _, h5, h6, _⟩ := (hT _ _ ht).desc
      obtain ⟨ds, hds, _⟩ := (hT _ _ hsi).desc
      have hx := hev x
      split at h
      · rename_i kd k' n e1 e2
        subst h
        rw [e2] at hx
        have := h5 _ e1; subst this
        exact ⟨_, by simp [execOp, ho, hx.int_inv, convert, run_underlying hd, run_underlying hds, Conv.intToInt, aCZ], .c (.int _ _)⟩
      · rename_i s' e1 e2
        rw [e2] at hx
        split at h
        · rename_i hs
          subst h
          have := h6 hs; subst this
          exact ⟨_, by simp [execOp, ho, hx.str_inv, convert, run_underlying hd, run_underlying hds], .c (.str _)⟩
        · exact h.elim
      · rename_i i len e1 e2
        rw [e2] at hx
        split at h
        · rename_i si' hs hsi'
          rw [hsi] at hsi'; injection hsi' with hsi'; subst hsi'
          split at h
          · rename_i ei e sz xs hsl hei _ hmi
            split at h
            · rename_i bs hint hbs
              split at h
              · rename_i hsz1
                subst h
                have := h6 hs; subst this
                obtain ⟨ds', hds', _, _, _, k4, _⟩ := (hT _ _ hsi).desc
                rw [hds] at hds'; injection hds' with hds'; subst hds'
                have := (k4 hsl).1; subst this
                obtain ⟨de, hde, _, _, _, _, m5, _⟩ := (hT _ _ hei).desc
                have := m5 _ hint; subst this
                obtain ⟨l, hl, hlen, hv⟩ := hx.own_inv
                obtain ⟨l', hl', hob⟩ := hm _ _ hmi
                obtain rfl : l' = l := by rw [hl] at hl'; injection hl' with e; exact e.symm
                obtain ⟨_, hll, hu, f, hc⟩ := vF hob
                obtain ⟨ns, rfl, rfl⟩ := tG _ _ hbs
                have hfl : (ns.map (fun n => [V.int .u8 n])).flatten = ns.map (V.int .u8) := by
                  clear hmi hob hll hu hc hbs
                  induction ns with
                  | nil => rfl
                  | cons n ns ih => simp [ih]
                refine ⟨.string ⟨(ns.map (fun n => UInt8.ofNat n.toNat)).toArray⟩, ?_, .c (.str _)⟩
                cases hlb : l'.b with
                | none =>
                  have h0 : ns = [] := by
                    cases ns with
                    | nil => rfl
                    | cons n ns =>
                      obtain ⟨b', hb', _⟩ := hc 0 (.int .u8 n) (by simp)
                      rw [hlb] at hb'; cases hb'
                  subst h0
                  rw [hlb] at hv
                  simp [execOp, ho, hv, convert, run_underlying hd, run_underlying hds, run_underlying hde, Conv.bytesToString]
                  rfl
                | some b =>
                  rw [hlb] at hv
                  have hll' : l'.len = (ns.map (Value.int .u8)).length := by rw [hll]; simp
                  have hload : (loadCells ⟨b, 0, none⟩ l'.len).run P w = .ok (ns.map (Value.int .u8)).toArray w := by
                    rw [hll']
                    refine run_loadCells_list (P := P) w ⟨b, 0, none⟩ _ (fun j v hj => ?_)
                    simp only [List.getElem?_map, Option.map_eq_some_iff] at hj
                    obtain ⟨n, hn, rfl⟩ := hj
                    obtain ⟨b', hb', q1, q2, _⟩ := hc j (.int .u8 n) (by rw [hfl]; simp [hn])
                    obtain rfl : b' = b := by rw [hlb] at hb'; injection hb' with e; exact e.symm
                    rw [gH, Nat.zero_add, q1, q2.int_inv]
                  have hbs := run_bytesToString (P := P) w ⟨b, 0, none⟩ l'.len l'.cap ns hload
                  rw [aGI] at hbs
                  have hcv := run_convert_bytes_string (P := P) w s d _ (some ⟨b, 0, none⟩) l'.len l'.cap hds hde hd
                  simp only [execOp, ho, hv, Option.map_some, Sem.run_bind, hcv, hbs, Result.andThen_ok]
                  simp
              · exact h.elim
            · exact h.elim
          · exact h.elim
        · exact h.elim
      · exact h.elim
    · exact h.elim
  case slice t x lo hi mxx =>
    split at h
    · rename_i ti ht
      unfold rL at h
      split at h
      · rename_i s e2
        obtain ⟨dd, hd, _, _, _, _, h5, h6, _⟩ := (hT _ _ ht).desc
        have hx := hev x; rw [e2] at hx
        split at h
        · rename_i hs
          have := h6 hs; subst this
          unfold nQ at h
          split at h
          · subst h
            exact ⟨_, by simp only [execOp, ho, hx.str_inv, Option.map_none, Sem.run_bind, run_sliceAt_string w t _ _ _ _ hd, run_slice_string_all w t s hd, Result.andThen_ok]; simp, .c (.str _)⟩
          · rename_i hh
            split at h
            · rename_i kd q eq
              obtain ⟨h0, h⟩ := h.out
              obtain ⟨h1, h⟩ := h.out
              subst h
              have hq := hev hh; rw [eq] at hq
              exact ⟨_, by simp only [execOp, ho, hx.str_inv, Option.map_none, Option.map_some, hq.int_inv, Sem.run_bind, run_sliceAt_string w t _ _ _ _ hd, run_slice_string_h w t s hd kd q h0 h1, Result.andThen_ok]; simp, .c (.str _)⟩
            · exact h.elim
          · rename_i ll
            split at h
            · rename_i kd q eq
              obtain ⟨h0, h⟩ := h.out
              obtain ⟨h1, h⟩ := h.out
              subst h
              have hq := hev ll; rw [eq] at hq
              exact ⟨_, by simp only [execOp, ho, hx.str_inv, Option.map_none, Option.map_some, hq.int_inv, Sem.run_bind, run_sliceAt_string w t _ _ _ _ hd, run_slice_string_l w t s hd kd q h0 h1, Result.andThen_ok]; simp, .c (.str _)⟩
            · exact h.elim
          · rename_i ll hh
            split at h
            · rename_i kd q kd2 q2 eq eq2
              obtain ⟨h0, h⟩ := h.out
              obtain ⟨h1, h⟩ := h.out
              obtain ⟨h2, h⟩ := h.out
              subst h
              have hq := hev ll; rw [eq] at hq
              have hq2 := hev hh; rw [eq2] at hq2
              exact ⟨_, by simp only [execOp, ho, hx.str_inv, Option.map_none, Option.map_some, hq.int_inv, hq2.int_inv, Sem.run_bind, run_sliceAt_string w t _ _ _ _ hd, run_slice_string w t s kd kd2 q q2 hd h0 h1 h2, Result.andThen_ok]; simp, .c (.str _)⟩
            · exact h.elim
        · exact h.elim
      · rename_i sz n xs e2
        split at h
        rotate_left
        · exact h.elim
        rename_i ei he hsl
        obtain ⟨d, hd, _, _, _, h4, _⟩ := (hT _ _ ht).desc
        have hd1 := (h4 hsl).1; subst hd1
        have hx := hev x; rw [e2] at hx
        split at h
        · rename_i hbq
          have hsz := Nat.eq_of_beq_eq_true hbq; subst hsz
          obtain ⟨ao, cap, f, hnn, hv, hc, hu, g0, g1, g2, g3⟩ := hx.sl_inv
          have hel : P.elem t = ti.elem := by simp [Program.elem, hd]
          have hd' : P.underlying t = some (.slice (P.elem t)) := by rw [hel]; exact hd
          have hszr := jM (P := P) (w := w) (hT _ _ he)
          rw [hv] at hx
          unfold oA at h
          split at h
          · subst h
            refine ⟨sliced ao 0 n cap ei.size, ?_, ?_⟩
            · simp only [execOp, ho, hv, Option.map_none, Sem.run_bind, run_sliceAt_slice w t _ _ _ _ hd', run_slice_all w t ao n cap hd', hel, hszr, Result.andThen_ok]; simp
            · have := pV hx (l := 0) (h := n) (by omega) (by omega)
              rw [List.drop_zero, List.take_of_length_le (by omega)] at this; exact this
          · rename_i hh
            split at h
            · rename_i kd q eq
              obtain ⟨h0, h⟩ := h.out
              obtain ⟨h1, h⟩ := h.out
              subst h
              have hq := hev hh; rw [eq] at hq
              refine ⟨sliced ao 0 q.toNat cap ei.size, ?_, ?_⟩
              · simp only [execOp, ho, hv, Option.map_none, Option.map_some, hq.int_inv, Sem.run_bind, run_sliceAt_slice w t _ _ _ _ hd', run_slice_h w t ao n cap hd' kd q h0 (by omega), hel, hszr, Result.andThen_ok]; simp
              · exact pV hx (l := 0) (h := q.toNat) (by omega) (by omega)
            · exact h.elim
          · rename_i ll
            split at h
            · rename_i kd q eq
              obtain ⟨h0, h⟩ := h.out
              obtain ⟨h1, h⟩ := h.out
              subst h
              have hq := hev ll; rw [eq] at hq
              refine ⟨sliced ao q.toNat n cap ei.size, ?_, ?_⟩
              · simp only [execOp, ho, hv, Option.map_none, Option.map_some, hq.int_inv, Sem.run_bind, run_sliceAt_slice w t _ _ _ _ hd', run_slice_l w t ao n cap hd' kd q h0 h1, hel, hszr, Result.andThen_ok]; simp
              · have := pV hx (l := q.toNat) (h := n) (by omega) (by omega)
                rw [List.take_of_length_le (by omega)] at this; exact this
            · exact h.elim
          · rename_i ll hh
            split at h
            · rename_i kd q kd2 q2 eq eq2
              obtain ⟨h0, h⟩ := h.out
              obtain ⟨h1, h⟩ := h.out
              obtain ⟨h2, h⟩ := h.out
              subst h
              have hq := hev ll; rw [eq] at hq
              have hq2 := hev hh; rw [eq2] at hq2
              refine ⟨sliced ao q.toNat q2.toNat cap ei.size, ?_, ?_⟩
              · simp only [execOp, ho, hv, Option.map_none, Option.map_some, hq.int_inv, hq2.int_inv, Sem.run_bind, run_sliceAt_slice w t _ _ _ _ hd', run_slice_lh w t ao n cap hd' kd kd2 q q2 h0 h1 (by omega), hel, hszr, Result.andThen_ok]; simp
              · exact pV hx (l := q.toNat) (h := q2.toNat) (by omega) (by omega)
            · exact h.elim
        · exact h.elim
      · exact h.elim
    · exact h.elim
  case call c =>
    split at h
    · rename_i hcal
      split at h
      · rename_i t y hty hy
        split at h
        · rename_i ti ht
          obtain ⟨d, hd, _, _, _, h4, _, h6, _⟩ := (hT _ _ ht).desc
          split at h
          · rename_i n hn
            subst h
            have hx := hev y
            refine ⟨.int .i64 n, ?_, .c (.int _ _)⟩
            have hargs : (c.args.map ρ) = #[ρ y] := by
              apply Array.toList_inj.1; rw [Array.toList_map, hy]; rfl
            have hat : c.argTypes = #[t] := by
              apply Array.toList_inj.1; rw [hty]
            have hr : (Builtin.len_ c.argTypes o.type #[ρ y]).run P w = .ok (.int .i64 n) w := by
              unfold aMV at hn
              split at hn
              · rename_i s e hs; rw [e] at hx; injection hn with hn; subst hn
                have := h6 hs; subst this
                simp [Builtin.len_, hx.str_inv, goInt, hat, run_underlying hd]
              · rename_i sz mm xs e hs; rw [e] at hx; injection hn with hn; subst hn
                obtain ⟨ao, cap, f, hnn, hv, _⟩ := hx.sl_inv
                have := (h4 hs).1; subst this
                simp [Builtin.len_, hv, goInt, hat, run_underlying hd]
              · rename_i e hs; rw [e] at hx; injection hn with hn; subst hn
                have := (h4 hs).1; subst this
                simp [Builtin.len_, hx.nil_inv, goInt, hat, run_underlying hd]
              · rename_i i len e hs; rw [e] at hx; injection hn with hn; subst hn
                obtain ⟨l, _, hl, hv⟩ := hx.own_inv
                have := (h4 hs).1; subst this
                simp [Builtin.len_, hv, goInt, hl, hat, run_underlying hd]
              · rename_i i idx off len e hs; rw [e] at hx; injection hn with hn; subst hn
                obtain ⟨_, d, _, _, hl, hv⟩ := hx.dsl_inv
                have := (h4 hs).1; subst this
                simp [Builtin.len_, hv, Hd.val, goInt, hl, hat, run_underlying hd]
              · cases hn
            simp [execOp, ho, resolve, hcal, hargs, invoke, builtin, hr]
          · exact h.elim
        · exact h.elim
      · exact h.elim
    · rename_i hcal
      split at h
      · rename_i x y hxy
        obtain ⟨cv, h1, h2⟩ := aJQ (P := P) c.argTypes o.type (hev x) (hev y) h
        have hargs : (c.args.map ρ) = #[ρ x, ρ y] := by
          apply Array.toList_inj.1; rw [Array.toList_map, hxy]; rfl
        exact ⟨cv, by simp [execOp, ho, resolve, hcal, hargs, invoke, builtin, h1], h2⟩
      · exact h.elim
    · rename_i hcal
      split at h
      · rename_i x y hxy
        obtain ⟨cv, h1, h2⟩ := aJN (P := P) c.argTypes o.type (hev x) (hev y) h
        have hargs : (c.args.map ρ) = #[ρ x, ρ y] := by
          apply Array.toList_inj.1; rw [Array.toList_map, hxy]; rfl
        exact ⟨cv, by simp [execOp, ho, resolve, hcal, hargs, invoke, builtin, h1], h2⟩
      · exact h.elim
    · exact h.elim
  all_goals exact h.elim
end
end Go.Aw
set_option linter.unusedVariables false
namespace Go.Aw
structure Ext (hv : List Tmp) (a : Act) (w : World) (A : Nat → Prop) (μ : Nat → Option Loc) (a' : Act) (w' : World) (A' : Nat → Prop) (μ' : Nat → Option Loc) : Prop where
  cell : ∀ ad c, A ad.block → w.cell? ad = some c → w'.cell? ad = some c
  sub : ∀ b, A b → A' b
  mu : ∀ i l, μ i = some l → μ' i = some l
  tm : ∀ t, t ∉ hv → a'.tmps[t]? = a.tmps[t]?
theorem Ext.refl (hv : List Tmp) (a : Act) (w : World) (A : Nat → Prop) (μ : Nat → Option Loc) : Ext hv a w A μ a w A μ := ⟨fun _ _ _ h => h, fun _ h => h, fun _ _ h => h, fun _ _ => rfl⟩
theorem Ext.trans {hv hv' : List Tmp} {a a1 a2 : Act} {w w1 w2 : World} {A A1 A2 : Nat → Prop} {μ μ1 μ2 : Nat → Option Loc} (h : Ext hv a w A μ a1 w1 A1 μ1) (k : Ext hv' a1 w1 A1 μ1 a2 w2 A2 μ2) :
    Ext (hv ++ hv') a w A μ a2 w2 A2 μ2 :=
  ⟨fun ad c hA hc => k.cell _ _ (h.sub _ hA) (h.cell _ _ hA hc), fun b hb => k.sub _ (h.sub _ hb), fun i l hi => k.mu _ _ (h.mu _ _ hi),
    fun t ht => (k.tm t (fun hm => ht (List.mem_append_right _ hm))).trans (h.tm t (fun hm => ht (List.mem_append_left _ hm)))⟩
theorem Ext.mono {hv hv' : List Tmp} {a a1 : Act} {w w1 : World} {A A1 : Nat → Prop} {μ μ1 : Nat → Option Loc} (h : Ext hv a w A μ a1 w1 A1 μ1) (hs : ∀ t ∈ hv, t ∈ hv') : Ext hv' a w A μ a1 w1 A1 μ1 :=
  ⟨h.cell, h.sub, h.mu, fun t ht => h.tm t (fun hm => ht (hs t hm))⟩
theorem oP (σ : St) (d : Option Tmp) (v : V) (t : Tmp) : (σ.put d v).env t = if d = some t then v else σ.env t := by
  cases d with
  | none => rfl
  | some d =>
    show (match Nat.beq t d with | true => v | false => σ.env t) = _
    cases hb : Nat.beq t d with
    | true => have := Nat.eq_of_beq_eq_true hb; subst this; simp
    | false => have := Nat.ne_of_beq_eq_false hb; simp [Ne.symm this]
theorem nG (σ : St) (d : Option Tmp) (v : V) : (σ.put d v).mem = σ.mem := by cases d <;> rfl
theorem zR (a : Act) (d : Option Tmp) (v : Value) (t : Tmp) (hd : ∀ n, d = some n → n < a.tmps.size) : (a.put d v).tmps.getD t undef = if d = some t then v else a.tmps.getD t undef := by
  cases d with
  | none => rfl
  | some d =>
    have h := hd d rfl
    simp only [Act.put]
    by_cases hdt : d = t
    · subst hdt; simp [h]
    · rw [if_neg (by simpa using hdt)]
      simp [Array.getElem?_setIfInBounds, hdt]
section
variable {w0 : World} {X A0 : Nat → Prop} {N : Nat} {bd bd' : Nat → Prop} {σ : St} {a : Act} {w w' : World} {A A' : Nat → Prop} {μ μ' : Nat → Option Loc}
theorem Ok.step {e : Eff} {Tc : Nat → Prop} {d : Option Tmp} {v : V} {cv : Value} (h : Ok w0 X A0 N bd σ a w A μ)
    (hos : w'.os = w.os) (htape : w'.tape = w.tape) (hout : w'.output = w.output) (hsz : w.heap.size ≤ w'.heap.size)
    (hkeep : ∀ b, b < w.heap.size → ¬ Tc b → w'.heap[b]? = w.heap[b]?) (hTA : ∀ b, Tc b → ¬ A b) (hTX : ∀ b, Tc b → X b ∨ w0.heap.size ≤ b)
    (hA1 : ∀ b, A b → A' b) (hA2 : ∀ b, A' b → b < w'.heap.size ∧ (A b ∨ w.heap.size ≤ b))
    (hμ : ∀ i l, μ i = some l → μ' i = some l) (hbd' : ∀ i, μ' i ≠ none → bd' i)
    (hv : Rv w' A' μ' v cv) (hd : ∀ n, d = some n → n < N)
    (hun : ∀ i ob l b, e i = none → σ.mem i = some ob → μ i = some l → l.has b → ¬ Tc b)
    (hnew : ∀ i ob, e i = some (some ob) → ∃ l, μ' i = some l ∧ gP w' A' μ' l ob ∧ ∀ b, l.has b → b < w'.heap.size ∧ ¬ A' b ∧ (X b ∨ w0.heap.size ≤ b))
    (hap : ∀ i ob, e i = some (some ob) → ∀ j, ((∃ ob', e j = some (some ob')) ∨ (e j = none ∧ σ.mem j ≠ none)) → ∀ li lj b, μ' i = some li → μ' j = some lj → li.has b → lj.has b → i = j) :
    Ok w0 X A0 N bd' ((σ.put d v).eff e) (a.put d cv) w' A' μ' ∧ Ext d.toList a w A μ (a.put d cv) w' A' μ' := by
  have hcell : ∀ ad c, A ad.block → w.cell? ad = some c → w'.cell? ad = some c := fun ad c hA hc => by
    rw [World.cell?_of_block (hkeep ad.block (h.hA _ hA).1 (fun ht => hTA _ ht hA))]; exact hc
  have hN : a.tmps.size = N := h.tm
  refine ⟨?_, ?_⟩
  · constructor
    · cases d <;> simp [Act.put, hN]
    · cases d <;> exact h.df
    · intro t
      rw [zR _ _ _ _ (fun n hn => hN ▸ hd n hn)]
      show Rv w' A' μ' ((σ.put d v).env t) _
      rw [oP]
      split
      · exact hv
      · exact (h.env t).mono hA1 hcell hμ
    · exact hos.trans h.os
    · exact htape.trans h.tape
    · exact hout.trans h.out
    · exact Nat.le_trans h.size hsz
    · intro b hb hX
      rw [hkeep b (Nat.lt_of_lt_of_le hb h.size) (fun ht => (hTX b ht).elim hX (fun h' => by omega))]
      exact h.old b hb hX
    · intro b hb
      obtain ⟨h1, h2⟩ := hA2 b hb
      exact ⟨h1, h2.elim (fun h' => (h.hA b h').2) (fun h' => .inr (Nat.le_trans h.size h'))⟩
    · exact fun b hb => hA1 b (h.sub b hb)
    · intro i ob hi
      simp only [St.eff, nG] at hi
      cases he : e i with
      | some x =>
        rw [he] at hi; simp only at hi; subst hi
        exact hnew i ob he
      | none =>
        rw [he] at hi; simp only at hi
        obtain ⟨l, hl, ho, hb⟩ := h.ob i ob hi
        refine ⟨l, hμ _ _ hl, ho.mono hA1 hcell hμ (fun b hlb => hkeep b (hb b hlb).1 (hun i ob l b he hi hl hlb)), fun b hlb => ?_⟩
        obtain ⟨h1, h2, h3⟩ := hb b hlb
        exact ⟨Nat.lt_of_lt_of_le h1 hsz, fun h' => (hA2 b h').2.elim h2 (fun h'' => by omega), h3⟩
    · intro i j li lj b hi hj hli hlj hb hb'
      simp only [St.eff, nG] at hi hj
      have side : ∀ n, (match e n with | some x => x | none => σ.mem n) ≠ none → (∃ ob, e n = some (some ob)) ∨ (e n = none ∧ σ.mem n ≠ none) := fun n hn => by
        cases he : e n with
        | some x => rw [he] at hn; simp only at hn; cases x with
          | none => exact absurd rfl hn
          | some ob => exact .inl ⟨ob, rfl⟩
        | none => rw [he] at hn; exact .inr ⟨rfl, hn⟩
      rcases side i hi with ⟨ob, hei⟩ | ⟨hei, hmi⟩
      · exact hap i ob hei j (side j hj) li lj b hli hlj hb hb'
      · rcases side j hj with ⟨ob, hej⟩ | ⟨hej, hmj⟩
        · exact (hap j ob hej i (.inr ⟨hei, hmi⟩) lj li b hlj hli hb' hb).symm
        · obtain ⟨oi, hoi⟩ := Option.ne_none_iff_exists'.1 hmi
          obtain ⟨oj, hoj⟩ := Option.ne_none_iff_exists'.1 hmj
          obtain ⟨l1, hl1, _⟩ := h.ob i oi hoi
          obtain ⟨l2, hl2, _⟩ := h.ob j oj hoj
          have e1 := hμ _ _ hl1; rw [hli] at e1; injection e1 with e1; subst e1
          have e2 := hμ _ _ hl2; rw [hlj] at e2; injection e2 with e2; subst e2
          exact h.ap i j _ _ b hmi hmj hl1 hl2 hb hb'
    · exact hbd'
  · refine ⟨hcell, hA1, hμ, fun t ht => ?_⟩
    cases d with
    | none => rfl
    | some d =>
      simp only [Option.toList, List.mem_singleton] at ht
      simp [Act.put, Array.getElem?_setIfInBounds, Ne.symm ht]
end
end Go.Aw
set_option linter.unusedVariables false
namespace Go.Aw
theorem Eff.set_eq (i : Nat) (ob : Ob) (j : Nat) : Eff.set i ob j = if j = i then some (some ob) else none := by
  unfold Eff.set
  cases hb : Nat.beq j i with
  | true => rw [if_pos (Nat.eq_of_beq_eq_true hb)]
  | false => rw [if_neg (Nat.ne_of_beq_eq_false hb)]
theorem Eff.app_eq (i k : Nat) (ob : Ob) (j : Nat) : Eff.app i k ob j = if j = k then some (some ob) else if j = i then some none else none := by
  unfold Eff.app
  cases hb : Nat.beq j k with
  | true => rw [if_pos (Nat.eq_of_beq_eq_true hb)]
  | false =>
    rw [if_neg (Nat.ne_of_beq_eq_false hb)]
    cases hc : Nat.beq j i with
    | true => rw [if_pos (Nat.eq_of_beq_eq_true hc)]
    | false => rw [if_neg (Nat.ne_of_beq_eq_false hc)]
section
variable {w0 : World} {X A0 : Nat → Prop} {N : Nat} {bd : Nat → Prop} {σ : St} {a : Act} {w : World} {A : Nat → Prop} {μ : Nat → Option Loc}
def upμ (μ : Nat → Option Loc) (i : Nat) (l : Loc) : Nat → Option Loc := fun j => if j = i then some l else μ j
theorem upμ_self (μ : Nat → Option Loc) (i : Nat) (l : Loc) : upμ μ i l i = some l := by simp [upμ]
theorem upμ_sub {μ : Nat → Option Loc} {i : Nat} (l : Loc) (h : μ i = none) : ∀ j k, μ j = some k → upμ μ i l j = some k := fun j k hj => by
  unfold upμ; split
  · rename_i e; subst e; rw [h] at hj; cases hj
  · exact hj
theorem Ok.new {d : Option Tmp} {v : V} {cv : Value} {id : Nat} {ob : Ob} {oo : Obj} {l : Loc} (h : Ok w0 X A0 N bd σ a w A μ) (hid : μ id = none)
    (hl : l.b = some w.heap.size) (hob : gP (w.alloc oo) A (upμ μ id l) l ob) (hv : Rv (w.alloc oo) A (upμ μ id l) v cv) (hd : ∀ n, d = some n → n < N) (hfp : ∀ h ∈ l.fp, h.b = none := by exact fun _ h => nomatch h) :
    Ok w0 X A0 N (fun i => bd i ∨ (id ≤ i ∧ i < id + 8)) ((σ.put d v).eff (Eff.set id ob)) (a.put d cv) (w.alloc oo) A (upμ μ id l) ∧ Ext d.toList a w A μ (a.put d cv) (w.alloc oo) A (upμ μ id l) := by
  have hh : ∀ b, l.has b → b = w.heap.size := fun b hb => by
    rcases hb with hb | hb
    · rw [hl] at hb; injection hb with hb; exact hb.symm
    · obtain ⟨k, q, hq, hb⟩ := hb
      rw [hfp q (List.mem_of_find?_eq_some hq)] at hb; cases hb
  refine h.step (Tc := fun _ => False) rfl rfl rfl (by simp) (fun b hb _ => heap_alloc_old _ _ b hb) (fun _ h => h.elim) (fun _ h => h.elim) (fun _ h => h)
    (fun b hb => ⟨by have := (h.hA b hb).1; simp; omega, .inl hb⟩) (upμ_sub l hid) (fun i hi => ?_) hv hd (fun _ _ _ _ _ _ _ _ h => h) (fun i ob' hi => ?_) (fun i ob' hi j hj li lj b h1 h2 h3 h4 => ?_)
  · unfold upμ at hi; split at hi
    · rename_i e; subst e; exact .inr ⟨Nat.le_refl _, by omega⟩
    · exact .inl (h.bd i hi)
  · rw [Eff.set_eq] at hi; split at hi
    · rename_i e; subst e; injection hi with hi; injection hi with hi; subst hi
      refine ⟨l, upμ_self .., hob, fun b hb => ?_⟩
      have hb := hh b hb; subst hb
      exact ⟨by simp, fun hA => absurd (h.hA _ hA).1 (Nat.lt_irrefl _), .inr h.size⟩
    · cases hi
  · rw [Eff.set_eq] at hi; split at hi
    · rename_i e; subst e
      rw [upμ_self] at h1; injection h1 with h1; subst h1
      have h3 := (hh b h3).symm
      by_cases c : j = i
      · exact c.symm
      · rcases hj with ⟨ob2, hj⟩ | ⟨hj, hm⟩
        · rw [Eff.set_eq, if_neg c] at hj; cases hj
        · obtain ⟨oj, hoj⟩ := Option.ne_none_iff_exists'.1 hm
          obtain ⟨l2, hl2, _, hb2⟩ := h.ob j oj hoj
          simp only [upμ, if_neg c] at h2
          rw [hl2] at h2; injection h2 with h2; subst h2
          have := (hb2 b h4).1
          omega
    · cases hi
end
end Go.Aw
set_option linter.unusedVariables false
namespace Go.Aw
section
variable {P : Program} {T : TypeId → Option TI} {ck : Nat → Bool} {w0 : World} {X A0 : Nat → Prop} {N : Nat} {bd : Nat → Prop} {σ : St} {a : Act} {w : World} {A : Nat → Prop} {μ : Nat → Option Loc} {Q : Exit → Act → World → Prop}
theorem Ok.mok (h : Ok w0 X A0 N bd σ a w A μ) : Mok w A μ σ.mem := fun i ob hi => by
  obtain ⟨l, h1, h2, _⟩ := h.ob i ob hi
  exact ⟨l, h1, h2⟩
theorem Ok.bdm {bd' : Nat → Prop} (h : Ok w0 X A0 N bd σ a w A μ) (hb : ∀ i, bd i → bd' i) : Ok w0 X A0 N bd' σ a w A μ :=
  ⟨h.tm, h.df, h.env, h.os, h.tape, h.out, h.size, h.old, h.hA, h.sub, h.ob, h.ap, fun i hi => hb i (h.bd i hi)⟩
theorem Ok.val {d : Option Tmp} {v : V} {cv : Value} (h : Ok w0 X A0 N bd σ a w A μ) (hv : Rv w A μ v cv) (hd : ∀ n, d = some n → n < N) :
    Ok w0 X A0 N bd ((σ.put d v).eff Eff.no) (a.put d cv) w A μ ∧ Ext d.toList a w A μ (a.put d cv) w A μ :=
  h.step (Tc := fun _ => False) rfl rfl rfl (Nat.le_refl _) (fun _ _ _ => rfl) (fun _ h => h.elim) (fun _ h => h.elim) (fun _ h => h) (fun b hb => ⟨(h.hA b hb).1, .inl hb⟩) (fun _ _ h => h) h.bd hv hd
    (fun _ _ _ _ _ _ _ _ h => h) (fun i ob hi => by cases hi) (fun i ob hi => by cases hi)
theorem Rv.one {u : V} {c : Value} (h : Rv w A μ u c) (hs : u ≠ .und) (ha : ∀ xs, u ≠ .agg xs) (ht : ∀ xs, u ≠ .tup xs) : c.oneCell' = true := by
  cases h with
  | c h => cases h <;> first | rfl | exact absurd rfl hs
  | agg xs => exact absurd rfl (ha _)
  | tup xs => exact absurd rfl (ht _)
  | _ => rfl
theorem Rv.one' {u : V} {c : Value} (h : Rv w A μ u c) (hs : u.shut = true) : c.oneCell' = true :=
  h.one (by rintro rfl; cases hs) (by rintro xs rfl; cases hs) (by rintro xs rfl; cases hs)
theorem iT {u : V} {c : Value} (h : Rv w A μ u c) (hs : u.shut = true) : Rc w A u c := by
  cases h with
  | c h => exact h
  | _ => cases hs
def iJ (w0 : World) (X A0 : Nat → Prop) (N : Nat) (bd : Nat → Prop) (σ' : St) (hv : List Tmp) (a : Act) (w : World) (A : Nat → Prop) (μ : Nat → Option Loc) (a' : Act) (w' : World) : Prop :=
  ∃ A' μ', Ok w0 X A0 N bd σ' a' w' A' μ' ∧ Ext hv a w A μ a' w' A' μ'
theorem aHQ {o : Oper} {t : TypeId} {x : Operand} {id : Nat} (ho : o.op = .box t x) (hT : TOk P T) (h : Ok w0 X A0 N bd σ a w A μ) (hid : μ id = none) (hd : ∀ n, o.dst = some n → n < N) {ti : TI} (ht : T t = some ti)
    (hc : (σ.ev x).cells.length = ti.size) : o.wp P a w (iJ w0 X A0 N (fun i => bd i ∨ (id ≤ i ∧ i < id + 8)) ((σ.put o.dst (.bp id 0)).eff (Eff.set id (.box (σ.ev x).cells))) o.dst.toList a w A μ) Q := by
  have hpos := (hT _ _ ht).pos
  obtain ⟨h1, h2⟩ := kD (h.ev x) (by omega)
  have hrun : (execOp a.eval o).run P w = .ok (.value (.pointer (some ⟨w.heap.size, 0, none⟩))) (w.alloc (.cells (a.eval x).cells t)) := by
    simp [execOp, ho, Instr.box, newVar, newRow]
  unfold Oper.wp
  rw [hrun]
  refine ⟨A, upμ μ id ⟨some w.heap.size, 1, 1, ti.size, []⟩, h.new hid rfl ?_ (.bp _ _ _ _ (upμ_self ..) rfl) hd⟩
  refine ⟨w.heap.size, _, t, rfl, heap_alloc_new w _, h1, fun i u c hi hcc => ?_⟩
  exact (h2 i u c hi hcc).mono (fun _ h => h) (fun ad c hA hc => by rw [World.cell?_alloc_lt _ _ _ (h.hA _ hA).1]; exact hc) (upμ_sub _ hid)
theorem lY {t : TypeId} {ti : TI} (ht : sI P t ti) : ∃ i z, P.info? t = some i ∧ i.zero = some z ∧ i.size = ti.size ∧ z.cells.size = ti.size ∧ ti.zero.length = ti.size ∧ ∀ (w : World) A μ, ∀ (j : Nat) (u : V) (c : Value), ti.zero[j]? = some u → z.cells[j]? = some c → Rv w A μ u c := by
  obtain ⟨i, z, h1, h2, _, h4, h5, h6⟩ := ht.info
  refine ⟨i, z, h1, h4, h2, h6, by rw [← h5, ← h6]; simp, fun w A μ j u c hj hc => ?_⟩
  rw [← h5] at hj; simp at hj hc
  obtain ⟨c', hc', rfl⟩ := hj
  rw [hc] at hc'; injection hc' with hc'; subst hc'
  exact aGN w A μ c
theorem aBA {o : Oper} {t : TypeId} {id : Nat} (ho : o.op = .alloc t) (hT : TOk P T) (h : Ok w0 X A0 N bd σ a w A μ) (hid : μ id = none) (hd : ∀ n, o.dst = some n → n < N) {ti : TI} (ht : T t = some ti) :
    o.wp P a w (iJ w0 X A0 N (fun i => bd i ∨ (id ≤ i ∧ i < id + 8)) ((σ.put o.dst (.bp id 0)).eff (Eff.set id (.box ti.zero))) o.dst.toList a w A μ) Q := by
  obtain ⟨i, z, h1, h2, h3, h4, h5, h6⟩ := lY (hT _ _ ht)
  have hrun : (execOp a.eval o).run P w = .ok (.value (.pointer (some ⟨w.heap.size, 0, none⟩))) (w.alloc (.cells z.cells t)) := by
    simp [execOp, ho, Instr.alloc, newVar, newRow, zeroValue, typeInfo, h1, h2]
  unfold Oper.wp
  rw [hrun]
  refine ⟨A, upμ μ id ⟨some w.heap.size, 1, 1, ti.size, []⟩, h.new hid rfl ?_ (.bp _ _ _ _ (upμ_self ..) rfl) hd⟩
  exact ⟨w.heap.size, _, t, rfl, heap_alloc_new w _, by rw [h4, h5], fun i u c hi hcc => h6 _ _ _ i u c hi hcc⟩
theorem kG {sz : Nat} : ∀ (xs : List (List V)) (k : Nat) (u : V), (∀ p ∈ xs, p.length = sz) → xs.flatten[k]? = some u → ∃ p, xs[k / sz]? = some p ∧ p[k % sz]? = some u
  | [], k, u, _, h => by simp at h
  | q :: xs, k, u, hu, h => by
    have hq : q.length = sz := hu q (List.mem_cons_self ..)
    rw [List.flatten_cons] at h
    by_cases hk : k < sz
    · rw [List.getElem?_append_left (by omega)] at h
      rw [Nat.div_eq_of_lt hk, Nat.mod_eq_of_lt hk]
      exact ⟨q, rfl, h⟩
    · rw [List.getElem?_append_right (by omega), hq] at h
      obtain ⟨p, h1, h2⟩ := kG xs (k - sz) u (fun p hp => hu p (List.mem_cons_of_mem _ hp)) h
      have hs : 0 < sz := by
        rcases Nat.eq_zero_or_pos sz with e | e
        · subst e; simp at h2
          have : p.length = 0 := hu p (List.mem_cons_of_mem _ (List.mem_of_getElem? h1))
          have := List.eq_nil_of_length_eq_zero this; subst this; simp at h2
        · exact e
      have e1 : k / sz = (k - sz) / sz + 1 := by
        have := Nat.sub_add_cancel (Nat.le_of_not_lt hk)
        conv => lhs; rw [← this]
        rw [Nat.add_div_right _ hs]
      have e2 : k % sz = (k - sz) % sz := by
        have := Nat.sub_add_cancel (Nat.le_of_not_lt hk)
        conv => lhs; rw [← this]
        rw [Nat.add_mod_right]
      rw [e1, e2]
      exact ⟨p, by simpa using h1, h2⟩
theorem gY {sz : Nat} : ∀ (xs : List (List V)), (∀ p ∈ xs, p.length = sz) → xs.flatten.length = xs.length * sz
  | [], _ => by simp
  | q :: xs, hu => by
    rw [List.flatten_cons, List.length_append, hu q (List.mem_cons_self ..), gY xs (fun p hp => hu p (List.mem_cons_of_mem _ hp)), List.length_cons, Nat.add_mul]; omega
theorem vN {ev : Operand → V} {sz : Nat} : ∀ (l : List (Nat × Operand)) (n : Nat) (xs : List (List V)), rows ev sz n l = some xs →
    xs = l.map (fun x => (ev x.2).cells) ∧ (∀ x ∈ l, (ev x.2).cells.length = sz ∧ (ev x.2).cells.all V.shut = true) ∧ ∀ ρ : Operand → Value, l.map (fun x => (x.1, ρ x.2)) = ((l.map fun x => ρ x.2).zipIdx n).map fun x => (x.2, x.1)
  | [], n, xs, h => by simp only [rows] at h; injection h with h; subst h; exact ⟨rfl, fun _ h => (by cases h), fun ρ => rfl⟩
  | (i, x) :: l, n, xs, h => by
    simp only [rows] at h
    split at h
    · rename_i r e1 e2 e3 e4
      injection h with h; subst h
      obtain ⟨h1, h2, h3⟩ := vN l (n + 1) r e4
      have hi := Nat.eq_of_beq_eq_true e1
      refine ⟨by rw [h1]; rfl, fun y hy => ?_, fun ρ => ?_⟩
      · rcases List.mem_cons.1 hy with rfl | hy
        · exact ⟨Nat.eq_of_beq_eq_true e2, e3⟩
        · exact h2 y hy
      · simp only [List.map_cons, List.zipIdx_cons, h3 ρ, hi]
    · cases h
theorem lD {o : Oper} {t : TypeId} {len : Nat} {parts : Array (Nat × Operand)} (ho : o.op = .buildSlice t len parts) (hT : TOk P T) (h : Ok w0 X A0 N bd σ a w A μ)
    {ti ei : TI} (ht : T t = some ti) (he : T ti.elem = some ei) (hsl : ti.sl = true) {xs : List (List V)} (hr : rows σ.ev ei.size 0 parts.toList = some xs) (hl : xs.length = len) (hsm : len * ei.size ≤ 1000)  (μ2 : Nat → Option Loc) :
    ∃ arr : Array Value, (execOp a.eval o).run P w = .ok (.value (.slice (some ⟨w.heap.size, 0, none⟩) len len)) (w.alloc (.cells arr ti.elem)) ∧ gP (w.alloc (.cells arr ti.elem)) A μ2 ⟨some w.heap.size, len, len, ei.size, []⟩ (.arr ti.elem ei.size xs) := by
  obtain ⟨d, hdd, _, _, _, h4, _⟩ := (hT _ _ ht).desc
  have hd1 := (h4 hsl).1; subst hd1
  obtain ⟨i, z, g1, g2, g3, g4, g5, g6⟩ := lY (hT _ _ he)
  have hpos := (hT _ _ he).pos
  obtain ⟨r1, r2, r3⟩ := vN _ _ _ hr
  have hmem : ∀ p ∈ xs, p.length = ei.size := fun p hp => by
    rw [r1] at hp; obtain ⟨x, hx, rfl⟩ := List.mem_map.1 hp; exact (r2 x hx).1
  have hvs : ∀ v ∈ parts.toList.map (fun x => a.eval x.2), v.cells.size = ei.size := fun v hv => by
    obtain ⟨x, hx, rfl⟩ := List.mem_map.1 hv
    have := (kD (h.ev x.2) (by rw [(r2 x hx).1]; omega)).1
    rw [this]; exact (r2 x hx).1
  have hlen : parts.toList.length = len := by rw [← hl, r1, List.length_map]
  have hrun : ∃ arr : Array Value, (execOp a.eval o).run P w = .ok (.value (.slice (some ⟨w.heap.size, 0, none⟩) len len)) (w.alloc (.cells arr ti.elem)) ∧ arr.toList = (parts.toList.map (fun x => a.eval x.2)).flatMap (fun v => v.cells.toList) := by
    by_cases h0 : len = 0
    · subst h0
      have : parts = #[] := by apply Array.toList_inj.1; exact List.eq_nil_of_length_eq_zero hlen
      subst this
      have hb : (Instr.buildSlice t 0 #[]).run P w = .ok (.slice (some ⟨w.heap.size, 0, none⟩) 0 0) (w.alloc (.cells #[] ti.elem)) := by
        simp [Instr.buildSlice, run_underlying hdd, sizeOf, typeInfo, g1, newRow, Instr.fill]
        rw [show Array.range 0 = #[] from by apply Array.toList_inj.1; simp]; simp
      exact ⟨#[], by simp [execOp, ho, hb], rfl⟩
    · have hf := Great.fill_whole hpos (parts.toList.map (fun x => a.eval x.2)) ((Array.range (len * i.size)).map (z.cells[· % z.cells.size]!)) hvs (by simp; rw [g3, show parts.size = len by simpa using hlen])
      rw [← r3] at hf
      have := run_buildSlice (P := P) w t ti.elem len (parts.map fun (i, x) => (i, a.eval x)) _ i z hdd g1 g2 (by rw [g3]; omega) (by rw [g3]; intro e; rcases Nat.mul_eq_zero.1 e with e | e <;> omega)
        (by rw [Array.toList_map, g3]; rw [g3] at hf; exact hf)
      exact ⟨_, by simp only [execOp, ho, Sem.run_bind, this, Result.andThen_ok]; rfl, rfl⟩
  obtain ⟨arr, hrun, harr⟩ := hrun
  have hasz : arr.size = len * ei.size := by
    rw [← Array.length_toList, harr, List.length_flatMap]
    rw [← hlen]
    clear hrun harr hr r1 r3 hl hsm hlen hmem r2
    generalize parts.toList = l at hvs ⊢
    induction l with
    | nil => simp
    | cons x l ih =>
      simp only [List.map_cons, List.sum_cons, List.length_cons]
      rw [ih (fun v hv => hvs v (by simp only [List.map_cons]; exact List.mem_cons_of_mem _ hv))]
      rw [Array.length_toList, hvs _ (by simp), Nat.add_mul]; omega
  have key : ∀ (k : Nat) (u : V) (c : Value), xs.flatten[k]? = some u → arr.toList[k]? = some c → Rv w A μ u c ∧ u.shut = true := fun k u c hk hc => by
    obtain ⟨p, hp1, hp2⟩ := kG xs k u hmem hk
    rw [harr, Great.flat_get hpos _ hvs] at hc
    rw [r1] at hp1
    simp only [List.getElem?_map] at hp1 hc
    obtain ⟨x, hx, rfl⟩ := Option.map_eq_some_iff.1 hp1
    rw [hx] at hc
    have hxm := r2 x (List.mem_of_getElem? hx)
    exact ⟨(kD (h.ev x.2) (by rw [hxm.1]; omega)).2 _ u c hp2 (by simpa using hc), List.all_eq_true.1 hxm.2 u (List.mem_of_getElem? hp2)⟩
  refine ⟨arr, hrun, ?_⟩
  refine ⟨rfl, hl.symm, hmem, arr.toList, ⟨by simp [hasz], .inr ⟨w.heap.size, len, arr, rfl, Nat.zero_le _, heap_alloc_new w _, Nat.le_refl _, by unfold maxLen; have := Nat.le_mul_of_pos_right len hpos; omega, hasz, by rw [List.take_of_length_le (by simp [hasz])]⟩⟩, fun c hc => ?_, fun k u c hk hc => ?_⟩
  · obtain ⟨k, hk, rfl⟩ := List.getElem_of_mem hc
    have hlt : k < xs.flatten.length := by rw [gY xs hmem, hl, ← hasz]; simpa using hk
    obtain ⟨g1, g2⟩ := key k _ _ (List.getElem?_eq_getElem hlt) (List.getElem?_eq_getElem hk)
    exact g1.one' g2
  · obtain ⟨g1, g2⟩ := key k u c hk hc
    exact (iT g1 g2).mono (fun _ h => h) (fun ad c hA hc => by rw [World.cell?_alloc_lt _ _ _ (h.hA _ hA).1]; exact hc)
theorem sF {o : Oper} {t : TypeId} {len : Nat} {parts : Array (Nat × Operand)} {id : Nat} (ho : o.op = .buildSlice t len parts) (hT : TOk P T) (h : Ok w0 X A0 N bd σ a w A μ) (hid : μ id = none) (hd : ∀ n, o.dst = some n → n < N)
    {ti ei : TI} (ht : T t = some ti) (he : T ti.elem = some ei) (hsl : ti.sl = true) {xs : List (List V)} (hr : rows σ.ev ei.size 0 parts.toList = some xs) (hl : xs.length = len) (hsm : len * ei.size ≤ 1000) :
    o.wp P a w (iJ w0 X A0 N (fun i => bd i ∨ (id ≤ i ∧ i < id + 8)) ((σ.put o.dst (.own id len)).eff (Eff.set id (.arr ti.elem ei.size xs))) o.dst.toList a w A μ) Q := by
  obtain ⟨arr, hrun, hob⟩ := lD ho hT h ht he hsl hr hl hsm (upμ μ id ⟨some w.heap.size, len, len, ei.size, []⟩)
  unfold Oper.wp
  rw [hrun]
  exact ⟨A, upμ μ id ⟨some w.heap.size, len, len, ei.size, []⟩, h.new hid rfl hob (.own _ ⟨some w.heap.size, len, len, ei.size, []⟩ (upμ_self ..)) hd⟩
end
end Go.Aw
set_option linter.unusedVariables false
namespace Go.Aw
section
variable {P : Program} {T : TypeId → Option TI} {ck : Nat → Bool} {w0 : World} {X A0 : Nat → Prop} {N : Nat} {bd : Nat → Prop} {σ : St} {a : Act} {w : World} {A : Nat → Prop} {μ : Nat → Option Loc} {Q : Exit → Act → World → Prop}
theorem Ok.chg {i : Nat} {ob0 ob : Ob} {l : Loc} {b : Nat} {w' : World} {d : Option Tmp} {v : V} {cv : Value} (h : Ok w0 X A0 N bd σ a w A μ) (hi : σ.mem i = some ob0) (hl : μ i = some l) (hlb : l.b = some b)
    (hos : w'.os = w.os) (htape : w'.tape = w.tape) (hout : w'.output = w.output) (hsz : w'.heap.size = w.heap.size) (hkeep : ∀ k, k ≠ b → w'.heap[k]? = w.heap[k]?)
    (hob : (∀ ad c, A ad.block → w.cell? ad = some c → w'.cell? ad = some c) → gP w' A μ l ob) (hv : V.bare v = true ∨ v = .tup []) (hcv : Rv w' A μ v cv) (hd : ∀ n, d = some n → n < N) :
    Ok w0 X A0 N bd ((σ.put d v).eff (Eff.set i ob)) (a.put d cv) w' A μ ∧ Ext d.toList a w A μ (a.put d cv) w' A μ := by
  obtain ⟨l', hl', _, hb'⟩ := h.ob i ob0 hi
  obtain rfl : l' = l := by rw [hl] at hl'; injection hl' with e; exact e.symm
  obtain ⟨hb1, hb2, hb3⟩ := hb' b (.inl hlb)
  have hc : ∀ ad c, A ad.block → w.cell? ad = some c → w'.cell? ad = some c := fun ad c hA hcc => by
    rw [World.cell?_of_block (hkeep ad.block (fun e => hb2 (e ▸ hA)))]; exact hcc
  refine h.step (Tc := fun k => k = b) hos htape hout (by rw [hsz]; exact Nat.le_refl _) (fun k _ hk => hkeep k hk) (fun k e => e ▸ hb2) (fun k e => e ▸ hb3) (fun _ h => h) (fun k hk => ⟨by rw [hsz]; exact (h.hA k hk).1, .inl hk⟩) (fun _ _ h => h) h.bd hcv hd
    (fun j obj lj k hej hmj hlj hkj e => ?_) (fun j ob' hj => ?_) (fun j ob' hj n hn lj ln k h1 h2 h3 h4 => ?_)
  · subst e
    have := h.ap i j l' lj k (by rw [hi]; simp) (by rw [hmj]; simp) hl hlj (.inl hlb) hkj
    subst this
    rw [Eff.set_eq, if_pos rfl] at hej; cases hej
  · rw [Eff.set_eq] at hj; split at hj
    · rename_i e; subst e; injection hj with hj; injection hj with hj; subst hj
      refine ⟨l', hl, hob hc, fun k hk => ?_⟩
      obtain ⟨q1, q2, q3⟩ := hb' k hk
      exact ⟨by rw [hsz]; exact q1, q2, q3⟩
    · cases hj
  · rw [Eff.set_eq] at hj; split at hj
    · rename_i e; subst e
      rcases hn with ⟨ob2, hn⟩ | ⟨hn, hm⟩
      · rw [Eff.set_eq] at hn; split at hn
        · rename_i e; exact e.symm
        · cases hn
      · exact h.ap j n lj ln k (by rw [hi]; simp) hm h1 h2 h3 h4
    · cases hj
theorem uC {P : Program} {w : World} {b off : Nat} {arr : Array Value} {el : TypeId} (vs : List Value) (hb : w.heap[b]? = some (.cells arr el (0, 0))) (hle : off + vs.length ≤ arr.size) (h1 : ∀ v ∈ vs, v.oneCell' = true) :
    (storeCells ⟨b, off, none⟩ vs).run P w = .ok () (w.setRow b (arr.toList.take off ++ vs ++ arr.toList.drop (off + vs.length)).toArray) := by
  have := run_storeCells_at P b off el vs 0 arr w hb (by omega) h1
  simpa using this
end
end Go.Aw
set_option linter.unusedVariables false
namespace Go.Aw
section
variable {P : Program} {T : TypeId → Option TI} {ck : Nat → Bool} {w0 : World} {X A0 : Nat → Prop} {N : Nat} {bd : Nat → Prop} {σ : St} {a : Act} {w : World} {A : Nat → Prop} {μ : Nat → Option Loc} {Q : Exit → Act → World → Prop}
theorem rK {α : Type} {cs vs : List α} {off n : Nat} (h : off + vs.length ≤ n) (hn : n ≤ cs.length) : (iI cs off vs).take n = iI (cs.take n) off vs := by
  apply List.ext_getElem?
  intro k
  rw [List.getElem?_take, fN (by omega), fN (by simp; omega), List.getElem?_take]
  by_cases h1 : k < n
  · rw [if_pos h1, if_pos h1]
  · rw [if_neg h1, if_neg h1, if_neg (by omega)]
theorem mK {sz off : Nat} {vs : List V} : ∀ (xs : List (List V)) (idx : Nat) (p : List V), (∀ p ∈ xs, p.length = sz) → xs[idx]? = some p → off + vs.length ≤ p.length →
    (xs.set idx (iI p off vs)).flatten = iI xs.flatten (idx * sz + off) vs
  | [], idx, p, _, h, _ => by simp at h
  | q :: xs, 0, p, hu, h, hl => by
    simp at h; subst h
    have hq : q.length = sz := hu q (List.mem_cons_self ..)
    rw [List.set_cons_zero, List.flatten_cons, List.flatten_cons]
    apply List.ext_getElem?
    intro k
    rw [Nat.zero_mul, Nat.zero_add, fN (by simp; omega)]
    by_cases h1 : k < q.length
    · rw [List.getElem?_append_left (by rw [gE hl]; exact h1), fN hl, List.getElem?_append_left h1]
    · rw [List.getElem?_append_right (by rw [gE hl]; omega), gE hl, if_neg (by omega), List.getElem?_append_right (by omega)]
  | q :: xs, idx + 1, p, hu, h, hl => by
    have hq : q.length = sz := hu q (List.mem_cons_self ..)
    have ih := mK (off := off) (vs := vs) xs idx p (fun p hp => hu p (List.mem_cons_of_mem _ hp)) (by simpa using h) hl
    have hlen : idx * sz + off + vs.length ≤ xs.flatten.length := by
      rw [gY xs (fun p hp => hu p (List.mem_cons_of_mem _ hp))]
      have h1 : idx < xs.length := (List.getElem?_eq_some_iff.1 (by simpa using h : xs[idx]? = some p)).1
      have h2 : p.length = sz := hu p (List.mem_cons_of_mem _ (List.mem_of_getElem? (by simpa using h : xs[idx]? = some p)))
      have h3 := Nat.mul_le_mul_right sz h1
      rw [Nat.succ_mul] at h3
      omega
    rw [List.set_cons_succ, List.flatten_cons, List.flatten_cons, ih]
    apply List.ext_getElem?
    intro k
    rw [fN (by rw [List.length_append, hq, Nat.succ_mul]; omega)]
    by_cases h1 : k < q.length
    · rw [List.getElem?_append_left h1, if_neg (by rw [Nat.succ_mul]; omega), List.getElem?_append_left h1]
    · rw [List.getElem?_append_right (by omega), fN hlen, List.getElem?_append_right (by omega)]
      have e : k - (( idx + 1) * sz + off) = k - q.length - (idx * sz + off) := by rw [Nat.succ_mul]; omega
      by_cases c : (idx + 1) * sz + off ≤ k ∧ k < (idx + 1) * sz + off + vs.length
      · rw [if_pos c, if_pos (by rw [Nat.succ_mul] at c; omega), e]
      · rw [if_neg c, if_neg (by rw [Nat.succ_mul] at c; omega)]
theorem lK {o : Oper} {t : TypeId} {x y : Operand} (ho : o.op = .store t x y) {ti : TI} (ht : sI P t ti) {b off : Nat} {arr : Array Value} {el : TypeId} (hx : a.eval x = .pointer (some ⟨b, off, none⟩)) (hb : w.heap[b]? = some (.cells arr el (0, 0)))
    (hs : (a.eval y).cells.size = ti.size) (hle : off + ti.size ≤ arr.size) (h1 : ∀ v ∈ (a.eval y).cells.toList, v.oneCell' = true) :
    (execOp a.eval o).run P w = .ok .skip (w.setRow b (iI arr.toList off (a.eval y).cells.toList).toArray) := by
  have h2 := uC (P := P) (w := w) (b := b) (off := off) (a.eval y).cells.toList hb (by simp [hs]; omega) h1
  have h3 : (Instr.storeAt t (a.eval x) (a.eval y)).run P w = .ok () (w.setRow b (iI arr.toList off (a.eval y).cells.toList).toArray) := by
    simp only [Instr.storeAt, hx, Instr.sureAddr, storeVar, Sem.run_bind, jM ht, Sem.run_pure, Sem.run_pure', Result.andThen_ok, hs]
    rw [if_neg (by simp)]
    exact h2
  simp only [execOp, ho, Sem.run_bind, h3, Result.andThen_ok]
  rfl
theorem uB {o : Oper} {t : TypeId} {x y : Operand} {i off : Nat} {cs : List V} (ho : o.op = .store t x y) (hT : TOk P T) (h : Ok w0 X A0 N bd σ a w A μ) (hd : ∀ n, o.dst = some n → n < N) {ti : TI} (ht : T t = some ti)
    (hc : (σ.ev y).cells.length = ti.size) (hlf : (σ.ev y).cells.all V.leaf = true) (hx : σ.ev x = .bp i off) (hi : σ.mem i = some (.box cs)) (hle : off + ti.size ≤ cs.length) :
    o.wp P a w (iJ w0 X A0 N bd ((σ.put o.dst (.tup [])).eff (Eff.set i (.box (iI cs off (σ.ev y).cells)))) o.dst.toList a w A μ) Q := by
  have hpos := (hT _ _ ht).pos
  have hxv := h.ev x; rw [hx] at hxv
  obtain ⟨l, b, hl, hlb, hxe⟩ := hxv.bp_inv
  obtain ⟨l', hl', hob, _⟩ := h.ob i _ hi
  obtain rfl : l' = l := by rw [hl] at hl'; injection hl' with e; exact e.symm
  obtain ⟨b', arr, el, hb', hheap, hasz, har⟩ := hob
  obtain rfl : b' = b := by rw [hlb] at hb'; injection hb' with e; exact e.symm
  obtain ⟨g1, g2⟩ := kD (h.ev y) (by omega)
  have hone : ∀ v ∈ (a.eval y).cells.toList, v.oneCell' = true := fun v hv => by
    obtain ⟨k, hk, rfl⟩ := List.getElem_of_mem hv
    have hk' : k < (σ.ev y).cells.length := by rw [← g1]; simpa using hk
    have := List.all_eq_true.1 hlf _ (List.getElem_mem hk')
    refine (g2 k _ _ (List.getElem?_eq_getElem hk') (by simp at hk ⊢)).one ?_ ?_ ?_
    · intro e; rw [e] at this; cases this
    · intro xs e; rw [e] at this; cases this
    · intro xs e; rw [e] at this; cases this
  unfold Oper.wp
  rw [lK (P := P) ho (hT _ _ ht) hxe hheap (g1.trans hc) (by omega) hone]
  have hvl : (a.eval y).cells.toList.length = (σ.ev y).cells.length := by simpa using g1
  refine ⟨A, μ, h.chg hi hl hlb rfl rfl rfl (by simp) (fun k hk => setRow_other w b' k _ hk) (fun hcell => ?_) (.inr rfl) (.tup [] #[] rfl (fun i x c h => by simp at h)) hd⟩
  refine ⟨b', _, el, hlb, setRow_heap w b' arr _ el _ hheap, ?_, fun k u c hk hck => ?_⟩
  · rw [List.size_toArray, gE (by simp [hvl]; omega), gE (by omega)]; simpa using hasz
  · rw [fN (by omega)] at hk
    rw [List.getElem?_toArray, fN (by simp [hvl]; omega), hvl] at hck
    by_cases c1 : off ≤ k ∧ k < off + (σ.ev y).cells.length
    · rw [if_pos c1] at hk hck
      exact (g2 _ u c hk (by simpa using hck)).mono (fun _ h => h) hcell (fun _ _ h => h)
    · rw [if_neg c1] at hk hck
      exact (har k u c hk (by simpa using hck)).mono (fun _ h => h) hcell (fun _ _ h => h)
theorem uJ {o : Oper} {t : TypeId} {x y : Operand} {i idx off : Nat} {e : TypeId} {sz : Nat} {xs : List (List V)} {p : List V} (ho : o.op = .store t x y) (hT : TOk P T) (h : Ok w0 X A0 N bd σ a w A μ) (hd : ∀ n, o.dst = some n → n < N) {ti : TI} (ht : T t = some ti)
    (hc : (σ.ev y).cells.length = ti.size) (hlf : (σ.ev y).cells.all V.shut = true) (hx : σ.ev x = .ep i idx off) (hi : σ.mem i = some (.arr e sz xs)) (hp : xs[idx]? = some p) (hle : off + ti.size ≤ p.length) :
    o.wp P a w (iJ w0 X A0 N bd ((σ.put o.dst (.tup [])).eff (Eff.set i (.arr e sz (xs.set idx (iI p off (σ.ev y).cells))))) o.dst.toList a w A μ) Q := by
  have hpos := (hT _ _ ht).pos
  have hxv := h.ev x; rw [hx] at hxv
  obtain ⟨l, b, hl, hlb, hxe⟩ := hxv.ep_inv
  obtain ⟨l', hl', hob, _⟩ := h.ob i _ hi
  obtain rfl : l' = l := by rw [hl] at hl'; injection hl' with e; exact e.symm
  obtain ⟨hsz, hlen, hu, cs, ⟨ho1, ho2⟩, hones, hrc⟩ := hob
  rcases ho2 with ⟨e1, e2⟩ | ⟨g, cap, cur, e1, e2, e3, e4, e5, e6, e7⟩
  · rw [hlb] at e1; simp at e1
  rw [hlb] at e1; simp at e1
  obtain ⟨rfl, rfl⟩ := e1
  obtain ⟨g1, g2⟩ := kD (h.ev y) (by omega)
  have hpl : p.length = sz := hu p (List.mem_of_getElem? hp)
  have hidx : idx < xs.length := (List.getElem?_eq_some_iff.1 hp).1
  have hmul : idx * sz + sz ≤ l'.len * sz := by rw [hlen]; have := Nat.mul_le_mul_right sz hidx; rw [Nat.succ_mul] at this; exact this
  have hcap : l'.len * sz ≤ cur.size := by rw [e6]; exact Nat.mul_le_mul_right _ e4
  have hvl : (a.eval y).cells.toList.length = (σ.ev y).cells.length := by simpa using g1
  have hone : ∀ v ∈ (a.eval y).cells.toList, v.oneCell' = true := fun v hv => by
    obtain ⟨k, hk, rfl⟩ := List.getElem_of_mem hv
    have hk' : k < (σ.ev y).cells.length := by rw [← hvl]; exact hk
    exact (g2 k _ _ (List.getElem?_eq_getElem hk') (by simp at hk ⊢)).one' (List.all_eq_true.1 hlf _ (List.getElem_mem hk'))
  unfold Oper.wp
  rw [lK (P := P) ho (hT _ _ ht) (by rw [hxe, hsz]) e3 (g1.trans hc) (by omega) hone]
  have hcl : cs.length = l'.len * sz := ho1
  have hflen : xs.flatten.length = l'.len * sz := by rw [gY xs hu, hlen]
  refine ⟨A, μ, h.chg hi hl hlb rfl rfl rfl (by simp) (fun k hk => setRow_other w b k _ hk) (fun hcell => ?_) (.inr rfl) (.tup [] #[] rfl (fun i x c h => by simp at h)) hd⟩
  refine ⟨hsz, by simpa using hlen, fun q hq => ?_, iI cs (idx * sz + off) (a.eval y).cells.toList, ⟨?_, .inr ⟨b, l'.cap, _, by rw [hlb]; rfl, Nat.zero_le _, setRow_heap w b cur _ e _ e3, e4, e5, ?_, ?_⟩⟩, fun c hcm => ?_, fun k u c hk hck => ?_⟩
  · rcases List.mem_or_eq_of_mem_set hq with hq | rfl
    · exact hu q hq
    · rw [gE (by omega), hpl]
  · rw [gE (by omega), hcl]
  · rw [List.size_toArray, gE (by simp; omega)]; simpa using e6
  · show (iI cur.toList _ _).take _ = _
    rw [rK (by omega) (by simp; omega), e7]
  · obtain ⟨k, hk, rfl⟩ := List.getElem_of_mem hcm
    have hk' : (iI cs (idx * sz + off) (a.eval y).cells.toList)[k]? = some ((iI cs (idx * sz + off) (a.eval y).cells.toList)[k]) := List.getElem?_eq_getElem hk
    have hk2 := hk'
    rw [fN (by omega)] at hk'
    split at hk'
    · exact hone _ (List.mem_of_getElem? hk')
    · exact hones _ (List.mem_of_getElem? hk')
  · rw [mK xs idx p hu hp (by omega), fN (by omega)] at hk
    rw [fN (by omega), hvl] at hck
    by_cases c1 : idx * sz + off ≤ k ∧ k < idx * sz + off + (σ.ev y).cells.length
    · rw [if_pos c1] at hk hck
      exact (iT (g2 _ u c hk (by simpa using hck)) (List.all_eq_true.1 hlf _ (List.mem_of_getElem? hk))).mono (fun _ h => h) hcell
    · rw [if_neg c1] at hk hck
      exact (hrc k u c hk hck).mono (fun _ h => h) hcell
end
end Go.Aw
set_option linter.unusedVariables false
namespace Go.Aw
section
variable {P : Program} {T : TypeId → Option TI} {ck : Nat → Bool} {w0 : World} {X A0 : Nat → Prop} {N : Nat} {bd : Nat → Prop} {σ : St} {a : Act} {w : World} {A : Nat → Prop} {μ : Nat → Option Loc} {Q : Exit → Act → World → Prop}
theorem Ok.app {i id : Nat} {ob : Ob} {l' : Loc} {w' : World} {d : Option Tmp} {v : V} {cv : Value} {ob0 : Nat → Prop} (h : Ok w0 X A0 N bd σ a w A μ) (hid : μ id = none)
    (hos : w'.os = w.os) (htape : w'.tape = w.tape) (hout : w'.output = w.output) (hsz : w.heap.size ≤ w'.heap.size) (hkeep : ∀ k, k < w.heap.size → ¬ ob0 k → w'.heap[k]? = w.heap[k]?)
    (hob0 : ∀ k, ob0 k → ∃ l o, μ i = some l ∧ l.has k ∧ σ.mem i = some o)
    (hb : ∀ k, l'.has k → (∃ l o, μ i = some l ∧ l.has k ∧ σ.mem i = some o) ∨ (k = w.heap.size ∧ w.heap.size < w'.heap.size))
    (hob : (∀ ad c, A ad.block → w.cell? ad = some c → w'.cell? ad = some c) → gP w' A (upμ μ id l') l' ob) (hcv : Rv w' A (upμ μ id l') v cv) (hd : ∀ n, d = some n → n < N) :
    Ok w0 X A0 N (fun i => bd i ∨ (id ≤ i ∧ i < id + 8)) ((σ.put d v).eff (Eff.app i id ob)) (a.put d cv) w' A (upμ μ id l') ∧ Ext d.toList a w A μ (a.put d cv) w' A (upμ μ id l') := by
  have old : ∀ k, (∃ l o, μ i = some l ∧ l.has k ∧ σ.mem i = some o) → k < w.heap.size ∧ ¬ A k ∧ (X k ∨ w0.heap.size ≤ k) := fun k ⟨l, o, h1, h2, h3⟩ => by
    obtain ⟨l2, g1, _, g3⟩ := h.ob i o h3
    rw [h1] at g1; injection g1 with g1; subst g1
    exact g3 k h2
  have hc : ∀ ad c, A ad.block → w.cell? ad = some c → w'.cell? ad = some c := fun ad c hA hcc => by
    rw [World.cell?_of_block (hkeep ad.block (h.hA _ hA).1 (fun e => (old _ (hob0 _ e)).2.1 hA))]; exact hcc
  refine h.step (Tc := ob0) hos htape hout hsz hkeep (fun k hk => (old k (hob0 k hk)).2.1) (fun k hk => (old k (hob0 k hk)).2.2) (fun _ h => h) (fun k hk => ⟨Nat.lt_of_lt_of_le (h.hA k hk).1 hsz, .inl hk⟩) (upμ_sub l' hid) (fun j hj => ?_) hcv hd
    (fun j obj lj k hej hmj hlj hkj e => ?_) (fun j ob' hj => ?_) (fun j ob' hj n hn lj ln k h1 h2 h3 h4 => ?_)
  · unfold upμ at hj; split at hj
    · rename_i e; subst e; exact .inr ⟨Nat.le_refl _, by omega⟩
    · exact .inl (h.bd j hj)
  · obtain ⟨l, o, g1, g2, g3⟩ := hob0 k e
    have := h.ap i j l lj k (by rw [g3]; simp) (by rw [hmj]; simp) g1 hlj g2 hkj
    subst this
    rw [Eff.app_eq] at hej; split at hej
    · cases hej
    · rw [if_pos rfl] at hej; cases hej
  · rw [Eff.app_eq] at hj; split at hj
    · rename_i e; subst e; injection hj with hj; injection hj with hj; subst hj
      refine ⟨l', upμ_self .., hob hc, fun k hk => ?_⟩
      rcases hb k hk with h1 | ⟨h1, h2⟩
      · obtain ⟨g1, g2, g3⟩ := old k h1
        exact ⟨Nat.lt_of_lt_of_le g1 hsz, g2, g3⟩
      · subst h1; exact ⟨h2, fun hA => absurd (h.hA _ hA).1 (Nat.lt_irrefl _), .inr h.size⟩
    · split at hj <;> cases hj
  · rw [Eff.app_eq] at hj; split at hj
    · rename_i e; subst e
      rw [upμ_self] at h1; injection h1 with h1; subst h1
      by_cases c : n = j
      · exact c.symm
      · rcases hn with ⟨ob2, hn⟩ | ⟨hn, hm⟩
        · rw [Eff.app_eq, if_neg c] at hn; split at hn <;> cases hn
        · simp only [upμ, if_neg c] at h2
          obtain ⟨on, hon⟩ := Option.ne_none_iff_exists'.1 hm
          rcases hb k h3 with ⟨l, o, g1, g2, g3⟩ | ⟨g1, g2⟩
          · have := h.ap i n l ln k (by rw [g3]; simp) hm g1 h2 g2 h4
            subst this
            rw [Eff.app_eq, if_neg c, if_pos rfl] at hn; cases hn
          · obtain ⟨l2, hl2, _, hb2⟩ := h.ob n on hon
            rw [h2] at hl2; injection hl2 with hl2; subst hl2
            have := (hb2 k h4).1
            omega
    · split at hj <;> cases hj
theorem Eff.set_app (i : Nat) (ob : Ob) : Eff.set i ob = Eff.app i i ob := by
  funext j
  rw [Eff.set_eq, Eff.app_eq]
  by_cases h : j = i <;> simp [h]
theorem aFB (h : Ok w0 X A0 N bd σ a w A μ) {size : Nat} {x : Operand} {K : List (List V) → Nat → Prop} (hs : sE ck σ.mem size (σ.ev x) K) :
    ∃ ys n ad c, ∃ news : List Value, K ys n ∧ n = ys.length ∧ (∀ p ∈ ys, p.length = size) ∧ a.eval x = .slice ad n c ∧ news.length = n * size ∧ (∀ b, ad = some b → ∀ (j : Nat) (u : Value), news[j]? = some u → w.cell? (b.add j) = some u) ∧ (ad = none → n = 0) ∧
      (∀ c ∈ news, c.oneCell' = true) ∧ ∀ (k : Nat) (u : V) (c : Value), ys.flatten[k]? = some u → news[k]? = some c → Rc w A u c := by
  have hx := h.ev x
  unfold sE at hs
  split at hs
  · rename_i e; rw [e] at hx
    exact ⟨[], 0, none, 0, [], hs, rfl, fun _ h => (by cases h), hx.nil_inv, by simp, fun _ e => (by cases e), fun _ => rfl, fun _ h => (by cases h), fun k u c hk => by simp at hk⟩
  · rename_i sz nn ys e
    rw [e] at hx
    split at hs
    · rename_i hb
      have hsz := Nat.eq_of_beq_eq_true hb
      subst hsz
      obtain ⟨ao, cap, f, hnn, hv, hc, hu, g0, g1, g2, g3⟩ := hx.sl_inv
      subst hnn
      refine ⟨ys, ys.length, ao, cap, (List.range ys.flatten.length).map f, hs, rfl, hu, hv, by simp [gY ys hu], fun b hb j u hj => ?_, fun hn => ?_, fun c hc => ?_, fun k u c hk hc => ?_⟩
      · simp at hj
        obtain ⟨j', hj', rfl⟩ := hj
        obtain ⟨hlt, e⟩ := List.getElem?_eq_some_iff.1 hj'
        simp at e hlt; subst e
        have hlt' : j < ys.flatten.length := by simpa using hlt
        exact g1 b j _ hb (List.getElem?_eq_getElem hlt')
      · by_cases hy : ys = []
        · rw [hy]; rfl
        · obtain ⟨ad, hh, _⟩ := g0 hy; rw [hn] at hh; cases hh
      · obtain ⟨k, hk, rfl⟩ := List.mem_map.1 hc
        have := List.mem_range.1 hk
        exact g3 k _ (List.getElem?_eq_getElem this)
      · simp at hc
        obtain ⟨j', hj', rfl⟩ := hc
        obtain ⟨hlt, e⟩ := List.getElem?_eq_some_iff.1 hj'
        simp at e; subst e
        exact g2 _ u hk
    · exact hs.elim
  · rename_i j len e
    rw [e] at hx
    split at hs
    · rename_i el sz ys _ hm
      split at hs
      · rename_i hb
        have hsz := Nat.eq_of_beq_eq_true hb
        obtain ⟨l, hl, hlen, hv⟩ := hx.own_inv
        obtain ⟨l', hl', hob, _⟩ := h.ob j _ hm
        obtain rfl : l' = l := by rw [hl] at hl'; injection hl' with e; exact e.symm
        obtain ⟨g1, g2, g3, cs, ⟨ho1, ho2⟩, hone, hrc⟩ := hob
        subst hsz
        refine ⟨ys, len, _, l'.cap, cs, hs, by rw [← hlen, g2], g3, by rw [hv, hlen], by rw [ho1, hlen], fun b hb k u hk => ?_, fun hn => ?_, hone, hrc⟩
        · rcases ho2 with ⟨e1, e2⟩ | ⟨g, cap, cur, e1, e2, e3, e4, e5, e6, e7⟩
          · injection e1 with e1; rw [hb] at e1; cases e1
          · injection e1 with e1 _ e9
            rw [hb] at e1; injection e1 with e1; subst e1
            have hlt := (List.getElem?_eq_some_iff.1 hk).1
            rw [gH, fE e3, Nat.zero_add, ← hk, ← e7, List.getElem?_take, if_pos (by rw [← ho1]; exact hlt)]
            simp
        · rcases ho2 with ⟨e1, e2⟩ | ⟨g, cap, cur, e1, _⟩
          · omega
          · injection e1 with e1; rw [hn] at e1; cases e1
      · exact hs.elim
    · exact hs.elim
  · exact hs.elim
end
end Go.Aw
set_option linter.unusedVariables false
namespace Go.Aw
section
variable {P : Program} {T : TypeId → Option TI} {ck : Nat → Bool} {w0 : World} {X A0 : Nat → Prop} {N : Nat} {bd : Nat → Prop} {σ : St} {a : Act} {w : World} {A : Nat → Prop} {μ : Nat → Option Loc} {Q : Exit → Act → World → Prop}
theorem fQ {o : Oper} {c : Call} {t : TypeId} {s x : Operand} (ho : o.op = .call c) (hc : c.callee = .builtin .append) (hat : c.argTypes.toList = [t, t]) (har : c.args.toList = [s, x]) {v : Value} {w' : World}
    (h : (Builtin.append_ #[t, t] o.type #[a.eval s, a.eval x]).run P w = .ok v w') : (execOp a.eval o).run P w = .ok (.value v) w' := by
  have h1 : c.argTypes = #[t, t] := by apply Array.toList_inj.1; rw [hat]
  have h2 : c.args.map a.eval = #[a.eval s, a.eval x] := by apply Array.toList_inj.1; rw [Array.toList_map, har]; rfl
  simp [execOp, ho, resolve, hc, h2, h1, invoke, builtin, h]
theorem sM {t e : TypeId} (ty : TypeId) {ei : TI} (hti : P.underlying t = some (.slice e)) (hei : sI P e ei) {base : Option Addr} {n cap c : Nat} (hle : n ≤ cap) :
    (Builtin.append_ #[t, t] ty #[.slice base n cap, .slice none 0 c]).run P w = .ok (.slice base n cap) w := by
  obtain ⟨i, z, hi, _⟩ := hei.info
  cases base with
  | none => simp [Builtin.append_, run_underlying hti, sizeOf, typeInfo, hi, Builtin.lenOf, hle, Builtin.firstCells]
  | some b => simp [Builtin.append_, run_underlying hti, sizeOf, typeInfo, hi, Builtin.lenOf, hle, Builtin.firstCells, storeCells]
theorem jG {w' : World} {g n cap : Nat} {e : TypeId} {size : Nat} {arr : Array Value} {xs : List Value} (hg : w'.heap[g]? = some (.cells arr e (0, 0))) (hc : n ≤ cap) (hm : cap ≤ maxLen) (hs : arr.size = cap * size) (hx : arr.toList.take (n * size) = xs) :
    w'.ownsRow 0 e size (.slice (some ⟨g, 0, none⟩) n cap) n xs := by
  refine ⟨?_, .inr ⟨g, cap, arr, rfl, Nat.zero_le _, hg, hc, hm, hs, hx⟩⟩
  rw [← hx, List.length_take, Array.length_toList, hs]
  exact Nat.min_eq_left (Nat.mul_le_mul_right _ hc)
theorem aDI {size : Nat} {xs ys : List (List V)} {cs news : List Value} (hx : ∀ p ∈ xs, p.length = size) (hl : cs.length = xs.length * size) (h1 : ∀ (k : Nat) (u : V) (c : Value), xs.flatten[k]? = some u → cs[k]? = some c → Rc w A u c)
    (h2 : ∀ (k : Nat) (u : V) (c : Value), ys.flatten[k]? = some u → news[k]? = some c → Rc w A u c) : ∀ (k : Nat) (u : V) (c : Value), (xs ++ ys).flatten[k]? = some u → (cs ++ news)[k]? = some c → Rc w A u c := fun k u c hk hc => by
  rw [List.flatten_append] at hk
  have hfl := gY xs hx
  by_cases hlt : k < cs.length
  · rw [List.getElem?_append_left hlt] at hc
    rw [List.getElem?_append_left (by omega)] at hk
    exact h1 k u c hk hc
  · rw [List.getElem?_append_right (by omega)] at hc
    rw [List.getElem?_append_right (by omega), hfl, ← hl] at hk
    exact h2 _ u c hk hc
theorem aFL {o : Oper} {c : Call} {t : TypeId} {s x : Operand} {id : Nat} {v0 : V} {e0 : Eff} (ho : o.op = .call c) (hcal : c.callee = .builtin .append) (hat : c.argTypes.toList = [t, t]) (har : c.args.toList = [s, x]) (hT : TOk P T)
    (h : Ok w0 X A0 N bd σ a w A μ) (hid : μ id = none) (hd : ∀ n, o.dst = some n → n < N) (happ : uT T ck id σ.ev σ.mem t s x (fun v e => v = v0 ∧ e = e0))
    (hD : ∀ {ti ei : TI} (i len : Nat) (e : TypeId) (sz : Nat) (es : List TypeId) (xs : List (List V)), T t = some ti → T ti.elem = some ei → ti.sl = true → σ.ev s = .own i len → σ.mem i = some (.deep e sz es xs) → wC ck id σ.mem ti.elem ei i len e sz es xs (σ.ev x) (fun v e => v = v0 ∧ e = e0) →
      o.wp P a w (iJ w0 X A0 N (fun i => bd i ∨ (id ≤ i ∧ i < id + 8)) ((σ.put o.dst v0).eff e0) o.dst.toList a w A μ) Q) :
    o.wp P a w (iJ w0 X A0 N (fun i => bd i ∨ (id ≤ i ∧ i < id + 8)) ((σ.put o.dst v0).eff e0) o.dst.toList a w A μ) Q := by
  unfold uT at happ
  split at happ
  · exact happ.elim
  rename_i ti ht
  split at happ
  case h_2 => exact happ.elim
  rename_i ei he hsl
  obtain ⟨d, hdd, _, _, _, h4, _⟩ := (hT _ _ ht).desc
  have hd1 := (h4 hsl).1; subst hd1
  obtain ⟨i, z, g1, g2, g3, g4, g5, g6⟩ := lY (hT _ _ he)
  have hby : i.bytes = ei.bytes := by
    obtain ⟨i', z', k1, k2, k3, _⟩ := (hT _ _ he).info
    rw [g1] at k1; injection k1 with k1; subst k1; exact k3
  have hpos := (hT _ _ he).pos
  have hzs : z.cells.size = i.size := by rw [g4, g3]
  have hcell_alloc : ∀ (o : Obj) ad c, A ad.block → w.cell? ad = some c → (w.drew.alloc o).cell? ad = some c := fun o ad c hA hc => by
    rw [World.cell?_alloc_lt _ _ _ (by simpa using (h.hA _ hA).1)]; exact hc
  have hs := h.ev s
  unfold Oper.wp
  split at happ
  · -- onto nothing
    rename_i es
    rw [es] at hs
    have hsv := hs.nil_inv
    obtain ⟨ys, n, ad, cp, news, hK, hn, hys, hxv, hnl, hrd, hnone, hone, hrc⟩ := aFB h happ
    obtain ⟨hb, hk⟩ := hK.out
    obtain ⟨rfl, rfl⟩ := hk
    by_cases h0 : n = 0
    · subst h0
      have hnews : news = [] := List.eq_nil_of_length_eq_zero (by simpa using hnl)
      have hy0 : ys = [] := List.eq_nil_of_length_eq_zero hn.symm
      subst hnews; subst hy0
      have hr : (Builtin.append_ #[t, t] o.type #[a.eval s, a.eval x]).run P w = .ok (.slice none 0 0) w := by
        rw [hsv, hxv]
        simp [Builtin.append_, run_underlying hdd, sizeOf, typeInfo, g1, Builtin.lenOf, Builtin.firstCells]
        cases ad <;> simp [loadCells, loadCellsFrom]
      rw [fQ ho hcal hat har hr, Eff.set_app]
      refine ⟨A, upμ μ id ⟨none, 0, 0, ei.size, []⟩, h.app (ob0 := fun _ => False) hid rfl rfl rfl (Nat.le_refl _) (fun _ _ _ => rfl) (fun _ h => h.elim) (fun k hk => by cases gV hk) (fun hc => ?_) (.own _ ⟨none, 0, 0, ei.size, []⟩ (upμ_self ..)) hd⟩
      exact ⟨rfl, rfl, fun _ h => (by cases h), [], ⟨by simp, .inl ⟨rfl, rfl⟩⟩, fun _ h => (by cases h), fun k u c hk => by simp at hk⟩
    · cases ad with
      | none => exact absurd (hnone rfl) h0
      | some b =>
        have hbig : n ≤ 140737488355328 := by
          exact Nat.le_trans (Nat.le_mul_of_pos_right n (hT _ _ he).bpos) hb
        have hr := run_append_nil (P := P) w t o.type ti.elem i z hdd g1 g2 b n cp news (by rw [g3]; exact hnl) (hrd b rfl) (by omega) (by omega) (by rw [hby]; omega)
        rw [fQ ho hcal hat har (by rw [hsv, hxv]; exact hr), Eff.set_app]
        have hge := grownCap_ge w n 0 ti.elem
        refine ⟨A, upμ μ id ⟨some w.heap.size, n, grownCap w n 0 ti.elem, ei.size, []⟩, h.app (ob0 := fun _ => False) hid rfl rfl rfl (by simp) (fun k hk _ => heap_alloc_old w.drew _ k hk) (fun _ h => h.elim) (fun k hk => .inr ?_) (fun hc => ?_)
          (.own _ ⟨some w.heap.size, n, grownCap w n 0 ti.elem, ei.size, []⟩ (upμ_self ..)) hd⟩
        · have hk := gV hk; injection hk with hk; subst hk; exact ⟨rfl, by simp⟩
        · refine ⟨rfl, hn, hys, news, jG (heap_alloc_new w.drew _) hge (grownCap_le_maxLen _ _ _ _ (by unfold maxLen; omega)) ?_ ?_, hone, fun k u c hk hcc => (hrc k u c hk hcc).mono (fun _ h => h) hc⟩
          · simp only [Array.size_append, List.size_toArray, size_zeroCells, hzs, hnl, g3, ← Nat.add_mul]; congr 1; omega
          · simp only [Array.toList_append]; rw [← hnl]; exact List.take_left
  · -- onto the function's own
    rename_i i0 len es
    rw [es] at hs
    split at happ
    case h_3 => exact happ.elim
    case h_2 =>
      rename_i hmem
      exact hD _ _ _ _ _ _ ht he hsl es hmem happ
    rename_i e sz xs _ hmem
    split at happ
    case h_2 => exact happ.elim
    rename_i he1 he2
    have he1 := Nat.eq_of_beq_eq_true he1
    have he2 := Nat.eq_of_beq_eq_true he2
    subst he1; subst he2
    obtain ⟨l, hl, hlen, hsv⟩ := hs.own_inv
    obtain ⟨l', hl', hob, hobb⟩ := h.ob i0 _ hmem
    obtain rfl : l' = l := by rw [hl] at hl'; injection hl' with e; exact e.symm
    obtain ⟨q1, q2, q3, cs, ⟨ho1, ho2⟩, q4, q5⟩ := hob
    obtain ⟨ys, n, ad, cp, news, hK, hn, hys, hxv, hnl, hrd, hnone, hone, hrc⟩ := aFB h happ
    obtain ⟨hb, hk⟩ := hK.out
    obtain ⟨rfl, rfl⟩ := hk
    subst hlen
    have hcl : cs.length = xs.length * ei.size := by rw [ho1, q2]
    have hall : ∀ p ∈ xs ++ ys, p.length = ei.size := fun p hp => (List.mem_append.1 hp).elim (q3 p) (hys p)
    have hone2 : ∀ c ∈ cs ++ news, c.oneCell' = true := fun c hc => (List.mem_append.1 hc).elim (q4 c) (hone c)
    have hlenxy : l'.len + n = (xs ++ ys).length := by rw [List.length_append, q2, hn]
    have hbig : l'.len + n ≤ 140737488355328 := Nat.le_trans (Nat.le_mul_of_pos_right _ (hT _ _ he).bpos) hb
    have hrc2 : ∀ {w' : World}, (∀ ad c, A ad.block → w.cell? ad = some c → w'.cell? ad = some c) → ∀ (k : Nat) (u : V) (c : Value), (xs ++ ys).flatten[k]? = some u → (cs ++ news)[k]? = some c → Rc w' A u c := fun {w'} hc k u c hk hcc =>
      (aDI q3 hcl q5 hrc k u c hk hcc).mono (fun _ h => h) hc
    have hoth : ∀ (k : Nat), l'.has k → ∃ l o, μ i0 = some l ∧ l.has k ∧ σ.mem i0 = some o := fun k hk => ⟨l', _, hl, hk, hmem⟩
    cases ad with
    | none =>
      have h0 := hnone rfl
      subst h0
      have hnews : news = [] := List.eq_nil_of_length_eq_zero (by simpa using hnl)
      have hy0 : ys = [] := List.eq_nil_of_length_eq_zero hn.symm
      subst hnews; subst hy0
      have hle : l'.len ≤ l'.cap := by
        rcases ho2 with ⟨e1, e2⟩ | ⟨g, cap, cur, e1, _, _, e4, _⟩
        · omega
        · injection e1 with e1 _ e9; omega
      have hr := sM (w := w) o.type hdd (hT _ _ he) (base := l'.b.map (⟨·, 0, none⟩)) (c := cp) hle
      rw [fQ ho hcal hat har (by rw [hsv, hxv]; exact hr)]
      refine ⟨A, upμ μ id ⟨l'.b, l'.len, l'.cap, l'.sz, l'.fp⟩, h.app (ob0 := fun _ => False) hid rfl rfl rfl (Nat.le_refl _) (fun _ _ _ => rfl) (fun _ h => h.elim) (fun k hk => .inl (hoth k hk)) (fun hc => ?_) (.own _ ⟨l'.b, l'.len, l'.cap, l'.sz, l'.fp⟩ (upμ_self ..)) hd⟩
      exact ⟨q1, by simpa using q2, by simpa using q3, cs, ⟨ho1, ho2⟩, q4, by simpa using q5⟩
    | some ba =>
      rcases ho2 with ⟨e1, e2⟩ | ⟨g, cap, cur, e1, e2, e3, e4, e5, e6, e7⟩
      · -- the object has no block yet
        injection e1 with e1 _ e9
        have hx0 : xs = [] := List.eq_nil_of_length_eq_zero (by omega)
        subst hx0
        have hc0 : cs = [] := List.eq_nil_of_length_eq_zero (by rw [hcl]; simp)
        subst hc0
        have hsv' : a.eval s = .slice none 0 0 := by rw [hsv, e1, e2, e9]
        by_cases h0 : n = 0
        · subst h0
          have hnews : news = [] := List.eq_nil_of_length_eq_zero (by simpa using hnl)
          have hy0 : ys = [] := List.eq_nil_of_length_eq_zero hn.symm
          subst hnews; subst hy0
          have hr : (Builtin.append_ #[t, t] o.type #[a.eval s, a.eval x]).run P w = .ok (.slice none 0 0) w := by
            rw [hsv', hxv]
            simp [Builtin.append_, run_underlying hdd, sizeOf, typeInfo, g1, Builtin.lenOf, Builtin.firstCells, loadCells, loadCellsFrom]
          rw [fQ ho hcal hat har hr]
          refine ⟨A, upμ μ id ⟨none, 0, 0, ei.size, []⟩, h.app (ob0 := fun _ => False) hid rfl rfl rfl (Nat.le_refl _) (fun _ _ _ => rfl) (fun _ h => h.elim) (fun k hk => by cases gV hk) (fun hc => ?_) (by rw [e2]; exact .own _ ⟨none, 0, 0, ei.size, []⟩ (upμ_self ..)) hd⟩
          exact ⟨rfl, rfl, fun _ h => (by cases h), [], ⟨by simp, .inl ⟨rfl, rfl⟩⟩, fun _ h => (by cases h), fun k u c hk => by simp at hk⟩
        · rw [e2, Nat.zero_add] at hb hbig
          have hr := run_append_nil (P := P) w t o.type ti.elem i z hdd g1 g2 ba n cp news (by rw [g3]; exact hnl) (hrd ba rfl) (by omega) (by omega) (by rw [hby]; omega)
          rw [fQ ho hcal hat har (by rw [hsv', hxv]; exact hr)]
          have hge := grownCap_ge w n 0 ti.elem
          refine ⟨A, upμ μ id ⟨some w.heap.size, n, grownCap w n 0 ti.elem, ei.size, []⟩, h.app (ob0 := fun _ => False) hid rfl rfl rfl (by simp) (fun k hk _ => heap_alloc_old w.drew _ k hk) (fun _ h => h.elim) (fun k hk => .inr ?_) (fun hc => ?_)
            (by rw [e2, Nat.zero_add]; exact .own _ ⟨some w.heap.size, n, grownCap w n 0 ti.elem, ei.size, []⟩ (upμ_self ..)) hd⟩
          · have hk := gV hk; injection hk with hk; subst hk; exact ⟨rfl, by simp⟩
          · refine ⟨rfl, by simpa using hn, by simpa using hys, news, jG (heap_alloc_new w.drew _) hge (grownCap_le_maxLen _ _ _ _ (by unfold maxLen; omega)) ?_ ?_, hone, fun k u c hk hcc => ?_⟩
            · simp only [Array.size_append, List.size_toArray, size_zeroCells, hzs, hnl, g3, ← Nat.add_mul]; congr 1; omega
            · simp only [Array.toList_append]; rw [← hnl]; exact List.take_left
            · exact (hrc k u c (by simpa using hk) hcc).mono (fun _ h => h) hc
      · cases hlb : l'.b with
        | none => rw [hlb] at e1; simp at e1
        | some b =>
          rw [hlb] at e1; simp at e1
          obtain ⟨rfl, rfl⟩ := e1
          rw [hlb] at hsv
          have hcl' : cs.length = l'.len * ei.size := ho1
          by_cases hroom : l'.len + n ≤ l'.cap
          · have hfit : l'.len * i.size + news.length ≤ cur.size := by rw [hnl, e6, g3, ← Nat.add_mul]; exact Nat.mul_le_mul_right _ hroom
            have hr := run_append_room (P := P) w t o.type ti.elem i hdd g1 b l'.len l'.cap cur e3 ba n cp news (by rw [g3]; exact hnl) (hrd ba rfl) hone hroom hfit
            rw [fQ ho hcal hat har (by rw [hsv, hxv]; exact hr)]
            refine ⟨A, upμ μ id ⟨some b, l'.len + n, l'.cap, ei.size, []⟩, h.app (ob0 := fun k => k = b) hid rfl rfl rfl (by simp) (fun k _ hk => setRow_other w b k _ hk) (fun k e => hoth k (.inl (by rw [hlb, e]))) (fun k hk => .inl (hoth k (.inl (by rw [hlb]; exact gV hk)))) (fun hc => ?_)
              (.own _ ⟨some b, l'.len + n, l'.cap, ei.size, []⟩ (upμ_self ..)) hd⟩
            refine ⟨rfl, hlenxy, hall, cs ++ news, jG (setRow_heap w b cur _ ti.elem _ e3) hroom e5 ?_ ?_, hone2, hrc2 hc⟩
            · rw [g3] at hfit ⊢
              simp only [List.size_toArray, List.length_append, List.length_take, List.length_drop, Array.length_toList]
              omega
            · rw [g3, e7]
              have e9 : (l'.len + n) * ei.size = (cs ++ news).length := by rw [List.length_append, hcl', hnl, Nat.add_mul]
              rw [e9]; exact List.take_left
          · have holds : ∀ (j : Nat) (u : Value), cs[j]? = some u → w.cell? ((⟨b, 0, none⟩ : Addr).add j) = some u := fun j u hj => by
              have hlt := (List.getElem?_eq_some_iff.1 hj).1
              rw [gH, fE e3, Nat.zero_add, ← hj, ← e7, List.getElem?_take, if_pos (by rw [← hcl']; exact hlt)]
              simp
            have hr := run_append_grow (P := P) w t o.type ti.elem i z hdd g1 g2 ⟨b, 0, none⟩ l'.len l'.cap cs (by rw [g3]; exact hcl') holds ba n cp news (by rw [g3]; exact hnl) (hrd ba rfl) (by omega) (by omega) (growslice_fits (by omega) (by rw [hby]; exact hb))
            rw [fQ ho hcal hat har (by rw [hsv, hxv]; exact hr)]
            have hge := grownCap_ge w (l'.len + n) l'.cap ti.elem
            refine ⟨A, upμ μ id ⟨some w.heap.size, l'.len + n, grownCap w (l'.len + n) l'.cap ti.elem, ei.size, []⟩, h.app (ob0 := fun _ => False) hid rfl rfl rfl (by simp) (fun k hk _ => heap_alloc_old w.drew _ k hk) (fun _ h => h.elim) (fun k hk => .inr ?_) (fun hc => ?_)
              (.own _ ⟨some w.heap.size, l'.len + n, grownCap w (l'.len + n) l'.cap ti.elem, ei.size, []⟩ (upμ_self ..)) hd⟩
            · have hk := gV hk; injection hk with hk; subst hk; exact ⟨rfl, by simp⟩
            · refine ⟨rfl, hlenxy, hall, cs ++ news, jG (heap_alloc_new w.drew _) hge (grownCap_le_maxLen _ _ _ _ (by unfold maxLen; omega)) ?_ ?_, hone2, hrc2 hc⟩
              · simp only [Array.size_append, List.size_toArray, size_zeroCells, hzs, hnl, hcl', g3, ← Nat.add_mul]; congr 1; omega
              · simp only [Array.toList_append]
                have e9 : (l'.len + n) * ei.size = (cs ++ news).length := by rw [List.length_append, hcl', hnl, Nat.add_mul]
                rw [e9]; exact List.take_left
  · exact happ.elim
end
end Go.Aw
set_option linter.unusedVariables false
namespace Go.Aw
section
variable {P : Program} {G : Nat → Option Obj} {T : TypeId → Option TI} {ck : Nat → Bool} {w0 : World} {X A0 : Nat → Prop} {N : Nat} {bd : Nat → Prop} {σ : St} {a : Act} {w : World} {A : Nat → Prop} {μ : Nat → Option Loc} {Q : Exit → Act → World → Prop}
def sU (P : Program) (o : Oper) (a : Act) (w : World) (A : Nat → Prop) (μ : Nat → Option Loc) (f : FuncId) (us : List V) : Prop :=
  ∃ vs : Array Value, (execOp a.eval o).run P w = .ok (.enter f vs) w ∧ vs.size = us.length ∧ ∀ (i : Nat) (u : V) (v : Value), us[i]? = some u → vs[i]? = some v → Rv w A μ u v
theorem tD {c : Call} (h : Ok w0 X A0 N bd σ a w A μ) : (c.args.map a.eval).size = (c.args.toList.map σ.ev).length ∧ ∀ (i : Nat) (u : V) (v : Value), (c.args.toList.map σ.ev)[i]? = some u → (c.args.map a.eval)[i]? = some v → Rv w A μ u v := by
  refine ⟨by simp, fun i u v hu hv => ?_⟩
  simp only [List.getElem?_map, Array.getElem?_toList, Option.map_eq_some_iff] at hu
  simp only [Array.getElem?_map, Option.map_eq_some_iff] at hv
  obtain ⟨x, hx, rfl⟩ := hu
  obtain ⟨y, hy, rfl⟩ := hv
  rw [hx] at hy; injection hy with hy; subst hy
  exact h.ev x
theorem jK {o : Oper} {c : Call} {f : FuncId} (h : Ok w0 X A0 N bd σ a w A μ) (ho : o.op = .call c) (hc : c.callee = .value (.func f) ∨ ∃ t, c.callee = .value (.tmp t) ∧ a.eval (.tmp t) = .func (.func f) #[] #[]) (hf : Fok P f) : sU P o a w A μ f (c.args.toList.map σ.ev) := by
  obtain ⟨fn, h1, h2, h3⟩ := hf
  have h2' : ¬ (fn.name = "runtime.NumGoroutine") := by simpa using h2
  have h3' : ¬ (fn.body = none) := by intro e; rw [e] at h3; cases h3
  refine ⟨c.args.map a.eval, ?_, tD h⟩
  rcases hc with hc | ⟨t, hc, hv⟩
  · simp [execOp, ho, resolve, hc, Act.eval, Deferred.ofValue, invoke, callFunc, h1, h2', h3']
  · simp [execOp, ho, resolve, hc, hv, Deferred.ofValue, invoke, callFunc, h1, h2', h3']
theorem mR {o : Oper} {c : Call} {f : FuncId} {t : Tmp} {i : Nat} (h : Ok w0 X A0 N bd σ a w A μ) (ho : o.op = .call c) (hc : c.callee = .value (.tmp t)) (ht : σ.ev (.tmp t) = .cf f i) (hf : Fok P f) : sU P o a w A μ f (c.args.toList.map σ.ev ++ [.bp i 0]) := by
  obtain ⟨fn, h1, h2, h3⟩ := hf
  have h2' : ¬ (fn.name = "runtime.NumGoroutine") := by simpa using h2
  have h3' : ¬ (fn.body = none) := by intro e; rw [e] at h3; cases h3
  have hv := h.ev (.tmp t)
  rw [ht] at hv
  obtain ⟨l, b, hl, hb, hv⟩ := hv.cf_inv
  obtain ⟨g1, g2⟩ := tD (c := c) h
  refine ⟨c.args.map a.eval ++ #[.pointer (some ⟨b, 0, none⟩)], ?_, by simp, fun j u v hu hv' => ?_⟩
  · simp [execOp, ho, resolve, hc, hv, Deferred.ofValue, invoke, callFunc, h1, h2', h3']
  · by_cases hj : j < (c.args.toList.map σ.ev).length
    · rw [List.getElem?_append_left hj] at hu
      rw [Array.getElem?_append_left (by rw [g1]; exact hj)] at hv'
      exact g2 j u v hu hv'
    · rw [List.getElem?_append_right (by omega)] at hu
      rw [Array.getElem?_append_right (by rw [g1]; omega), g1] at hv'
      have hj0 : j - (c.args.toList.map σ.ev).length = 0 := by
        have := (List.getElem?_eq_some_iff.1 hu).1; simp at this; simp; omega
      rw [hj0] at hu hv'
      simp at hu hv'
      subst hu; subst hv'
      exact .bp i 0 l b hl hb
def own (σ : St) (μ : Nat → Option Loc) (b : Nat) : Prop := ∃ i l, σ.mem i ≠ none ∧ μ i = some l ∧ l.has b
theorem tY {A' : Nat → Prop} {l : Loc} {e : TypeId} {sz : Nat} {xs : List (List V)} {R : Nat → V → Value → Prop} (hob : Row w l e sz xs R) (hR : ∀ k u c, xs.flatten[k]? = some u → R k u c → Rc w A' u c) (hb : ∀ b, l.b = some b → A' b) :
    Rc w A' (.sl sz l.len xs) (.slice (l.b.map (⟨·, 0, none⟩)) l.len l.cap) := by
  obtain ⟨q1, q2, q3, cs, ⟨ho1, ho2⟩, q4, q5⟩ := hob
  have hfl := gY xs q3
  have key : ∀ (k : Nat) (u : V), xs.flatten[k]? = some u → cs[k]? = some (cs.getD k undef) ∧ k < l.len * sz := fun k u hk => by
    have hlt := (List.getElem?_eq_some_iff.1 hk).1
    rw [hfl, ← q2] at hlt
    have : k < cs.length := by omega
    exact ⟨by simp [this], hlt⟩
  refine .sl sz _ xs q2.symm _ _ (fun k => cs.getD k undef) ?_ q3 (fun hn => ?_) (fun ad k u ha hk => ?_) (fun k u hk => ?_) (fun k u hk => q4 _ (List.mem_of_getElem? (key k u hk).1))
  · rcases ho2 with ⟨e1, e2⟩ | ⟨g, cap, cur, e1, e2, e3, e4, _⟩
    · omega
    · injection e1 with _ _ e9; omega
  · rcases ho2 with ⟨e1, e2⟩ | ⟨g, cap, cur, e1, _⟩
    · exact absurd (List.eq_nil_of_length_eq_zero (by omega)) hn
    · cases hlb : l.b with
      | none => rw [hlb] at e1; simp at e1
      | some b => exact ⟨_, rfl, hb b hlb⟩
  · rcases ho2 with ⟨e1, e2⟩ | ⟨g, cap, cur, e1, e2, e3, e4, e5, e6, e7⟩
    · injection e1 with e1; rw [ha] at e1; cases e1
    · injection e1 with e1; rw [ha] at e1; injection e1 with e1; subst e1
      obtain ⟨g1, g2⟩ := key k u hk
      rw [gH, fE e3, Nat.zero_add, ← g1, ← e7, List.getElem?_take, if_pos g2]
      simp
  · exact hR k u _ hk (q5 k u _ hk (key k u hk).1)
theorem xF {A' : Nat → Prop} {l : Loc} {e : TypeId} {sz : Nat} {xs : List (List V)} (hob : gP w A μ l (.arr e sz xs)) (hA : ∀ b, A b → A' b) (hb : ∀ b, l.has b → A' b) :
    Rc w A' (.sl sz l.len xs) (.slice (l.b.map (⟨·, 0, none⟩)) l.len l.cap) :=
  tY (R := fun _ => Rc w A) hob (fun _ _ _ _ h => h.mono hA (fun _ _ _ h => h)) (fun b h => hb b (.inl h))
theorem aMS {A' : Nat → Prop} {l : Loc} {es : List TypeId} {sz k : Nat} {u : V} {c : Value} (hb : ∀ b, l.has b → A' b) (h : Dc w l es sz k u c) : Rc w A' u c := by
  cases u with
  | sl s n ys =>
    obtain ⟨d, h1, rfl, rfl, h4⟩ := h
    exact tY h4 (fun _ _ _ _ h => h.nomem) (fun b hb' => hb b (Loc.hd_has h1 hb'))
  | _ => exact h.2.nomem
theorem aCH {A' : Nat → Prop} {l : Loc} {e : TypeId} {sz : Nat} {es : List TypeId} {xs : List (List V)} (hob : gP w A μ l (.deep e sz es xs)) (hb : ∀ b, l.has b → A' b) :
    Rc w A' (.sl sz l.len xs) (.slice (l.b.map (⟨·, 0, none⟩)) l.len l.cap) :=
  tY hob.2 (fun _ _ _ _ h => aMS hb h) (fun b h => hb b (.inl h))
theorem aKR (h : Ok w0 X A0 N bd σ a w A μ) {A' : Nat → Prop} (hA : ∀ b, A b → A' b) (ho : ∀ b, own σ μ b → A' b) {u x : V} {v : Value} (hu : Rv w A μ u v) (hv : Av ck σ.mem u x) (μ' : Nat → Option Loc) : Rv w A' μ' x v := by
  unfold Av at hv
  split at hv
  · rename_i i len
    split at hv
    · rename_i e sz xs _ hm
      obtain ⟨n, hn, rfl⟩ := hv
      obtain ⟨l, hl, hlen, hve⟩ := hu.own_inv
      obtain ⟨l', hl', hob, _⟩ := h.ob i _ hm
      obtain rfl : l' = l := by rw [hl] at hl'; injection hl' with e; exact e.symm
      rw [hve]
      obtain rfl : n = l'.len := by
        have := hob.2.1
        rcases hn with hn | hn <;> omega
      exact .c (xF hob hA (fun b hb => ho b ⟨i, l', by rw [hm]; simp, hl, hb⟩))
    · rename_i e sz es xs _ hm
      obtain ⟨n, hn, rfl⟩ := hv
      obtain ⟨l, hl, hlen, hve⟩ := hu.own_inv
      obtain ⟨l', hl', hob, _⟩ := h.ob i _ hm
      obtain rfl : l' = l := by rw [hl] at hl'; injection hl' with e; exact e.symm
      rw [hve]
      obtain rfl : n = l'.len := by
        have := hob.2.2.1
        rcases hn with hn | hn <;> omega
      exact .c (aCH hob (fun b hb => ho b ⟨i, l', by rw [hm]; simp, hl, hb⟩))
    · exact hv.elim
  · have := hu.nil_inv; subst this
    rcases hv with rfl | ⟨sz, rfl⟩
    · exact .c .nil
    · exact .c (.sl sz 0 [] rfl none 0 (fun _ => undef) (Nat.le_refl _) (fun _ h => (by cases h)) (fun h => absurd rfl h) (fun _ k u _ hk => (by simp at hk)) (fun k u hk => (by simp at hk)) (fun k u hk => (by simp at hk)))
  · rename_i i idx off q0
    obtain ⟨l, d, hl, hd, hdl, hve⟩ := hu.dsl_inv
    -- the slice at the cell
    have fin : ∀ {e : TypeId} {sz : Nat} {es : List TypeId} {xs : List (List V)} {R : Nat → V → Value → Prop} {p : List V} {s n : Nat} {ys : List (List V)} (ob : Ob), σ.mem i = some ob → Row w l e sz xs R → xs[idx]? = some p → p[off]? = some (.sl s n ys) → (∀ c, R (idx * l.sz + off) (.sl s n ys) c → Dc w l es sz (idx * l.sz + off) (.sl s n ys) c) → Rv w A' μ' (.sl s n ys) v := fun {e sz es xs R p s n ys} ob hm hR hp hq hRD => by
      obtain ⟨f, hc⟩ := jE hR
      obtain ⟨_, _, _, g2, _⟩ := hc _ _ (flat_get xs idx off p _ hR.2.2.1 hp hq)
      obtain ⟨d', f1, f2, f3, f4⟩ := hRD _ (by rw [hR.1]; exact g2)
      rw [hd] at f1; injection f1 with f1; subst f1
      rw [hve]
      have := tY (A' := A') f4 (fun _ _ _ _ h => h.nomem) (fun b hb => ho b ⟨i, l, by rw [hm]; simp, hl, Loc.hd_has hd hb⟩)
      rw [← f2]; exact .c this
    split at hv
    · rename_i e sz es xs _ hm
      obtain ⟨p, s, n, ys, hp, hq, rfl⟩ := hv
      obtain ⟨l', hl', hob, _⟩ := h.ob i _ hm
      obtain rfl : l' = l := by rw [hl] at hl'; injection hl' with e; exact e.symm
      exact fin (es := es) _ hm hob.2 hp hq (fun _ h => h)
    · rename_i e sz es xs k0 _ hm
      obtain ⟨p, s, n, ys, hp, hq, rfl, hk⟩ := hv
      obtain ⟨l', hl', hob, _⟩ := h.ob i _ hm
      obtain rfl : l' = l := by rw [hl] at hl'; injection hl' with e; exact e.symm
      refine fin (es := es) _ hm hob.2 hp hq (fun _ h => h.resolve_left ?_)
      have h1 := hob.2.2.2.1 p (List.mem_of_getElem? hp)
      have h2 := (List.getElem?_eq_some_iff.1 hq).1
      have h3 := hob.2.1
      rw [h3, Nat.mul_comm, Nat.mul_add_div (by omega), Nat.div_eq_of_lt (by omega)]; omega
    · subst hv; exact .c (.und _)
  · subst hv; exact .c (.und _)
  · subst hv; exact .c (.und _)
  · subst hv; exact .c (.und _)
  · subst hv; exact .c (.und _)
  · subst hv; exact .c (.und _)
  · subst hv; exact .c (.und _)
  · subst hv; exact .c (.und _)
  · subst hv; exact .c (.und _)
  · rename_i n1 n2 n3 n4 n5 n6 n7 n8 n9 n10 n11
    subst hv
    cases hu with
    | c hc => exact .c (hc.mono hA (fun _ _ _ h => h))
    | agg xs => exact absurd rfl (n6 _)
    | tup xs => exact absurd rfl (n7 _)
    | own i l => exact absurd rfl (n1 _ _)
    | bp i off => exact absurd rfl (n4 _ _)
    | ep i j off => exact absurd rfl (n5 _ _ _)
    | cf f i => exact absurd rfl (n8 _ _)
    | dsl i j off l d => exact absurd rfl (n3 _ _ _ _)
    | ip i a b c j o => exact absurd rfl (n9 _ _ _ _ _ _)
    | mp i => exact absurd rfl (n10 _)
    | ifs t i l => exact absurd rfl (n11 _ _ _)
theorem xI {m : Nat → Option Ob} : ∀ (us xs : List V), AvL ck m us xs → us.length = xs.length ∧ ∀ (i : Nat) (u x : V), us[i]? = some u → xs[i]? = some x → Av ck m u x
  | [], l, h => by simp only [AvL] at h; subst h; exact ⟨rfl, fun i u x hu => by simp at hu⟩
  | u :: us, l, h => by
    obtain ⟨x, xs, rfl, h1, h2⟩ := h
    obtain ⟨g1, g2⟩ := xI us xs h2
    refine ⟨by simp [g1], fun i u' x' hu hx => ?_⟩
    cases i with
    | zero => simp at hu hx; subst hu; subst hx; exact h1
    | succ i => exact g2 i u' x' (by simpa using hu) (by simpa using hx)
theorem yB {m : Nat → Option Ob} : ∀ (us xs : List V), sD ck m us xs → us.length = xs.length ∧ ∀ (i : Nat) (u x : V), us[i]? = some u → xs[i]? = some x → AvA ck m u x
  | [], l, h => by simp only [sD] at h; subst h; exact ⟨rfl, fun i u x hu => by simp at hu⟩
  | u :: us, l, h => by
    obtain ⟨x, xs, rfl, h1, h2⟩ := h
    obtain ⟨g1, g2⟩ := yB us xs h2
    refine ⟨by simp [g1], fun i u' x' hu hx => ?_⟩
    cases i with
    | zero => simp at hu hx; subst hu; subst hx; exact h1
    | succ i => exact g2 i u' x' (by simpa using hu) (by simpa using hx)
theorem aLJ (h : Ok w0 X A0 N bd σ a w A μ) {A' : Nat → Prop} (hA : ∀ b, A b → A' b) (ho : ∀ b, own σ μ b → A' b) {u x : V} {v : Value} (hu : Rv w A μ u v) (hv : AvA ck σ.mem u x) (μ' : Nat → Option Loc) : Rv w A' μ' x v := by
  unfold AvA at hv
  split at hv
  · rename_i us
    obtain ⟨xs, rfl, hl⟩ := hv
    obtain ⟨g1, g2⟩ := xI us xs hl
    obtain ⟨cs, rfl, hcl, hcr⟩ := hu.agg_inv
    refine .agg xs cs (by omega) (fun i x c hx hc => ?_)
    have hlt : i < us.length := by rw [g1]; exact (List.getElem?_eq_some_iff.1 hx).1
    exact aKR h hA ho (hcr i _ c (List.getElem?_eq_getElem hlt) hc) (g2 i _ x (List.getElem?_eq_getElem hlt) hx) μ'
  · exact aKR h hA ho hu hv μ'
theorem aBY (h : Ok w0 X A0 N bd σ a w A μ) {u x : V} {v : Value} (hs : u.shut = true) (hu : Rv w A μ u v) (hv : Av ck σ.mem u x) (μ' : Nat → Option Loc) : Rv w A μ' x v := by
  unfold Av at hv
  split at hv
  · cases hs
  · have := hu.nil_inv; subst this
    rcases hv with rfl | ⟨sz, rfl⟩
    · exact .c .nil
    · exact .c (.sl sz 0 [] rfl none 0 (fun _ => undef) (Nat.le_refl _) (fun _ h => (by cases h)) (fun h => absurd rfl h) (fun _ k u _ hk => (by simp at hk)) (fun k u hk => (by simp at hk)) (fun k u hk => (by simp at hk)))
  · cases hs
  · cases hs
  · cases hs
  · cases hs
  · cases hs
  · cases hs
  · cases hs
  · cases hs
  · cases hs
  · subst hv; exact .c (iT hu hs)
theorem aGV (h : Ok w0 X A0 N bd σ a w A μ) {u x : V} {v : Value} (hs : u.shutA = true) (hu : Rv w A μ u v) (hv : AvA ck σ.mem u x) (μ' : Nat → Option Loc) : Rv w A μ' x v := by
  unfold AvA at hv
  split at hv
  · rename_i us
    obtain ⟨xs, rfl, hl⟩ := hv
    obtain ⟨g1, g2⟩ := xI us xs hl
    obtain ⟨cs, rfl, hcl, hcr⟩ := hu.agg_inv
    refine .agg xs cs (by omega) (fun i x c hx hc => ?_)
    have hlt : i < us.length := by rw [g1]; exact (List.getElem?_eq_some_iff.1 hx).1
    exact aBY h (List.all_eq_true.1 hs _ (List.getElem_mem hlt)) (hcr i _ c (List.getElem?_eq_getElem hlt) hc) (g2 i _ x (List.getElem?_eq_getElem hlt) hx) μ'
  · rename_i n
    refine aBY h ?_ hu hv μ'
    cases u <;> first | exact hs | exact absurd rfl (n _)
end
end Go.Aw
set_option linter.unusedVariables false
namespace Go.Aw
section
variable {P : Program} {G : Nat → Option Obj} {T : TypeId → Option TI} {ck : Nat → Bool} {w0 : World} {X A0 : Nat → Prop} {N : Nat} {bd : Nat → Prop} {σ : St} {a : Act} {w : World} {A : Nat → Prop} {μ : Nat → Option Loc} {Q : Exit → Act → World → Prop}
theorem wS {μ' : Nat → Option Loc} {ρ : Nat → Nat} (hρ : ∀ i l, μ i = some l → μ' (ρ i) = some l) {x : V} {v : Value} (hl : x.lf = true) (h : Rv w A μ x v) : Rv w A μ' (x.ren1 ρ) v := by
  cases h with
  | c h => cases h <;> exact .c (by constructor <;> assumption)
  | agg xs => cases hl
  | tup xs => cases hl
  | own i l h => exact .own _ l (hρ _ _ h)
  | bp i off l b h hb => exact .bp _ off l b (hρ _ _ h) hb
  | ep i j off l b h hb => exact .ep _ j off l b (hρ _ _ h) hb
  | cf f i l b h hb => exact .cf f _ l b (hρ _ _ h) hb
  | dsl i j off l d h hd => exact .dsl _ j off l d (hρ _ _ h) hd
  | ip i a b c j o l d b' h hd hb => exact .ip _ a b c j o l d b' (hρ _ _ h) hd hb
  | mp i l b h hb => exact .mp _ l b (hρ _ _ h) hb
  | ifs t i l h => exact .ifs t _ l (hρ _ _ h)
theorem aCI {μ' : Nat → Option Loc} {ρ : Nat → Nat} (hρ : ∀ i l, μ i = some l → μ' (ρ i) = some l) {x : V} {v : Value} (hl : x.flat2 = true) (h : Rv w A μ x v) : Rv w A μ' (x.ren2 ρ) v := by
  by_cases hx : ∃ xs, x = .agg xs
  · obtain ⟨xs, rfl⟩ := hx
    obtain ⟨cs, rfl, hs, hr⟩ := h.agg_inv
    refine .agg _ cs (by simpa using hs) (fun i y c hy hc => ?_)
    simp at hy
    obtain ⟨z, hz, rfl⟩ := hy
    exact wS hρ (List.all_eq_true.1 hl z (List.mem_of_getElem? hz)) (hr i z c hz hc)
  · have e1 : x.ren2 ρ = x.ren1 ρ := by cases x <;> first | rfl | exact absurd ⟨_, rfl⟩ hx
    have e2 : x.lf = true := by cases x <;> first | exact hl | exact absurd ⟨_, rfl⟩ hx
    rw [e1]; exact wS hρ e2 h
theorem aFQ {μ' : Nat → Option Loc} {ρ : Nat → Nat} (hρ : ∀ i l, μ i = some l → μ' (ρ i) = some l) {x : V} {v : Value} (hl : x.flat = true) (h : Rv w A μ x v) : Rv w A μ' (x.ren ρ) v := by
  by_cases hx : ∃ xs, x = .tup xs
  · obtain ⟨xs, rfl⟩ := hx
    obtain ⟨cs, rfl, hs, hr⟩ := h.tup_inv
    refine .tup _ cs (by simpa using hs) (fun i y c hy hc => ?_)
    simp at hy
    obtain ⟨z, hz, rfl⟩ := hy
    exact aCI hρ (List.all_eq_true.1 hl z (List.mem_of_getElem? hz)) (hr i z c hz hc)
  · have e1 : x.ren ρ = x.ren2 ρ := by cases x <;> first | rfl | exact absurd ⟨_, rfl⟩ hx
    have e2 : x.flat2 = true := by cases x <;> first | exact hl | exact absurd ⟨_, rfl⟩ hx
    rw [e1]; exact aCI hρ e2 h
theorem oH {w' : World} {A' : Nat → Prop} {x : V} {v : Value} (hb : x.bare = true) (h : Rc w A x v) : Rc w' A' x v := by
  cases h <;> first | cases hb; done | (constructor)
theorem vM {w' : World} {A' : Nat → Prop} {x : V} {v : Value} (hb : x.bareE = true) (h : Rc w A x v) : Rc w' A' x v := by
  by_cases c : x.bare = true
  · exact oH c h
  · unfold V.bareE at hb
    rw [Bool.or_eq_true] at hb
    have hb := hb.resolve_left c
    split at hb
    · rename_i sz n hx
      generalize hu : V.sl sz n [] = u at h
      cases h with
      | sl sz' n' xs hn a cap f hc _ _ _ _ _ =>
        injection hu with e1 e2 e3
        subst e3
        exact .sl sz' n' [] hn a cap f hc (fun _ h => by cases h) (fun h => absurd rfl h) (fun _ _ _ _ h => by simp at h) (fun _ _ h => by simp at h) (fun _ _ h => by simp at h)
      | _ => cases hu
    · cases hb
theorem vX {A' : Nat → Prop} {x : V} {v : Value} (hb : x.bare1 = true) (h : Rv w A μ x v) : Rv w A' μ x v := by
  cases h with
  | c h => exact .c (oH (by cases x <;> first | exact hb | cases h) h)
  | own i l h => exact .own i l h
  | _ => cases hb
theorem vQ {A' : Nat → Prop} {x : V} {v : Value} (hb : x.bare2 = true) (h : Rv w A μ x v) : Rv w A' μ x v := by
  by_cases hx : ∃ xs, x = .agg xs
  · obtain ⟨xs, rfl⟩ := hx
    obtain ⟨cs, rfl, hs, hr⟩ := h.agg_inv
    exact .agg _ cs hs (fun i y c hy hc => vX (List.all_eq_true.1 hb y (List.mem_of_getElem? hy)) (hr i y c hy hc))
  · exact vX (by cases x <;> first | exact hb | exact absurd ⟨_, rfl⟩ hx) h
theorem aDW {A' : Nat → Prop} {x : V} {v : Value} (hb : aDC x = true) (h : Rv w A μ x v) : Rv w A' μ x v := by
  by_cases hx : ∃ xs, x = .tup xs
  · obtain ⟨xs, rfl⟩ := hx
    obtain ⟨cs, rfl, hs, hr⟩ := h.tup_inv
    exact .tup _ cs hs (fun i y c hy hc => vQ (List.all_eq_true.1 hb y (List.mem_of_getElem? hy)) (hr i y c hy hc))
  · exact vQ (by cases x <;> first | exact hb | exact absurd ⟨_, rfl⟩ hx) h
theorem aEI {A' : Nat → Prop} {μ' : Nat → Option Loc} {l : Loc} {ob : Ob} (hb : mF ob) (h : gP w A μ l ob) : gP w A' μ' l ob := by
  cases ob with
  | box cs => exact hb.elim
  | deep e sz es xs => exact h
  | tail e sz es xs k => exact hb.elim
  | mp es => exact hb.elim
  | dirt e sz es xs idx row => exact hb.elim
  | arr e sz xs =>
    obtain ⟨q1, q2, q3, cs, q4, q5, q6⟩ := h
    refine ⟨q1, q2, q3, cs, q4, q5, fun k u c hk hc => vM ?_ (q6 k u c hk hc)⟩
    obtain ⟨p, hp, hu⟩ := List.mem_flatten.1 (List.mem_of_getElem? hk)
    exact hb p hp u hu
theorem nE : ∀ (mo : List Ob) (i j : Nat), Eff.setL i mo j = if i ≤ j ∧ j < i + mo.length then some mo[j - i]? else none
  | [], i, j => by rw [if_neg (by simp)]; rfl
  | ob :: mo, i, j => by
    show (match Nat.beq j i with | true => some (some ob) | false => Eff.setL (i + 1) mo j) = _
    cases hb : Nat.beq j i with
    | true => have := Nat.eq_of_beq_eq_true hb; subst this; rw [if_pos ⟨Nat.le_refl _, by simp⟩]; simp
    | false =>
      have hne := Nat.ne_of_beq_eq_false hb
      rw [nE mo (i + 1) j]
      by_cases c : i ≤ j ∧ j < i + (ob :: mo).length
      · rw [if_pos c, if_pos (by simp at c; omega)]
        have e : j - i = (j - (i + 1)) + 1 := by omega
        rw [e]; simp
      · rw [if_neg c, if_neg (by simp at c; omega)]
theorem gP.re {μ' : Nat → Option Loc} {l : Loc} {ob : Ob} (hc : ob.isA = true) (h : gP w A μ l ob) : gP w A μ' l ob := by
  cases ob with
  | arr e sz xs => exact h
  | deep e sz es xs => exact h
  | tail e sz es xs k => exact h
  | dirt e sz es xs idx row => cases hc
  | mp es => cases hc
  | box cs =>
    obtain ⟨b, arr, el, h1, h2, h3, h4⟩ := h
    refine ⟨b, arr, el, h1, h2, h3, fun i u c hi hcc => .c (iT (h4 i u c hi hcc) (List.all_eq_true.1 hc u (List.mem_of_getElem? hi)))⟩
theorem rC {o : Oper} {us : List V} {f : FuncId} {id : Nat} {Vs : List V} {mo : List Ob} {r : V} (hcal : sU P o a w A μ f us) (hG : GX G w0 X A0) (h : Ok w0 X A0 N bd σ a w A μ) (hid : ∀ m, m < 8 → μ (id + m) = none) (hd : ∀ n, o.dst = some n → n < N)
    (hf : cI P G f [] Vs mo r) (hav : sD ck σ.mem us Vs) (hsh : us.all V.shutA = true ∨ (aDC r = true ∧ ∀ ob ∈ mo, mF ob)) (hfl : r.flat = true) (hia : mo.all Ob.isA = true) (hmo : mo.length ≤ 8) :
    o.wp P a w (iJ w0 X A0 N (fun i => bd i ∨ (id ≤ i ∧ i < id + 8)) ((σ.put o.dst (r.ren (id + ·))).eff (Eff.setL id mo)) o.dst.toList a w A μ) Q := by
  unfold Oper.wp
  obtain ⟨vs, hrun, hvs1, hvs2⟩ := hcal
  rw [hrun]
  obtain ⟨g1, g2⟩ := yB _ _ hav
  -- what the call may read
  obtain ⟨Ac, hAc1, hAc2, hargs⟩ : ∃ Ac : Nat → Prop, (∀ b, A b → Ac b) ∧ (∀ b, Ac b → b < w.heap.size ∧ (us.all V.shutA = true → A b)) ∧
      ∀ (i : Nat) (u x : V) (v : Value), us[i]? = some u → Rv w A μ u v → AvA ck σ.mem u x → Rv w Ac (fun _ => none) x v := by
    by_cases hs : us.all V.shutA = true
    · exact ⟨A, fun _ h => h, fun b hb => ⟨(h.hA b hb).1, fun _ => hb⟩, fun i u x v hi hu hv => aGV h (List.all_eq_true.1 hs u (List.mem_of_getElem? hi)) hu hv _⟩
    · refine ⟨fun b => A b ∨ own σ μ b, fun _ h => .inl h, fun b hb => ⟨?_, fun h' => absurd h' hs⟩, fun i u x v hi hu hv => aLJ h (fun _ h => .inl h) (fun _ h => .inr h) hu hv _⟩
      rcases hb with hb | ⟨i, l, h1, h2, h3⟩
      · exact (h.hA b hb).1
      · obtain ⟨oi, hoi⟩ := Option.ne_none_iff_exists'.1 h1
        obtain ⟨l2, hl2, _, hb2⟩ := h.ob i oi hoi
        rw [h2] at hl2; injection hl2 with hl2; subst hl2
        exact (hb2 b h3).1
  have hcalls := hf.2 w Ac (fun _ => none) vs (by rw [hvs1, g1]) (fun i x v hx hv => by
      have hlt : i < us.length := by rw [g1]; exact (List.getElem?_eq_some_iff.1 hx).1
      exact hargs i _ x v (List.getElem?_eq_getElem hlt) (hvs2 i _ v (List.getElem?_eq_getElem hlt) hv) (g2 i _ x (List.getElem?_eq_getElem hlt) hx)) (fun b hb => (hAc2 b hb).1) ((h.gl hG).mono hAc1) ⟨fun m ob hm => by simp at hm, fun i j li lj b hi => by simp at hi, fun i hi => absurd rfl hi⟩
  refine hcalls.mono fun e w' ⟨v, A', μ', he, hp⟩ => ?_
  subst he
  have hμ' : ∀ m l, μ' m = some l → m < mo.length := fun m l hm => hp.objs.bd m (by rw [hm]; simp)
  let μ2 : Nat → Option Loc := fun i => if id ≤ i ∧ i < id + 8 then μ' (i - id) else μ i
  have hsub : ∀ i l, μ i = some l → μ2 i = some l := fun i l hi => by
    show (if id ≤ i ∧ i < id + 8 then μ' (i - id) else μ i) = some l
    split
    · rename_i hc
      have := hid (i - id) (by omega)
      rw [show id + (i - id) = i by omega, hi] at this; cases this
    · exact hi
  have hnewμ : ∀ m l, μ' m = some l → μ2 (id + m) = some l := fun m l hm => by
    have := hμ' m l hm
    show (if id ≤ id + m ∧ id + m < id + 8 then μ' (id + m - id) else μ (id + m)) = some l
    rw [if_pos (by omega), show id + m - id = m by omega]; exact hm
  have hnob : ∀ b, ¬ blk (fun _ => none) (([] : List Ob).length) b := fun b ⟨m, l, hm, _⟩ => by simp at hm
  -- where closed data lie afterwards
  obtain ⟨A2, hA21, hA22, hres, hobs⟩ : ∃ A2 : Nat → Prop, (∀ b, A b → A2 b) ∧ (∀ b, A2 b → b < w'.heap.size ∧ (A b ∨ w.heap.size ≤ b)) ∧ Rv w' A2 μ' r v ∧
      ∀ (m : Nat) (ob : Ob) (l : Loc), mo[m]? = some ob → μ' m = some l → gP w' A2 μ' l ob ∧ ∀ b, l.has b → ¬ A2 b := by
    rcases hsh with hs | ⟨hb1, hb2⟩
    · refine ⟨A', fun b hb => hp.sub b (hAc1 b hb), fun b hb => ⟨(hp.hA b hb).1, (hp.hA b hb).2.imp (fun h' => (hAc2 b h').2 hs) (fun h' => h')⟩, hp.res, fun m ob l hm hl => ?_⟩
      obtain ⟨l', hl', ho', hb'⟩ := hp.objs.ob m ob hm
      rw [hl] at hl'; injection hl' with hl'; subst hl'
      exact ⟨ho', fun b hb => (hb' b hb).2.1⟩
    · refine ⟨A, fun _ h => h, fun b hb => ⟨Nat.lt_of_lt_of_le (h.hA b hb).1 hp.size, .inl hb⟩, aDW hb1 hp.res, fun m ob l hm hl => ?_⟩
      obtain ⟨l', hl', ho', hb'⟩ := hp.objs.ob m ob hm
      rw [hl] at hl'; injection hl' with hl'; subst hl'
      refine ⟨aEI (hb2 ob (List.mem_of_getElem? hm)) ho', fun b hb hA => ?_⟩
      have := (hb' b hb).2.2.resolve_left (hnob b)
      exact absurd (h.hA b hA).1 (by omega)
  refine ⟨A2, μ2, h.step (Tc := fun _ => False) hp.os hp.tape hp.out hp.size (fun b hb _ => hp.old b hb (hnob b)) (fun _ h => h.elim) (fun _ h => h.elim) hA21 hA22 hsub (fun i hi => ?_) (aFQ hnewμ hfl hres) hd (fun _ _ _ _ _ _ _ _ h => h) (fun i ob hi => ?_) (fun i ob hi j hj li lj b h1 h2 h3 h4 => ?_)⟩
  · by_cases hc : id ≤ i ∧ i < id + 8
    · exact .inr hc
    · refine .inl (h.bd i (fun e => hi ?_))
      show (if id ≤ i ∧ i < id + 8 then μ' (i - id) else μ i) = none
      rw [if_neg hc]; exact e
  · rw [nE] at hi
    split at hi
    · rename_i hc
      injection hi with hi
      obtain ⟨l, hl, _, hb⟩ := hp.objs.ob _ _ hi
      obtain ⟨ho', hnA⟩ := hobs _ _ l hi hl
      refine ⟨l, by have := hnewμ _ _ hl; rwa [show id + (i - id) = i by omega] at this, ?_, fun b hlb => ⟨(hb b hlb).1, hnA b hlb, .inr ?_⟩⟩
      · exact gP.re (List.all_eq_true.1 hia _ (List.mem_of_getElem? hi)) ho'
      · exact Nat.le_trans h.size ((hb b hlb).2.2.resolve_left (hnob b))
    · cases hi
  · rw [nE] at hi
    split at hi
    · rename_i hc
      injection hi with hi
      have hm1 := (List.getElem?_eq_some_iff.1 hi).1
      obtain ⟨l, hl, _, hb⟩ := hp.objs.ob _ _ hi
      have e1 := hnewμ _ _ hl
      rw [show id + (i - id) = i by omega, h1] at e1; injection e1 with e1; subst e1
      rcases hj with ⟨ob2, hj⟩ | ⟨hj, hm⟩
      · rw [nE] at hj
        split at hj
        · rename_i hc2
          injection hj with hj
          have hm2 := (List.getElem?_eq_some_iff.1 hj).1
          obtain ⟨l2, hl2, _⟩ := hp.objs.ob _ _ hj
          have e2 := hnewμ _ _ hl2
          rw [show id + (j - id) = j by omega, h2] at e2; injection e2 with e2; subst e2
          have := hp.objs.ap _ _ _ _ b hm1 hm2 hl hl2 h3 h4
          omega
        · cases hj
      · have hnj : ¬ (id ≤ j ∧ j < id + 8) := fun hcj => by
          obtain ⟨oj, hoj⟩ := Option.ne_none_iff_exists'.1 hm
          obtain ⟨l2, hl2, _⟩ := h.ob j oj hoj
          have := hid (j - id) (by omega)
          rw [show id + (j - id) = j by omega, hl2] at this; cases this
        obtain ⟨oj, hoj⟩ := Option.ne_none_iff_exists'.1 hm
        obtain ⟨l2, hl2, _, hb2⟩ := h.ob j oj hoj
        have e2 := hsub _ _ hl2
        rw [h2] at e2; injection e2 with e2; subst e2
        have e3 := (hb2 b h4).1
        have e4 := (hb b h3).2.2.resolve_left (hnob b)
        omega
    · cases hi
end
end Go.Aw
set_option linter.unusedVariables false
namespace Go.Aw
section
variable {P : Program} {G : Nat → Option Obj} {T : TypeId → Option TI} {ck : Nat → Bool} {w0 : World} {X A0 : Nat → Prop} {N : Nat} {bd : Nat → Prop} {σ : St} {a : Act} {w : World} {A : Nat → Prop} {μ : Nat → Option Loc} {Q : Exit → Act → World → Prop}
theorem aAY {μ' : Nat → Option Loc} {ρ : Nat → Nat} {n : Nat} (hρ : ∀ i l, i < n → μ (ρ i) = some l → μ' i = some l) : ∀ {x : V} {v : Value}, x.lf = true → x.refs1 n = true → Rv w A μ (x.ren1 ρ) v → Rv w A μ' x v := by
  intro x v hl hr h
  have lt : ∀ i, Nat.blt i n = true → i < n := fun i h => Nat.le_of_ble_eq_true h
  cases x with
  | own i len =>
    obtain ⟨l, hl', rfl, rfl⟩ := h.own_inv
    exact .own _ l (hρ _ _ (lt _ hr) hl')
  | bp i off =>
    obtain ⟨l, b, hl', hb, rfl⟩ := h.bp_inv
    exact .bp _ _ l b (hρ _ _ (lt _ hr) hl') hb
  | ep i j off =>
    obtain ⟨l, b, hl', hb, rfl⟩ := h.ep_inv
    exact .ep _ _ _ l b (hρ _ _ (lt _ hr) hl') hb
  | cf f i =>
    obtain ⟨l, b, hl', hb, rfl⟩ := h.cf_inv
    exact .cf _ _ l b (hρ _ _ (lt _ hr) hl') hb
  | dsl i j off n =>
    obtain ⟨l, d, hl', hb, rfl, rfl⟩ := h.dsl_inv
    exact .dsl _ _ _ l d (hρ _ _ (lt _ hr) hl') hb
  | mp i =>
    obtain ⟨l, b, hl', hb, rfl⟩ := h.mp_inv
    exact .mp _ l b (hρ _ _ (lt _ hr) hl') hb
  | ifs t i len =>
    obtain ⟨l, hl', rfl, rfl⟩ := h.ifs_inv
    exact .ifs t _ l (hρ _ _ (lt _ hr) hl')
  | ip i a b c j o =>
    obtain ⟨l, d, b', hl', hd, hb, rfl⟩ := h.ip_inv
    exact .ip _ _ _ _ _ _ l d b' (hρ _ _ (lt _ hr) hl') hd hb
  | agg xs => cases hl
  | tup xs => cases hl
  | _ => cases h with | c h => exact .c h
theorem aHG {μ' : Nat → Option Loc} {ρ : Nat → Nat} {n : Nat} (hρ : ∀ i l, i < n → μ (ρ i) = some l → μ' i = some l) {x : V} {v : Value} (hl : (x.flat2 && x.refs n) = true) (h : Rv w A μ (x.ren ρ) v) : Rv w A μ' x v := by
  rw [Bool.and_eq_true] at hl
  obtain ⟨hl, hr⟩ := hl
  by_cases hx : ∃ xs, x = .agg xs
  · obtain ⟨xs, rfl⟩ := hx
    obtain ⟨cs, rfl, hs, hrr⟩ := Rv.agg_inv (xs := xs.map (V.ren1 ρ)) h
    refine .agg _ cs (by simpa using hs) (fun i y c hy hc => ?_)
    exact aAY hρ (List.all_eq_true.1 hl y (List.mem_of_getElem? hy)) (List.all_eq_true.1 hr y (List.mem_of_getElem? hy)) (hrr i _ c (by simp [hy]) hc)
  · have e2 : x.lf = true := by cases x <;> first | exact hl | exact absurd ⟨_, rfl⟩ hx
    have e1 : x.ren ρ = x.ren1 ρ := by cases x <;> first | rfl | cases e2
    have e3 : x.refs1 n = true := by cases x <;> first | exact hr | exact absurd ⟨_, rfl⟩ hx
    rw [e1] at h; exact aAY hρ e2 e3 h
theorem pF : ∀ (ids : List Nat) (mo : List Ob) (j : Nat), (∃ (n : Nat) (ob : Ob), ids[n]? = some j ∧ mo[n]? = some ob ∧ Eff.at ids mo j = some (some ob)) ∨ (Eff.at ids mo j = none ∧ ∀ (n : Nat) (ob : Ob), ids[n]? = some j → mo[n]? = some ob → False)
  | [], mo, j => .inr ⟨by cases mo <;> rfl, fun n ob h => by simp at h⟩
  | i :: ids, [], j => .inr ⟨rfl, fun n ob _ h => by simp at h⟩
  | i :: ids, ob :: mo, j => by
    show (∃ (n : Nat) (ob' : Ob), _ ∧ _ ∧ (match Nat.beq j i with | true => some (some ob) | false => Eff.at ids mo j) = _) ∨ ((match Nat.beq j i with | true => some (some ob) | false => Eff.at ids mo j) = none ∧ _)
    cases hb : Nat.beq j i with
    | true => have := Nat.eq_of_beq_eq_true hb; subst this; exact .inl ⟨0, ob, rfl, rfl, rfl⟩
    | false =>
      have hne := Nat.ne_of_beq_eq_false hb
      rcases pF ids mo j with ⟨n, ob', h1, h2, h3⟩ | ⟨h1, h2⟩
      · exact .inl ⟨n + 1, ob', by simpa using h1, by simpa using h2, h3⟩
      · refine .inr ⟨h1, fun n ob' g1 g2 => ?_⟩
        cases n with
        | zero => simp at g1; exact hne g1.symm
        | succ n => exact h2 n ob' (by simpa using g1) (by simpa using g2)
theorem aBM {μ' : Nat → Option Loc} {x : V} {v : Value} (hl : x.clo1 = true) (h : Rv w A μ x v) : Rv w A μ' x v := by
  by_cases e : x = .und
  · subst e; exact .c (.und _)
  · exact .c (iT h (by cases x <;> first | exact absurd rfl e | exact hl))
theorem aCL {μ' : Nat → Option Loc} {x : V} {v : Value} (hl : x.clo2 = true) (h : Rv w A μ x v) : Rv w A μ' x v := by
  by_cases hx : ∃ xs, x = .agg xs
  · obtain ⟨xs, rfl⟩ := hx
    obtain ⟨cs, rfl, hs, hr⟩ := h.agg_inv
    exact .agg _ cs hs (fun i y c hy hc => aBM (List.all_eq_true.1 hl y (List.mem_of_getElem? hy)) (hr i y c hy hc))
  · exact aBM (by cases x <;> first | exact hl | exact absurd ⟨_, rfl⟩ hx) h
theorem vZ {μ' : Nat → Option Loc} {x : V} {v : Value} (hl : x.clo = true) (h : Rv w A μ x v) : Rv w A μ' x v := by
  by_cases hx : ∃ xs, x = .tup xs
  · obtain ⟨xs, rfl⟩ := hx
    obtain ⟨cs, rfl, hs, hr⟩ := h.tup_inv
    exact .tup _ cs hs (fun i y c hy hc => aCL (List.all_eq_true.1 hl y (List.mem_of_getElem? hy)) (hr i y c hy hc))
  · exact aCL (by cases x <;> first | exact hl | exact absurd ⟨_, rfl⟩ hx) h
theorem pR {o : Oper} {us : List V} {f : FuncId} {ids : List Nat} {Vs : List V} {mi mo : List Ob} {r : V} (hcal : sU P o a w A μ f us) (hG : GX G w0 X A0) (h : Ok w0 X A0 N bd σ a w A μ) (hd : ∀ n, o.dst = some n → n < N)
    (hf : cI P G f mi Vs mo r) (hli : ids.length = mi.length) (hlo : mo.length = mi.length) (hnd : ids.Nodup) (hmi : ∀ (n i : Nat), ids[n]? = some i → σ.mem i = mi[n]?) (harr : (mi ++ mo).all Ob.isA = true)
    (hav : us = Vs.map (V.ren fun n => ids.getD n 0)) (hVf : Vs.all (fun v => v.flat2 && v.refs ids.length) = true) (hrb : r.clo = true) :
    o.wp P a w (iJ w0 X A0 N bd ((σ.put o.dst r).eff (Eff.at ids mo)) o.dst.toList a w A μ) Q := by
  unfold Oper.wp
  obtain ⟨vs, hrun, hvs1, hvs2⟩ := hcal
  rw [hrun]
  let μc : Nat → Option Loc := fun n => if n < ids.length then μ (ids.getD n 0) else none
  have hμc : ∀ n i, ids[n]? = some i → μc n = μ i := fun n i hn => by
    have hlt := (List.getElem?_eq_some_iff.1 hn).1
    show (if n < ids.length then μ (ids.getD n 0) else none) = _
    rw [if_pos hlt]
    congr 1
    simp [hn]
  have hids : ∀ n ob, mi[n]? = some ob → ∃ i, ids[n]? = some i ∧ σ.mem i = some ob := fun n ob hn => by
    have hlt : n < ids.length := by rw [hli]; exact (List.getElem?_eq_some_iff.1 hn).1
    refine ⟨ids[n], List.getElem?_eq_getElem hlt, ?_⟩
    rw [hmi n _ (List.getElem?_eq_getElem hlt)]; exact hn
  have hlenV : Vs.length = us.length := by
    have := congrArg List.length hav; simpa using this.symm
  have hobj : wJ w A μc mi (fun _ => True) := by
    refine ⟨fun m ob hm => ?_, fun i j li lj b hi hj h1 h2 h3 h4 => ?_, fun i hi => ?_⟩
    · obtain ⟨i, g1, g2⟩ := hids m ob hm
      obtain ⟨l, hl, ho', hb⟩ := h.ob i ob g2
      refine ⟨l, by rw [hμc m i g1]; exact hl, ?_, fun b hb' => ⟨(hb b hb').1, (hb b hb').2.1, trivial⟩⟩
      exact gP.re (List.all_eq_true.1 harr ob (List.mem_append_left _ (List.mem_of_getElem? hm))) ho'
    · obtain ⟨oi, hoi⟩ : ∃ oi, mi[i]? = some oi := ⟨_, List.getElem?_eq_getElem hi⟩
      obtain ⟨oj, hoj⟩ : ∃ oj, mi[j]? = some oj := ⟨_, List.getElem?_eq_getElem hj⟩
      obtain ⟨i', a1, a2⟩ := hids i oi hoi
      obtain ⟨j', b1, b2⟩ := hids j oj hoj
      rw [hμc i i' a1] at h1
      rw [hμc j j' b1] at h2
      have := h.ap i' j' li lj b (by rw [a2]; simp) (by rw [b2]; simp) h1 h2 h3 h4
      subst this
      obtain ⟨l1, e1⟩ := List.getElem?_eq_some_iff.1 a1
      obtain ⟨l2, e2⟩ := List.getElem?_eq_some_iff.1 b1
      exact (List.getElem_inj hnd).1 (e1.trans e2.symm)
    · have hi2 : (if i < ids.length then μ (ids.getD i 0) else none) ≠ none := hi
      split at hi2
      · omega
      · exact absurd rfl hi2
  have hcalls := hf.2 w A μc vs (by rw [hlenV, hvs1]) (fun i x v hx hv => by
      have e1 : (Vs.map (V.ren fun n => ids.getD n 0))[i]? = some (x.ren fun n => ids.getD n 0) := by simp [hx]
      rw [← hav] at e1
      have hy' := hvs2 i _ v e1 hv
      refine aHG (fun n l hn' hn => ?_) (List.all_eq_true.1 hVf x (List.mem_of_getElem? hx)) hy'
      show (if n < ids.length then μ (ids.getD n 0) else none) = some l
      rw [if_pos hn']; exact hn) (fun b hb => (h.hA b hb).1) (h.gl hG) hobj
  refine hcalls.mono fun e w' ⟨v, A', μ', he, hp⟩ => ?_
  subst he
  have hblk : ∀ b, blk μc mi.length b → ∃ i ob l, σ.mem i = some ob ∧ μ i = some l ∧ l.has b ∧ ∃ n : Nat, ids[n]? = some i := fun b ⟨m, l, hm, hl, hb⟩ => by
    obtain ⟨i, g1, g2⟩ := hids m _ (List.getElem?_eq_getElem hm)
    exact ⟨i, _, l, g2, by rw [← hμc m i g1]; exact hl, hb, m, g1⟩
  have hfacts : ∀ b, blk μc mi.length b → b < w.heap.size ∧ ¬ A b ∧ (X b ∨ w0.heap.size ≤ b) := fun b hb => by
    obtain ⟨i, ob, l, g1, g2, g3, _⟩ := hblk b hb
    obtain ⟨l', hl', _, hbb⟩ := h.ob i ob g1
    rw [g2] at hl'; injection hl' with hl'; subst hl'
    exact hbb b g3
  have hmo : ∀ n, n < ids.length → ∃ ob, mo[n]? = some ob := fun n hn => ⟨_, List.getElem?_eq_getElem (by omega)⟩
  have hset : ∀ i, (∃ n : Nat, ids[n]? = some i) → Eff.at ids mo i ≠ none := fun i ⟨n, hn⟩ he => by
    obtain ⟨ob, hob⟩ := hmo n (List.getElem?_eq_some_iff.1 hn).1
    rcases pF ids mo i with ⟨_, _, _, _, h3⟩ | ⟨_, h2⟩
    · rw [he] at h3; cases h3
    · exact h2 n ob hn hob
  have hmem : ∀ i ob, Eff.at ids mo i = some (some ob) → ∃ n : Nat, ids[n]? = some i ∧ mo[n]? = some ob := fun i ob he => by
    rcases pF ids mo i with ⟨n, ob', h1, h2, h3⟩ | ⟨h1, _⟩
    · rw [he] at h3; injection h3 with h3; injection h3 with h3; subst h3; exact ⟨n, h1, h2⟩
    · rw [he] at h1; cases h1
  have hsome : ∀ i (n : Nat), ids[n]? = some i → ∃ ob, σ.mem i = some ob := fun i n hn => by
    have hlt : n < mi.length := by rw [← hli]; exact (List.getElem?_eq_some_iff.1 hn).1
    exact ⟨mi[n], by rw [hmi n i hn]; exact List.getElem?_eq_getElem hlt⟩
  refine ⟨A', μ, h.step (Tc := blk μc mi.length) hp.os hp.tape hp.out hp.size hp.old (fun b hb => (hfacts b hb).2.1) (fun b hb => (hfacts b hb).2.2) hp.sub hp.hA (fun _ _ h => h) h.bd (vZ hrb hp.res) hd (fun i ob l b he hm hl hb hbk => ?_) (fun i ob he => ?_) (fun i ob he j hj li lj b h1 h2 h3 h4 => ?_)⟩
  · obtain ⟨i', ob', l', g1, g2, g3, g4⟩ := hblk b hbk
    have := h.ap i i' l l' b (by rw [hm]; simp) (by rw [g1]; simp) hl g2 hb g3
    subst this
    exact hset i g4 he
  · obtain ⟨n, g1, g2⟩ := hmem i ob he
    have hn : n < mi.length := by rw [← hlo]; exact (List.getElem?_eq_some_iff.1 g2).1
    obtain ⟨l, hl, ho', hb⟩ := hp.objs.ob n ob g2
    rw [hp.same n hn, hμc n i g1] at hl
    refine ⟨l, hl, ?_, fun b hb' => ⟨(hb b hb').1, (hb b hb').2.1, ?_⟩⟩
    · exact gP.re (List.all_eq_true.1 harr ob (List.mem_append_right _ (List.mem_of_getElem? g2))) ho'
    · obtain ⟨ob', hob'⟩ := hsome i n g1
      obtain ⟨l2, hl2, _, hb2⟩ := h.ob i ob' hob'
      rw [hl] at hl2; injection hl2 with hl2; subst hl2
      exact (hb2 b hb').2.2
  · obtain ⟨n, g1, g2⟩ := hmem i ob he
    obtain ⟨oi, hoi⟩ := hsome i n g1
    have hj' : σ.mem j ≠ none := by
      rcases hj with ⟨ob2, hj⟩ | ⟨_, hj⟩
      · obtain ⟨m, q1, q2⟩ := hmem j ob2 hj
        obtain ⟨oj, hoj⟩ := hsome j m q1
        rw [hoj]; simp
      · exact hj
    exact h.ap i j li lj b (by rw [hoi]; simp) hj' h1 h2 h3 h4
theorem aLX {μ' : Nat → Option Loc} {i idx off : Nat} {l l0 : Loc} {d : Hd} (hl : μ i = some l) (hd : l.hd (idx * l.sz + off) = some d) (h0 : μ' 0 = some l0) (hb : l0.b = d.b) (hn : l0.len = d.len) (hc : l0.cap = d.cap) {x : V} {v : Value} (hx : x.inOk = true) (h : Rv w A μ (x.inn i idx off) v) : Rv w A μ' x v := by
  unfold V.inOk at hx
  split at hx
  · rename_i n
    obtain ⟨l', d', h1, h2, h3, rfl⟩ := Rv.dsl_inv h
    rw [hl] at h1; injection h1 with h1; subst h1
    rw [hd] at h2; injection h2 with h2; subst h2
    have e : d.val = .slice (l0.b.map (⟨·, 0, none⟩)) l0.len l0.cap := by rw [hb, hn, hc]; rfl
    rw [e, ← h3, ← hn]
    exact .own 0 l0 h0
  · have e : x.inn i idx off = x := by
      cases x <;> first | rfl | cases hx
    rw [e] at h
    exact .c (iT h hx)
theorem zC {l l' : Loc} {e : TypeId} {sz : Nat} {xs : List (List V)} {A' : Nat → Prop} (hb : mF (.arr e sz xs)) (e1 : l'.b = l.b) (e2 : l'.len = l.len) (e3 : l'.cap = l.cap) (e4 : l'.sz = sz) (h : Row w l e sz xs (fun _ => Rc w A)) : Row w l' e sz xs (fun _ => Rc w A') := by
  obtain ⟨q1, q2, q3, cs, q4, q5, q6⟩ := h
  refine ⟨e4, by rw [e2]; exact q2, q3, cs, by rw [e1, e2, e3]; exact q4, q5, fun k u c hk hc => vM ?_ (q6 k u c hk hc)⟩
  obtain ⟨p, hp, hu⟩ := List.mem_flatten.1 (List.mem_of_getElem? hk)
  exact hb p hp u hu
theorem xO {sz : Nat} {xs : List (List V)} {idx off : Nat} {p : List V} {v : V} (hu : ∀ p ∈ xs, p.length = sz) (hp : xs[idx]? = some p) (ho : off < sz) (k : Nat) (u : V) (hk : (xs.set idx (p.set off v)).flatten[k]? = some u) :
    (k = idx * sz + off ∧ u = v) ∨ (k ≠ idx * sz + off ∧ xs.flatten[k]? = some u) := by
  have hpl : p.length = sz := hu p (List.mem_of_getElem? hp)
  have hidx : idx < xs.length := (List.getElem?_eq_some_iff.1 hp).1
  have hu' : ∀ q ∈ xs.set idx (p.set off v), q.length = sz := fun q hq => by
    rcases List.mem_or_eq_of_mem_set hq with hq | rfl
    · exact hu q hq
    · simpa using hpl
  obtain ⟨q, h1, h2⟩ := kG _ k u hu' hk
  have hk' : k = k / sz * sz + k % sz := by rw [Nat.mul_comm]; exact (Nat.div_add_mod k sz).symm
  have hm : k % sz < sz := Nat.mod_lt _ (by omega)
  by_cases c : k / sz = idx
  · rw [c, List.getElem?_set_self (by omega)] at h1
    injection h1 with h1; subst h1
    by_cases c2 : k % sz = off
    · rw [c2, List.getElem?_set_self (by omega)] at h2
      injection h2 with h2
      exact .inl ⟨by rw [hk', c, c2], h2.symm⟩
    · rw [List.getElem?_set_ne (by omega)] at h2
      refine .inr ⟨fun e => c2 ?_, ?_⟩
      · rw [e, Nat.mul_comm, Nat.mul_add_mod]; exact Nat.mod_eq_of_lt ho
      · rw [hk', c]; exact flat_get xs idx (k % sz) p u hu hp h2
  · rw [List.getElem?_set_ne (by omega)] at h1
    refine .inr ⟨fun e => c ?_, ?_⟩
    · rw [e, Nat.mul_comm, Nat.mul_add_div (by omega), Nat.div_eq_of_lt ho]; omega
    · rw [hk']; exact flat_get xs _ (k % sz) q u hu h1 h2
theorem pL {o : Oper} {us : List V} {f : FuncId} {i idx off n n' : Nat} {Vs : List V} {e e' : TypeId} {sz s : Nat} {es : List TypeId} {xs : List (List V)} {p : List V} {ys ys' : List (List V)} {r : V} (hcal : sU P o a w A μ f us) (hG : GX G w0 X A0) (h : Ok w0 X A0 N bd σ a w A μ) (hd : ∀ n, o.dst = some n → n < N)
    (hf : cI P G f [.arr e' s ys] Vs [.arr e' s ys'] r) (hm : σ.mem i = some (.deep e sz es xs)) (hp : xs[idx]? = some p) (hq : p[off]? = some (.sl s n ys)) (he' : es.getD off 0 = e')
    (hav : us = Vs.map (V.inn i idx off)) (hVf : Vs.all V.inOk = true) (hn : ys'.length = n') (hbr : mF (.arr e' s ys')) (hrb : r.clo = true) :
    o.wp P a w (iJ w0 X A0 N bd ((σ.put o.dst r).eff (Eff.set i (.deep e sz es (xs.set idx (p.set off (.sl s n' ys')))))) o.dst.toList a w A μ) Q := by
  unfold Oper.wp
  obtain ⟨vs, hrun, hvs1, hvs2⟩ := hcal
  rw [hrun]
  obtain ⟨l, hl, ⟨hH, r1, r2, r3, cs, r4, r5, r6⟩, hbb⟩ := h.ob i _ hm
  have hoff : off < sz := by
    have := r3 p (List.mem_of_getElem? hp)
    have := (List.getElem?_eq_some_iff.1 hq).1
    omega
  have hmod : (idx * sz + off) % sz = off := by rw [Nat.mul_comm, Nat.mul_add_mod]; exact Nat.mod_eq_of_lt hoff
  have hflat := flat_get xs idx off p _ r3 hp hq
  have hcell : ∃ c, cs[idx * sz + off]? = some c := by
    have := (List.getElem?_eq_some_iff.1 hflat).1
    rw [gY xs r3, ← r2] at this
    exact ⟨_, List.getElem?_eq_getElem (by rw [r4.1]; exact this)⟩
  obtain ⟨c0, hc0⟩ := hcell
  obtain ⟨d, d1, d2, d3, d4⟩ := r6 _ _ _ hflat hc0
  rw [hmod, he'] at d4
  let l0 : Loc := ⟨d.b, d.len, d.cap, s, []⟩
  let μc : Nat → Option Loc := fun m => if m = 0 then some l0 else none
  have hlenV : Vs.length = us.length := by
    have := congrArg List.length hav; simpa using this.symm
  have hfact : ∀ b, l0.has b → b < w.heap.size ∧ ¬ A b ∧ (X b ∨ w0.heap.size ≤ b) := fun b hb => hbb b (Loc.hd_has d1 (gV hb))
  have hobj : wJ w A μc [.arr e' s ys] (fun _ => True) := by
    refine ⟨fun m ob hm => ?_, fun i j li lj b hi hj h1 h2 h3 h4 => ?_, fun i hi => ?_⟩
    · cases m with
      | zero =>
        simp at hm; subst hm
        exact ⟨l0, rfl, d4.mono (fun _ _ => rfl) (fun _ _ _ _ h => h.nomem), fun b hb => ⟨(hfact b hb).1, (hfact b hb).2.1, trivial⟩⟩
      | succ m => simp at hm
    · simp at hi hj; omega
    · by_cases c : i = 0
      · subst c; simp
      · exact absurd (if_neg c) hi
  have hcalls := hf.2 w A μc vs (by rw [hlenV, hvs1]) (fun j x v hx hv => by
      have e1 : (Vs.map (V.inn i idx off))[j]? = some (x.inn i idx off) := by simp [hx]
      rw [← hav] at e1
      exact aLX hl (by rw [r1]; exact d1) (μ' := μc) (l0 := l0) rfl rfl rfl rfl (List.all_eq_true.1 hVf x (List.mem_of_getElem? hx)) (hvs2 j _ v e1 hv)) (fun b hb => (h.hA b hb).1) (h.gl hG) hobj
  refine hcalls.mono fun e w' ⟨v, A', μ', he, hp'⟩ => ?_
  subst he
  have hblk : ∀ b, blk μc ([.arr e' s ys] : List Ob).length b → l0.has b := fun b ⟨m, lm, h1, h2, h3⟩ => by
    have : m = 0 := by simp at h1; exact h1
    subst this
    have : some l0 = some lm := h2
    injection this with this; subst this; exact h3
  obtain ⟨l1, hl1, ho1, hb1⟩ := hp'.objs.ob 0 _ rfl
  rw [hp'.same 0 (by simp)] at hl1
  have : some l0 = some l1 := hl1
  injection this with this; subst this
  have hlb0 : ∀ b, l.b = some b → ¬ l0.has b := fun b hb hc => (hH _ d b d1 (gV hc)).1 hb
  refine ⟨A', μ, h.step (Tc := blk μc ([.arr e' s ys] : List Ob).length) hp'.os hp'.tape hp'.out hp'.size hp'.old (fun b hb => (hfact b (hblk b hb)).2.1) (fun b hb => (hfact b (hblk b hb)).2.2) hp'.sub hp'.hA (fun _ _ h => h) h.bd (vZ hrb hp'.res) hd (fun j ob lj b he hm' hlj hb hbk => ?_) (fun j ob he => ?_) (fun j ob he k hk lj lk b h1 h2 h3 h4 => ?_)⟩
  · have := h.ap i j l lj b (by rw [hm]; simp) (by rw [hm']; simp) hl hlj (Loc.hd_has d1 (gV (hblk b hbk))) hb
    subst this
    rw [Eff.set_eq, if_pos rfl] at he; cases he
  · rw [Eff.set_eq] at he
    split at he
    · rename_i e2; subst e2; injection he with he; injection he with he; subst he
      refine ⟨l, hl, ⟨hH, r1, by simpa using r2, fun q hq' => ?_, cs, ?_, r5, fun k u c hk hc => ?_⟩, fun b hb => ⟨Nat.lt_of_lt_of_le (hbb b hb).1 hp'.size, fun hA' => ?_, (hbb b hb).2.2⟩⟩
      · rcases List.mem_or_eq_of_mem_set hq' with hq' | rfl
        · exact r3 q hq'
        · simpa using r3 p (List.mem_of_getElem? hp)
      · refine ⟨r4.1, ?_⟩
        rcases r4.2 with ⟨e1, e2⟩ | ⟨g, cap, cur, e1, e2, e3, e4⟩
        · exact .inl ⟨e1, e2⟩
        · refine .inr ⟨g, cap, cur, e1, e2, ?_, e4⟩
          cases hlb : l.b with
          | none => rw [hlb] at e1; simp at e1
          | some b =>
            rw [hlb] at e1; simp at e1
            rw [hp'.old g (by rw [← e1.1]; exact (hbb b (.inl hlb)).1) (fun hc => hlb0 b hlb (by rw [e1.1]; exact hblk g hc))]; exact e3
      · rcases xO r3 hp hoff k u hk with ⟨rfl, rfl⟩ | ⟨hne, hk'⟩
        · rw [hc0] at hc; injection hc with hc; subst hc
          refine ⟨d, d1, (show l0.len = ys'.length from ho1.2.1).trans hn, d3, ?_⟩
          rw [hmod, he']
          exact zC hbr rfl rfl rfl rfl (show Row w' l0 e' s ys' (fun _ => Rc w' A') from ho1)
        · have hD := r6 k u c hk' hc
          cases u with
          | sl s2 n2 ys2 =>
            obtain ⟨d5, f1, f2, f3, f4⟩ := hD
            refine ⟨d5, f1, f2, f3, f4.mono (fun b hb => ?_) (fun _ _ _ _ h => h.nomem)⟩
            refine hp'.old b (hbb b (Loc.hd_has f1 hb)).1 (fun hc' => hne ?_)
            exact (hH _ d5 b f1 hb).2 _ d d1 (gV (hblk b hc'))
          | _ => exact ⟨hD.1, hD.2.nomem⟩
      · rcases (hp'.hA b hA').2 with q | q
        · exact (hbb b hb).2.1 q
        · have := (hbb b hb).1; omega
    · cases he
  · rw [Eff.set_eq] at he
    split at he
    · rename_i e2; subst e2
      have hk' : σ.mem k ≠ none := by
        rcases hk with ⟨ob2, hk⟩ | ⟨_, hk⟩
        · rw [Eff.set_eq] at hk
          split at hk
          · rename_i e3; subst e3; rw [hm]; simp
          · cases hk
        · exact hk
      exact h.ap _ k lj lk b (by rw [hm]; simp) hk' h1 h2 h3 h4
    · cases he
theorem pK {o : Oper} {us : List V} {f : FuncId} {id : Nat} {ids : List Nat} {Vs : List V} {mi mo : List Ob} {r : V} (hcal : sU P o a w A μ f us) (hG : GX G w0 X A0) (h : Ok w0 X A0 N bd σ a w A μ) (hid : ∀ m, m < 8 → μ (id + m) = none) (hd : ∀ n, o.dst = some n → n < N)
    (hf : cI P G f mi Vs mo r) (hli : ids.length = mo.length) (hlo : mi.length ≤ mo.length) (hnd : ids.Nodup) (hmi : ∀ (n i : Nat), ids[n]? = some i → (n < mi.length ∧ ck i = true ∧ σ.mem i = mi[n]?) ∨ (mi.length ≤ n ∧ n < mi.length + 8 ∧ i = id + (n - mi.length))) (harr : (mi ++ mo).all Ob.isA = true)
    (hav : us = Vs.map (V.ren fun n => ids.getD n 0)) (hVf : Vs.all (fun v => v.flat2 && v.refs mi.length) = true) (hrb : r.flat = true) :
    o.wp P a w (iJ w0 X A0 N (fun i => bd i ∨ (id ≤ i ∧ i < id + 8)) ((σ.put o.dst (r.ren fun n => ids.getD n 0)).eff (Eff.at ids mo)) o.dst.toList a w A μ) Q := by
  unfold Oper.wp
  obtain ⟨vs, hrun, hvs1, hvs2⟩ := hcal
  rw [hrun]
  let μc : Nat → Option Loc := fun n => if n < mi.length then μ (ids.getD n 0) else none
  have hμc : ∀ n i, n < mi.length → ids[n]? = some i → μc n = μ i := fun n i hlt hn => by
    show (if n < mi.length then μ (ids.getD n 0) else none) = _
    rw [if_pos hlt]
    congr 1
    simp [hn]
  have hids : ∀ n ob, mi[n]? = some ob → ∃ i, ids[n]? = some i ∧ n < mi.length ∧ σ.mem i = some ob := fun n ob hn => by
    have hlt : n < mi.length := (List.getElem?_eq_some_iff.1 hn).1
    have hlt2 : n < ids.length := by omega
    have e := List.getElem?_eq_getElem hlt2
    rcases hmi n _ e with ⟨_, _, q⟩ | ⟨q, _⟩
    · exact ⟨ids[n], e, hlt, q.trans hn⟩
    · omega
  have hlenV : Vs.length = us.length := by
    have := congrArg List.length hav; simpa using this.symm
  have hobj : wJ w A μc mi (fun _ => True) := by
    refine ⟨fun m ob hm => ?_, fun i j li lj b hi hj h1 h2 h3 h4 => ?_, fun i hi => ?_⟩
    · obtain ⟨i, g1, g0, g2⟩ := hids m ob hm
      obtain ⟨l, hl, ho', hb⟩ := h.ob i ob g2
      refine ⟨l, by rw [hμc m i g0 g1]; exact hl, ?_, fun b hb' => ⟨(hb b hb').1, (hb b hb').2.1, trivial⟩⟩
      exact gP.re (List.all_eq_true.1 harr ob (List.mem_append_left _ (List.mem_of_getElem? hm))) ho'
    · obtain ⟨oi, hoi⟩ : ∃ oi, mi[i]? = some oi := ⟨_, List.getElem?_eq_getElem hi⟩
      obtain ⟨oj, hoj⟩ : ∃ oj, mi[j]? = some oj := ⟨_, List.getElem?_eq_getElem hj⟩
      obtain ⟨i', a1, a0, a2⟩ := hids i oi hoi
      obtain ⟨j', b1, b0, b2⟩ := hids j oj hoj
      rw [hμc i i' a0 a1] at h1
      rw [hμc j j' b0 b1] at h2
      have := h.ap i' j' li lj b (by rw [a2]; simp) (by rw [b2]; simp) h1 h2 h3 h4
      subst this
      obtain ⟨l1, e1⟩ := List.getElem?_eq_some_iff.1 a1
      obtain ⟨l2, e2⟩ := List.getElem?_eq_some_iff.1 b1
      exact (List.getElem_inj hnd).1 (e1.trans e2.symm)
    · have hi2 : (if i < mi.length then μ (ids.getD i 0) else none) ≠ none := hi
      split at hi2
      · assumption
      · exact absurd rfl hi2
  have hcalls := hf.2 w A μc vs (by rw [hlenV, hvs1]) (fun i x v hx hv => by
      have e1 : (Vs.map (V.ren fun n => ids.getD n 0))[i]? = some (x.ren fun n => ids.getD n 0) := by simp [hx]
      rw [← hav] at e1
      have hy' := hvs2 i _ v e1 hv
      refine aHG (fun n l hn' hn => ?_) (List.all_eq_true.1 hVf x (List.mem_of_getElem? hx)) hy'
      show (if n < mi.length then μ (ids.getD n 0) else none) = some l
      rw [if_pos hn']; exact hn) (fun b hb => (h.hA b hb).1) (h.gl hG) hobj
  refine hcalls.mono fun e w' ⟨v, A', μ', he, hp⟩ => ?_
  subst he
  have hblk : ∀ b, blk μc mi.length b → ∃ i ob l, σ.mem i = some ob ∧ μ i = some l ∧ l.has b ∧ ∃ n : Nat, ids[n]? = some i := fun b ⟨m, l, hm, hl, hb⟩ => by
    obtain ⟨i, g1, g0, g2⟩ := hids m _ (List.getElem?_eq_getElem hm)
    exact ⟨i, _, l, g2, by rw [← hμc m i g0 g1]; exact hl, hb, m, g1⟩
  have hfacts : ∀ b, blk μc mi.length b → b < w.heap.size ∧ ¬ A b ∧ (X b ∨ w0.heap.size ≤ b) := fun b hb => by
    obtain ⟨i, ob, l, g1, g2, g3, _⟩ := hblk b hb
    obtain ⟨l', hl', _, hbb⟩ := h.ob i ob g1
    rw [g2] at hl'; injection hl' with hl'; subst hl'
    exact hbb b g3
  have hmo : ∀ n, n < ids.length → ∃ ob, mo[n]? = some ob := fun n hn => ⟨_, List.getElem?_eq_getElem (by omega)⟩
  have hset : ∀ i, (∃ n : Nat, ids[n]? = some i) → Eff.at ids mo i ≠ none := fun i ⟨n, hn⟩ he => by
    obtain ⟨ob, hob⟩ := hmo n (List.getElem?_eq_some_iff.1 hn).1
    rcases pF ids mo i with ⟨_, _, _, _, h3⟩ | ⟨_, h2⟩
    · rw [he] at h3; cases h3
    · exact h2 n ob hn hob
  have hmem : ∀ i ob, Eff.at ids mo i = some (some ob) → ∃ n : Nat, ids[n]? = some i ∧ mo[n]? = some ob := fun i ob he => by
    rcases pF ids mo i with ⟨n, ob', h1, h2, h3⟩ | ⟨h1, _⟩
    · rw [he] at h3; injection h3 with h3; injection h3 with h3; subst h3; exact ⟨n, h1, h2⟩
    · rw [he] at h1; cases h1
  let μ2 : Nat → Option Loc := fun i => if id ≤ i ∧ i < id + 8 then μ' (i - id + mi.length) else μ i
  have hsub : ∀ i l, μ i = some l → μ2 i = some l := fun i l hi => by
    show (if id ≤ i ∧ i < id + 8 then μ' (i - id + mi.length) else μ i) = some l
    split
    · rename_i hc
      have := hid (i - id) (by omega)
      rw [show id + (i - id) = i by omega, hi] at this; cases this
    · exact hi
  have hnewμ : ∀ n i l, ids[n]? = some i → μ' n = some l → μ2 i = some l := fun n i l hn hl => by
    rcases hmi n i hn with ⟨q, _⟩ | ⟨q1, q2, rfl⟩
    · rw [hp.same n q, hμc n i q hn] at hl; exact hsub i l hl
    · show (if id ≤ id + (n - mi.length) ∧ id + (n - mi.length) < id + 8 then μ' (id + (n - mi.length) - id + mi.length) else μ _) = some l
      rw [if_pos (by omega), show id + (n - mi.length) - id + mi.length = n by omega]; exact hl
  refine ⟨A', μ2, h.step (Tc := blk μc mi.length) hp.os hp.tape hp.out hp.size hp.old (fun b hb => (hfacts b hb).2.1) (fun b hb => (hfacts b hb).2.2) hp.sub hp.hA hsub (fun i hi => ?_) (aFQ (μ := μ') (fun n l hn => ?_) hrb hp.res) hd (fun i ob l b he hm hl hb hbk => ?_) (fun i ob he => ?_) (fun i ob he j hj li lj b h1 h2 h3 h4 => ?_)⟩
  · by_cases hc : id ≤ i ∧ i < id + 8
    · exact .inr hc
    · refine .inl (h.bd i (fun e => hi ?_))
      show (if id ≤ i ∧ i < id + 8 then μ' (i - id + mi.length) else μ i) = none
      rw [if_neg hc]; exact e
  · have hlt : n < mo.length := hp.objs.bd n (by rw [hn]; simp)
    have e : ids[n]? = some (ids.getD n 0) := by
      rw [List.getD_eq_getElem?_getD, List.getElem?_eq_getElem (by omega : n < ids.length)]; rfl
    exact hnewμ n _ l e hn
  · obtain ⟨i', ob', l', g1, g2, g3, g4⟩ := hblk b hbk
    have := h.ap i i' l l' b (by rw [hm]; simp) (by rw [g1]; simp) hl g2 hb g3
    subst this
    exact hset i g4 he
  · obtain ⟨n, g1, g2⟩ := hmem i ob he
    obtain ⟨l, hl, ho', hb⟩ := hp.objs.ob n ob g2
    refine ⟨l, hnewμ n i l g1 hl, ?_, fun b hb' => ⟨(hb b hb').1, (hb b hb').2.1, ?_⟩⟩
    · exact gP.re (List.all_eq_true.1 harr ob (List.mem_append_right _ (List.mem_of_getElem? g2))) ho'
    · rcases (hb b hb').2.2 with q | q
      · exact (hfacts b q).2.2
      · exact .inr (Nat.le_trans h.size q)
  · obtain ⟨n, g1, g2⟩ := hmem i ob he
    obtain ⟨l, hl, _, hb⟩ := hp.objs.ob n ob g2
    have e1 := hnewμ n i l g1 hl
    rw [h1] at e1; injection e1 with e1; subst e1
    rcases hj with ⟨ob2, hj⟩ | ⟨hj, hm⟩
    · obtain ⟨m, q1, q2⟩ := hmem j ob2 hj
      obtain ⟨l2, hl2, _⟩ := hp.objs.ob m ob2 q2
      have e2 := hnewμ m j l2 q1 hl2
      rw [h2] at e2; injection e2 with e2; subst e2
      have := hp.objs.ap n m _ _ b (List.getElem?_eq_some_iff.1 g2).1 (List.getElem?_eq_some_iff.1 q2).1 hl hl2 h3 h4
      subst this
      rw [g1] at q1; injection q1
    · obtain ⟨oj, hoj⟩ := Option.ne_none_iff_exists'.1 hm
      obtain ⟨l2, hl2, _, hb2⟩ := h.ob j oj hoj
      have e2 := hsub _ _ hl2
      rw [h2] at e2; injection e2 with e2; subst e2
      rcases (hb b h3).2.2 with q | q
      · obtain ⟨i', ob', l', p1, p2, p3, p4⟩ := hblk b q
        have := h.ap i' j _ _ b (by rw [p1]; simp) hm p2 hl2 p3 h4
        subst this
        exact absurd hj (hset i' p4)
      · have := (hb2 b h4).1
        omega
end
end Go.Aw
