/- Laid by a program of this session: the texts of one law, joined, without what it does not come to. -/
import Derived.Deep.Slices
import Derived.WideShapes
import Derived.ChangeArms
import Derived.DataReads
import Derived.ProofKit
import Derived.OpenShut
import Derived.Test.YtpihcdbkdldbcaaZFnExactRecGo7
namespace Go.Proofs.Ytpihcdbkdldbcaa.QFnExactRecGo
open Go.ChangeShapes Go.WideShapes Go.ChangeAt Go.RowKit Go.Proofs.YtpihcdbkdldbcaaW.PrintWords Go.Deep
set_option linter.unusedVariables false
/-! ### arguments read as data: what they hold, by kinds -/
def Opn {α : Type} (P : Program) (t : TypeId) (d : Kd α) (okx : α → Prop) : Prop :=
  ∀ {H : Type} (enc : TypeId × Value → H) (w : World) (fuel : Nat) (cs : List Value) (y : DataW H × List MemPlace),
    DataW.trod enc P w 0 (fun _ => true) true fuel t cs = some y → (∀ n ∈ y.1.weights P t, n ≤ reachBytes) → ∃ x, d.K w x cs ∧ okx x
theorem opn_bool {P : Program} {t : TypeId} (ht : P.underlying t = some .bool) : Opn P t Kd.bool (fun _ => True) := by
  intro H enc w fuel cs y h _
  obtain ⟨b, rfl, _⟩ := DataW.trod_bool ht h
  exact ⟨b, rfl, trivial⟩
theorem opn_int {P : Program} {t : TypeId} {k : IntKind} (ht : P.underlying t = some (.int k)) : Opn P t (Kd.int k) (fun x => (Lit.int k x).wf = true) := by
  intro H enc w fuel cs y h _
  obtain ⟨n, rfl, _, hw⟩ := DataW.trod_int ht h
  exact ⟨n, rfl, hw⟩
theorem opn_string {P : Program} {t : TypeId} (ht : P.underlying t = some .string) : Opn P t Kd.string (fun x => x.size ≤ 140737488351232) := by
  intro H enc w fuel cs y h hw
  obtain ⟨s, rfl, rfl, _⟩ := DataW.trod_string ht h
  refine ⟨s, rfl, ?_⟩
  have := hw s.data.toList.length (by simp [DataW.weights])
  rw [Array.length_toList] at this
  exact this
theorem ex_list {α : Type} (Q : Nat → α → Prop) (n : Nat) (h : ∀ i, i < n → ∃ x, Q i x) : ∃ xs : List α, xs.length = n ∧ ∀ (j : Nat) (p : α), xs[j]? = some p → Q j p := by
  induction n with
  | zero => exact ⟨[], rfl, fun j p hp => by simp at hp⟩
  | succ n ih =>
    obtain ⟨xs, hl, hx⟩ := ih (fun i hi => h i (by omega))
    obtain ⟨x, hq⟩ := h n (by omega)
    refine ⟨xs ++ [x], by simp [hl], fun j p hp => ?_⟩
    by_cases c : j < n
    · rw [List.getElem?_append_left (by omega)] at hp; exact hx j p hp
    · have hj : j = n := by
        have := (List.getElem?_eq_some_iff.1 hp).1
        simp [hl] at this; omega
      subst hj
      rw [List.getElem?_append_right (by omega), hl, Nat.sub_self] at hp
      injection hp with hp
      exact hp ▸ hq
theorem weightsAll_mem {H : Type} {P : Program} {e : TypeId} {d : DataW H} : ∀ {ds : List (DataW H)}, d ∈ ds → ∀ n ∈ d.weights P e, n ∈ DataW.weightsAll P e ds
  | d0 :: ds, hd, n, hn => by
    simp only [DataW.weightsAll, List.mem_append]
    rcases List.mem_cons.1 hd with rfl | hd
    · exact Or.inl hn
    · exact Or.inr (weightsAll_mem hd n hn)
theorem weightsAll_len {H : Type} (D : Nat → DataW H) (len m : Nat) (hl : len ≤ m) (i : Nat) (hi : i < len) : D i ∈ (List.range len).map D := List.mem_map.2 ⟨i, List.mem_range.2 hi, rfl⟩
theorem opn_slice {α : Type} {P : Program} {t e : TypeId} {d : Kd α} {okx : α → Prop} {b : Nat} (ht : P.underlying t = some (.slice e)) (hc : P.cellsOf e = d.sz) (hb0 : P.bytesOf e = b) (he : Opn P e d okx) :
    Opn P t (Kd.slice e d) (fun xs => (xs.length ≤ 9223372036854775807 ∧ xs.length * b ≤ 140737488351232) ∧ ∀ x ∈ xs, okx x) := by
  subst hb0
  intro H enc w fuel cs y h hw
  rcases open_slice ht h with ⟨rfl, rfl⟩ | ⟨a, len, cap, m, n, D, Pl, rfl, _, hl, hm, hmm, rfl, hel⟩
  · exact ⟨[], ⟨none, 0, rfl, Nat.le_refl _, ⟨rfl, by simp, fun h => absurd h (Nat.lt_irrefl _)⟩⟩, ⟨by simp, by simp⟩, fun x hx => by cases hx⟩
  have hm2 : m = cap := by simpa using hmm
  subst hm2
  simp only [DataW.weights, ht, List.mem_cons, List.mem_append] at hw
  have hex : ∀ i, i < len → ∃ x, (∃ c, w.cells? 0 (a.add (i * P.cellsOf e)) (P.cellsOf e) = some c ∧ d.K w x c) ∧ okx x := fun i hi => by
    obtain ⟨cs', h1, h2⟩ := hel i (by omega)
    obtain ⟨x, hk, ho⟩ := he enc w n cs' _ h2 (fun q hq => hw q (Or.inr (Or.inl (weightsAll_mem (weightsAll_len D len m hl i hi) q hq))))
    exact ⟨x, ⟨cs', h1, hk⟩, ho⟩
  obtain ⟨xs, hxl, hx⟩ := ex_list _ len hex
  have hb : (len + (m - len)) * P.bytesOf e ≤ reachBytes := by
    have := hw _ (Or.inl rfl)
    simpa using this
  refine ⟨xs, ⟨some a, m, by rw [hxl], by omega, ⟨rfl, ?_, fun _ => ⟨a, rfl, fun j p hp => ?_⟩⟩⟩, ⟨?_, ?_⟩, fun x hxm => ?_⟩
  · rw [hxl]; unfold maxLen at hm; omega
  · obtain ⟨⟨c, h1, h2⟩, _⟩ := hx j p hp
    refine ⟨c, d.K_len h2, h2, fun i u hu => ?_⟩
    obtain ⟨_, hcl, hcc⟩ := World.cells?_some h1
    have hi : i < P.cellsOf e := by
      have := (List.getElem?_eq_some_iff.1 hu).1
      omega
    rw [← hc, ← hu, ← hcc i hi, Go.Deep.add_add]
  · rw [hxl]; unfold maxLen at hm; omega
  · rw [hxl]
    exact Nat.le_trans (Nat.mul_le_mul_right _ (by omega)) hb
  · obtain ⟨j, hj, hj2⟩ := List.getElem_of_mem hxm
    exact (hx j x (by rw [List.getElem?_eq_getElem hj, hj2])).2
/-- fields in line, from the cell 'off' on -/
def OpnF {α : Type} (P : Program) (fs : List Field) (off : Nat) (d : Kd α) (okx : α → Prop) : Prop :=
  ∀ {H : Type} (enc : TypeId × Value → H) (w : World) (fuel : Nat) (cs : List Value) (xs : List (DataW H × List MemPlace)), cs.length = off + d.sz → xs.length = fs.length →
    (∀ (i : Nat) (f : Field), fs[i]? = some f → DataW.trod enc P w 0 (fun _ => true) true fuel f.type ((cs.drop f.offset).take (P.cellsOf f.type)) = xs[i]?) →
    (∀ n ∈ DataW.weightsEach P (fs.map (·.type)) (xs.map (·.1)), n ≤ reachBytes) → ∃ x, d.K w x (cs.drop off) ∧ okx x
theorem opnF_one {α : Type} {P : Program} {f : Field} {off : Nat} {d : Kd α} {okx : α → Prop} (ho : f.offset = off) (hc : P.cellsOf f.type = d.sz) (h : Opn P f.type d okx) : OpnF P [f] off d okx := by
  intro H enc w fuel cs xs hl hxl hx hw
  match xs, hxl with
  | [y], _ =>
    have h0 := hx 0 f rfl
    rw [ho, hc, List.take_of_length_le (by rw [List.length_drop]; omega)] at h0
    exact h enc w fuel _ y h0 (fun n hn => hw n (by simp only [List.map_cons, List.map_nil, DataW.weightsEach, List.append_nil]; exact hn))
theorem opnF_cons {α β : Type} {P : Program} {f : Field} {fs : List Field} {off : Nat} {a : Kd α} {b : Kd β} {oka : α → Prop} {okb : β → Prop} (ho : f.offset = off) (hc : P.cellsOf f.type = a.sz) (h : Opn P f.type a oka) (hr : OpnF P fs (off + a.sz) b okb) :
    OpnF P (f :: fs) off (Kd.pair a b) (fun x => oka x.1 ∧ okb x.2) := by
  intro H enc w fuel cs xs hl hxl hx hw
  match xs, hxl with
  | y :: ys, hxl =>
    have hl2 : cs.length = off + (a.sz + b.sz) := hl
    have h0 := hx 0 f rfl
    rw [ho, hc] at h0
    simp only [List.map_cons, DataW.weightsEach, List.mem_append] at hw
    obtain ⟨x0, k0, o0⟩ := h enc w fuel _ y h0 (fun n hn => hw n (Or.inl hn))
    obtain ⟨x1, k1, o1⟩ := hr enc w fuel cs ys (by omega) (by simpa using hxl) (fun i g hg => hx (i + 1) g (by simpa using hg)) (fun n hn => hw n (Or.inr hn))
    refine ⟨(x0, x1), ⟨_, _, ?_, k0, k1⟩, o0, o1⟩
    rw [← List.drop_drop, List.take_append_drop]
theorem opn_struct {α β : Type} {P : Program} {t : TypeId} {fs : Array Field} {d : Kd α} {okx : α → Prop} {f : β → α} (ht : P.underlying t = some (.struct fs)) (hc : P.cellsOf t = d.sz) (h : OpnF P fs.toList 0 d okx) (hf : ∀ x, ∃ y, f y = x) :
    Opn P t (Kd.iso d f) (fun y => okx (f y)) := by
  intro H enc w fuel cs y hy hw
  obtain ⟨xs, n, rfl, rfl, hl, hlen, hx⟩ := DataW.trod_struct ht hy
  simp only [DataW.weights, ht] at hw
  obtain ⟨x, hk, ho⟩ := h enc w n cs xs (by rw [hl, hc, Nat.zero_add]) (by simpa using hlen) (fun i g hg => hx i g (by simpa using hg)) hw
  obtain ⟨z, rfl⟩ := hf x
  exact ⟨z, hk, ho⟩
/-- a struct argument: its cells, laid open -/
theorem opn_arg {β : Type} {P : Program} {t : TypeId} {fs : Array Field} {k : Kd β} {okx : β → Prop} {H : Type} {enc : TypeId × Value → H} {w : World} {r : Reach} {b0 : Nat} {v : Value} {d : DataW H} {p : List MemPlace}
    (ht : P.underlying t = some (.struct fs)) (ho : Opn P t k okx) (hv : Value.okWide P w r b0 t v) (h : DataW.Trod enc P w 0 (fun _ => true) true t v d p) (hw : ∀ n ∈ d.weights P t, n ≤ reachBytes) :
    ∃ x cs, v = .agg cs ∧ k.K w x cs.toList ∧ okx x := by
  obtain ⟨cs, rfl, hsz⟩ := okWide_struct ht hv
  obtain ⟨fuel, hf⟩ := h
  obtain ⟨x, hk, hx⟩ := ho enc w fuel _ _ hf hw
  exact ⟨x, cs, rfl, hk, hx⟩
theorem opn_slice_arg {α : Type} {P : Program} {t e : TypeId} {k : Kd α} {okx : List α → Prop} {H : Type} {enc : TypeId × Value → H} {w : World} {r : Reach} {b0 : Nat} {v : Value} {d : DataW H} {p : List MemPlace}
    (ht : P.underlying t = some (.slice e)) (ho : Opn P t (Kd.slice e k) okx) (hv : Value.okWide P w r b0 t v) (h : DataW.Trod enc P w 0 (fun _ => true) true t v d p) (hw : ∀ n ∈ d.weights P t, n ≤ reachBytes) :
    ∃ xs A c, v = .slice A xs.length c ∧ xs.length ≤ c ∧ k.C w A xs.length xs ∧ okx xs := by
  obtain ⟨a, len, cap, rfl⟩ := okWide_slice ht hv
  obtain ⟨fuel, hf⟩ := h
  obtain ⟨x, ⟨A, c, he, hl, hc⟩, hx⟩ := ho enc w fuel _ _ hf hw
  have he2 : Value.slice a len cap = .slice A x.length c := by simpa [Value.cells] using he
  exact ⟨x, A, c, he2, hl, hc, hx⟩

def ok58 (y : S58) : Prop := (y.f0.size ≤ 140737488351232) ∧ ((Lit.int .i64 y.f1).wf = true) ∧ (y.f2.size ≤ 140737488351232) ∧ (y.f3.size ≤ 140737488351232) ∧ ((Lit.int .i64 y.f4).wf = true) ∧ ((Lit.int .i64 y.f5).wf = true) ∧ (y.f6.size ≤ 140737488351232) ∧ (y.f7.size ≤ 140737488351232)
theorem open58 : Opn Try.prog 58 k58 ok58 := opn_struct Try.underlying58 (by kernel_rfl) (opnF_cons (by rfl) (by kernel_rfl) (opn_string Try.underlying9) (opnF_cons (by rfl) (by kernel_rfl) (opn_int Try.underlying3) (opnF_cons (by rfl) (by kernel_rfl) (opn_string Try.underlying9) (opnF_cons (by rfl) (by kernel_rfl) (opn_string Try.underlying9) (opnF_cons (by rfl) (by kernel_rfl) (opn_int Try.underlying3) (opnF_cons (by rfl) (by kernel_rfl) (opn_int Try.underlying3) (opnF_cons (by rfl) (by kernel_rfl) (opn_string Try.underlying9) (opnF_one (by rfl) (by kernel_rfl) (opn_string Try.underlying9))))))))) (fun x => ⟨⟨x.1, x.2.1, x.2.2.1, x.2.2.2.1, x.2.2.2.2.1, x.2.2.2.2.2.1, x.2.2.2.2.2.2.1, x.2.2.2.2.2.2.2⟩, rfl⟩)

theorem open22 : Opn Try.prog 22 (Kd.slice 58 k58) (fun xs : List S58 => (xs.length ≤ 9223372036854775807 ∧ xs.length * 104 ≤ 140737488351232) ∧ ∀ z ∈ xs, ok58 z) := opn_slice Try.underlying22 (by kernel_rfl) (by kernel_rfl) (open58)
def ok24 (y : S24) : Prop := (y.f0.size ≤ 140737488351232) ∧ ((Lit.int .i64 y.f1).wf = true) ∧ ((Lit.int .i64 y.f2).wf = true)
theorem open24 : Opn Try.prog 24 k24 ok24 := opn_struct Try.underlying24 (by kernel_rfl) (opnF_cons (by rfl) (by kernel_rfl) (opn_string Try.underlying9) (opnF_cons (by rfl) (by kernel_rfl) (opn_int Try.underlying3) (opnF_one (by rfl) (by kernel_rfl) (opn_int Try.underlying3)))) (fun x => ⟨⟨x.1, x.2.1, x.2.2⟩, rfl⟩)
def ok26 (y : S26) : Prop := ((Lit.int .i64 y.f0).wf = true) ∧ (True)
theorem open26 : Opn Try.prog 26 k26 ok26 := opn_struct Try.underlying26 (by kernel_rfl) (opnF_cons (by rfl) (by kernel_rfl) (opn_int Try.underlying3) (opnF_one (by rfl) (by kernel_rfl) (opn_bool Try.underlying4))) (fun x => ⟨⟨x.1, x.2⟩, rfl⟩)
end Go.Proofs.Ytpihcdbkdldbcaa.QFnExactRecGo
