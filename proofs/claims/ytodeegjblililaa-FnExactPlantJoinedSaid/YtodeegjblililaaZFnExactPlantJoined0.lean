import Derived.Test.YtodeegjblililaaY1
import Derived.Test.YtodeegjblililaaProg
import Derived.KernelRfl
set_option linter.unusedVariables false
namespace Go.Proofs.Ytodeegjblililaa.PJ
open Go Go.RowKit Go.Aw
structure S_laws_PlantMark where
  f0 : ByteArray
  f1 : ByteArray
def z_laws_PlantMark : S_laws_PlantMark := ⟨(⟨#[]⟩ : ByteArray), (⟨#[]⟩ : ByteArray)⟩
def rd_laws_PlantMark (xs : List S_laws_PlantMark) (i : Int) : S_laws_PlantMark := xs.getD i.toNat z_laws_PlantMark
structure S_impl_PlantMark where
  f0 : ByteArray
  f1 : ByteArray
def z_impl_PlantMark : S_impl_PlantMark := ⟨(⟨#[]⟩ : ByteArray), (⟨#[]⟩ : ByteArray)⟩
def rd_impl_PlantMark (xs : List S_impl_PlantMark) (i : Int) : S_impl_PlantMark := xs.getD i.toNat z_impl_PlantMark
structure S_laws_PlantIndex where
  f0 : List ByteArray
  f1 : List S_laws_PlantMark
def z_laws_PlantIndex : S_laws_PlantIndex := ⟨([] : List ByteArray), ([] : List S_laws_PlantMark)⟩
def rd_laws_PlantIndex (xs : List S_laws_PlantIndex) (i : Int) : S_laws_PlantIndex := xs.getD i.toNat z_laws_PlantIndex
def ok_laws_PlantMark (y : S_laws_PlantMark) : Prop := (y.f0.size ≤ 140737488351232) ∧ (y.f1.size ≤ 140737488351232)
def ok_laws_PlantIndex (y : S_laws_PlantIndex) : Prop := ((y.f0.length ≤ 9223372036854775807 ∧ y.f0.length * 16 ≤ 140737488351232) ∧ ∀ z ∈ y.f0, z.size ≤ 140737488351232) ∧ ((y.f1.length ≤ 9223372036854775807 ∧ y.f1.length * 32 ≤ 140737488351232) ∧ ∀ z ∈ y.f1, ok_laws_PlantMark z)
def laws_szStringS.l0 : Nat → List ByteArray → Int → Int → Option (Int)
  | 0, _, _, _ => none
  | k + 1, l0, x1, x5 => (if x5 < (l0.length : Int) then (if 0 ≤ x5 then (if (wrap64 (x1 - ((rdOf ByteArray.empty l0 x5).size : Int))) < 0 then (some (-1)) else (laws_szStringS.l0 k l0 (wrap64 (x1 - ((rdOf ByteArray.empty l0 x5).size : Int))) (wrap64 (x5 + 1)))) else none) else (some x1))
def laws_szStringS.f (k : Nat) (l0 : List ByteArray) (a1 : Int) : Option (Int) := (if (wrap64 (a1 - (l0.length : Int))) < 0 then (some (-1)) else (laws_szStringS.l0 k l0 (wrap64 (a1 - (l0.length : Int))) 0))
def laws_szPlantMark.f (a0_0 : ByteArray) (a0_1 : ByteArray) (a1 : Int) : Option (Int) := (if (wrap64 (a1 - (a0_0.size : Int))) < 0 then (some (-1)) else (if (wrap64 ((wrap64 (a1 - (a0_0.size : Int))) - (a0_1.size : Int))) < 0 then (some (-1)) else (some (wrap64 ((wrap64 (a1 - (a0_0.size : Int))) - (a0_1.size : Int))))))
def laws_szPlantMarkS.l0 : Nat → List S_laws_PlantMark → Int → Int → Option (Int)
  | 0, _, _, _ => none
  | k + 1, l0, x1, x5 => (if x5 < (l0.length : Int) then (if 0 ≤ x5 then ((laws_szPlantMark.f ((rd_laws_PlantMark l0 x5).f0) ((rd_laws_PlantMark l0 x5).f1) x1).bind fun t8 => (if t8 < 0 then (some (-1)) else (laws_szPlantMarkS.l0 k l0 t8 (wrap64 (x5 + 1))))) else none) else (some x1))
def laws_szPlantMarkS.f (k : Nat) (l0 : List S_laws_PlantMark) (a1 : Int) : Option (Int) := (if (wrap64 (a1 - (l0.length : Int))) < 0 then (some (-1)) else (laws_szPlantMarkS.l0 k l0 (wrap64 (a1 - (l0.length : Int))) 0))
def laws_szPlantIndex.f (k : Nat) (a0_0 : List ByteArray) (a0_1 : List S_laws_PlantMark) (a1 : Int) : Option (Int) := ((laws_szStringS.f k a0_0 a1).bind fun t10 => (if t10 < 0 then (some (-1)) else ((laws_szPlantMarkS.f k a0_1 t10).bind fun t12 => (if t12 < 0 then (some (-1)) else (some t12)))))
def laws_toStringS.l0 : Nat → List ByteArray → List ByteArray → Int → Option (List ByteArray)
  | 0, _, _, _ => none
  | k + 1, l0, x3, x4 => (if x4 < (l0.length : Int) then (if 0 ≤ x4 then (if x4 < (x3.length : Int) then (laws_toStringS.l0 k l0 (x3.set (x4).toNat (rdOf ByteArray.empty l0 x4)) (wrap64 (x4 + 1))) else none) else none) else (some x3))
def laws_toStringS.f (k : Nat) (l0 : List ByteArray) : Option (List ByteArray) := (if (l0.length : Int) * 16 ≤ 140737488355328 then (laws_toStringS.l0 k l0 (List.replicate ((l0.length : Int)).toNat (⟨#[]⟩ : ByteArray)) 0) else none)
def laws_toPlantMark.f (a0_0 : ByteArray) (a0_1 : ByteArray) : Option (ByteArray × ByteArray) := (some (a0_0, a0_1))
def laws_toPlantMarkS.l0 : Nat → List S_laws_PlantMark → List S_impl_PlantMark → Int → Option (List S_impl_PlantMark)
  | 0, _, _, _ => none
  | k + 1, l0, x3, x4 => (if x4 < (l0.length : Int) then (if 0 ≤ x4 then ((laws_toPlantMark.f ((rd_laws_PlantMark l0 x4).f0) ((rd_laws_PlantMark l0 x4).f1)).bind fun t29 => (if x4 < (x3.length : Int) then (laws_toPlantMarkS.l0 k l0 (x3.set (x4).toNat (⟨t29.1, t29.2⟩ : S_impl_PlantMark)) (wrap64 (x4 + 1))) else none)) else none) else (some x3))
def laws_toPlantMarkS.f (k : Nat) (l0 : List S_laws_PlantMark) : Option (List S_impl_PlantMark) := (if (l0.length : Int) * 32 ≤ 140737488355328 then (laws_toPlantMarkS.l0 k l0 (List.replicate ((l0.length : Int)).toNat z_impl_PlantMark) 0) else none)
def laws_toPlantIndex.f (k : Nat) (a0_0 : List ByteArray) (a0_1 : List S_laws_PlantMark) : Option ((List ByteArray) × (List S_impl_PlantMark)) := ((laws_toStringS.f k a0_0).bind fun t31 => ((laws_toPlantMarkS.f k a0_1).bind fun t33 => (some (t31, t33))))
def spec_l6Head.l0 : Nat → List S_impl_PlantMark → ByteArray → Int → Option (ByteArray × Bool)
  | 0, _, _, _ => none
  | k + 1, a0_1, a1, x6 => (if x6 < (a0_1.length : Int) then (if 0 ≤ x6 then (if ((rd_impl_PlantMark a0_1 x6).f0).toList = a1.toList then (some ((rd_impl_PlantMark a0_1 x6).f1, true)) else (spec_l6Head.l0 k a0_1 a1 (wrap64 (x6 + 1)))) else none) else (some ((⟨#[]⟩ : ByteArray), false)))
def spec_l6Head.f (k : Nat) (a0_0 : List ByteArray) (a0_1 : List S_impl_PlantMark) (a1 : ByteArray) : Option (ByteArray × Bool) := (spec_l6Head.l0 k a0_1 a1 0)
def spec_PlantJoined.f (k : Nat) (a0_0 : List ByteArray) (a0_1 : List S_impl_PlantMark) (a1 : ByteArray) (a2 : ByteArray) : Option (Bool) := ((spec_l6Head.f k a0_0 a0_1 a1).bind fun t41 => ((spec_l6Head.f k a0_0 a0_1 a2).bind fun t43 => (if t41.2 = true then (if t43.2 = true then (some (decide (t41.1.toList = t43.1.toList))) else (some false)) else (some false))))
def impl_PlantJoined_1.l0 : Nat → ByteArray → List ByteArray → List S_impl_PlantMark → Int → Option (ByteArray × Bool × (List ByteArray) × (List S_impl_PlantMark))
  | 0, _, _, _, _ => none
  | k + 1, a0, a1_0, a1_1, x10 => (if x10 < (a1_1.length : Int) then (if 0 ≤ x10 then (if ((rd_impl_PlantMark a1_1 x10).f0).toList = a0.toList then (some ((rd_impl_PlantMark a1_1 x10).f1, true, a1_0, a1_1)) else (impl_PlantJoined_1.l0 k a0 a1_0 a1_1 (wrap64 (x10 + 1)))) else none) else (some ((⟨#[]⟩ : ByteArray), false, a1_0, a1_1)))
def impl_PlantJoined_1.f (k : Nat) (a0 : ByteArray) (a1_0 : List ByteArray) (a1_1 : List S_impl_PlantMark) : Option (ByteArray × Bool × (List ByteArray) × (List S_impl_PlantMark)) := (impl_PlantJoined_1.l0 k a0 a1_0 a1_1 0)
def impl_PlantJoined.f (k : Nat) (a0_0 : List ByteArray) (a0_1 : List S_impl_PlantMark) (a1 : ByteArray) (a2 : ByteArray) : Option (Bool) := ((impl_PlantJoined_1.f k a1 a0_0 a0_1).bind fun t61 => ((impl_PlantJoined_1.f k a2 t61.2.2.1 t61.2.2.2).bind fun t63 => (if t61.2.1 = true then (if t63.2.1 = true then (some (decide (t61.1.toList = t63.1.toList))) else (some false)) else (some false))))
def laws_eqStringS.l0 : Nat → List ByteArray → List ByteArray → Int → Option (Bool)
  | 0, _, _, _ => none
  | k + 1, l0, l1, x5 => (if x5 < (l0.length : Int) then (if 0 ≤ x5 then (if x5 < (l1.length : Int) then (if (rdOf ByteArray.empty l0 x5).toList = (rdOf ByteArray.empty l1 x5).toList then (laws_eqStringS.l0 k l0 l1 (wrap64 (x5 + 1))) else (some false)) else none) else none) else (some true))
def laws_eqStringS.f (k : Nat) (l0 : List ByteArray) (l1 : List ByteArray) : Option (Bool) := (if (l0.length : Int) = (l1.length : Int) then (laws_eqStringS.l0 k l0 l1 0) else (some false))
def laws_eqPlantMark.f (a0_0 : ByteArray) (a0_1 : ByteArray) (a1_0 : ByteArray) (a1_1 : ByteArray) : Option (Bool) := (if a0_0.toList = a1_0.toList then (if a0_1.toList = a1_1.toList then (some true) else (some false)) else (some false))
def laws_eqPlantMarkS.l0 : Nat → List S_impl_PlantMark → List S_impl_PlantMark → Int → Option (Bool)
  | 0, _, _, _ => none
  | k + 1, l0, l1, x5 => (if x5 < (l0.length : Int) then (if 0 ≤ x5 then (if x5 < (l1.length : Int) then ((laws_eqPlantMark.f ((rd_impl_PlantMark l0 x5).f0) ((rd_impl_PlantMark l0 x5).f1) ((rd_impl_PlantMark l1 x5).f0) ((rd_impl_PlantMark l1 x5).f1)).bind fun t117 => (if t117 = true then (laws_eqPlantMarkS.l0 k l0 l1 (wrap64 (x5 + 1))) else (some false))) else none) else none) else (some true))
def laws_eqPlantMarkS.f (k : Nat) (l0 : List S_impl_PlantMark) (l1 : List S_impl_PlantMark) : Option (Bool) := (if (l0.length : Int) = (l1.length : Int) then (laws_eqPlantMarkS.l0 k l0 l1 0) else (some false))
def laws_eqPlantIndex.f (k : Nat) (a0_0 : List ByteArray) (a0_1 : List S_impl_PlantMark) (a1_0 : List ByteArray) (a1_1 : List S_impl_PlantMark) : Option (Bool) := ((laws_eqStringS.f k a0_0 a1_0).bind fun t120 => (if t120 = true then ((laws_eqPlantMarkS.f k a0_1 a1_1).bind fun t123 => (if t123 = true then (some true) else (some false))) else (some false)))
def laws_FnExactPlantJoined.f (k : Nat) (a0_0 : List ByteArray) (a0_1 : List S_laws_PlantMark) (a1 : ByteArray) (a2 : ByteArray) : Option (Bool) := (if (a1.size : Int) > 1048576 then (some true) else (if (a2.size : Int) > 1048576 then (some true) else ((laws_szPlantIndex.f k a0_0 a0_1 1048576).bind fun t125 => (if t125 < 0 then (some true) else ((laws_toPlantIndex.f k a0_0 a0_1).bind fun t128 => ((spec_PlantJoined.f k t128.1 t128.2 a1 a2).bind fun t129 => ((laws_toPlantIndex.f k a0_0 a0_1).bind fun t131 => ((impl_PlantJoined.f k t131.1 t131.2 a1 a2).bind fun t133 => (if (t133 != t129) = true then (some false) else ((laws_toPlantIndex.f k a0_0 a0_1).bind fun t138 => ((laws_eqPlantIndex.f k t131.1 t131.2 t138.1 t138.2).bind fun t139 => (if t139 = true then (some true) else (some false)))))))))))))
end Go.Proofs.Ytodeegjblililaa.PJ
namespace Go.Proofs.Ytodeegjblililaa.Pure
open Go Go.RowKit Go.Aw Go.Proofs.Ytodeegjblililaa.PJ
set_option linter.unusedVariables false
set_option linter.unusedSimpArgs false
/-! ### general words -/
theorem ev_pos {α : Type} {c : Prop} {d : Decidable c} {g f : Nat → Option α} {r : α} (h : c) (k : Ev g r) : Ev (fun n => @ite _ c d (g n) (f n)) r := Ev.congr (fun _ => if_pos h) k
theorem ev_neg {α : Type} {c : Prop} {d : Decidable c} {g f : Nat → Option α} {r : α} (h : ¬ c) (k : Ev f r) : Ev (fun n => @ite _ c d (g n) (f n)) r := Ev.congr (fun _ => if_neg h) k
theorem ev_ret {α : Type} {a r : α} (h : a = r) : Ev (fun _ => some a) r := h ▸ Ev.now a
theorem ev_let {α β : Type} {g : Option α} {a : α} {r : β} {f : Nat → α → Option β} (h : g = some a) (k : Ev (fun n => f n a) r) : Ev (fun n => g.bind (f n)) r := by
  subst h; exact k
theorem ev_eq {α : Type} {g : Nat → Option α} {a r : α} (k : Ev g a) (h : a = r) : Ev g r := h ▸ k
theorem ev_split {α : Type} {c : Prop} {d : Decidable c} {g f : Nat → Option α} {r : α} (h : c → Ev g r) (k : ¬ c → Ev f r) : Ev (fun n => @ite _ c d (g n) (f n)) r := by
  by_cases q : c
  · exact ev_pos q (h q)
  · exact ev_neg q (k q)
/-- a value that is called on -/
theorem ev_of {α β : Type} {g : Nat → Option α} {a : α} {r : β} {f : Nat → α → Option β} (h : Ev g a) (k : Ev (fun n => f n a) r) : Ev (fun n => (g n).bind (f n)) r := Ev.bind h k
theorem ex_ret {α : Type} {a : α} : ∃ q, Ev (fun _ => some a) q := ⟨a, Ev.now a⟩
theorem ex_ite {α : Type} {c : Prop} {d : Decidable c} {g f : Nat → Option α} (h : ∃ q, Ev g q) (k : ∃ q, Ev f q) : ∃ q, Ev (fun n => @ite _ c d (g n) (f n)) q := by
  by_cases q : c
  · exact h.imp fun _ e => ev_pos q e
  · exact k.imp fun _ e => ev_neg q e
theorem ex_pos {α : Type} {c : Prop} {d : Decidable c} {g f : Nat → Option α} (h : c) (k : ∃ q, Ev g q) : ∃ q, Ev (fun n => @ite _ c d (g n) (f n)) q := k.imp fun _ e => ev_pos h e
theorem ex_bind {α β : Type} {g : Nat → Option α} {f : Nat → α → Option β} (h : ∃ a, Ev g a) (k : ∀ a, ∃ q, Ev (fun n => f n a) q) : ∃ q, Ev (fun n => (g n).bind (f n)) q := by
  obtain ⟨a, h⟩ := h
  exact (k a).imp fun _ e => Ev.bind h e
theorem ex_step {α : Type} {g f : Nat → Option α} (h : ∀ k, g (k + 1) = f k) (k : ∃ q, Ev f q) : ∃ q, Ev g q := k.imp fun _ e => Ev.step h e
theorem w64 {x : Int} (h0 : -9223372036854775808 ≤ x) (h1 : x ≤ 9223372036854775807) : wrap64 x = x := by unfold wrap64; omega
theorem wsucc {i n : Nat} (h : i < n) (hn : n ≤ 9223372036854775807) : wrap64 ((i : Int) + 1) = ((i + 1 : Nat) : Int) := by unfold wrap64; omega
theorem wplus {a : Int} (h0 : 0 ≤ a) (h1 : a ≤ 4611686018427387904) : wrap64 (a + 1) = a + 1 := by unfold wrap64; omega
theorem pre64 {i : Nat} (h : ¬ i = 0) (hi : i ≤ 9223372036854775807) : wrap64 ((i : Int) - 1) = ((i - 1 : Nat) : Int) := by unfold wrap64; omega
theorem getD_eq {α : Type} (d : α) (xs : List α) (i : Nat) (h : i < xs.length) : xs.getD i d = xs[i] := by
  rw [List.getD_eq_getElem?_getD, List.getElem?_eq_getElem h]; rfl
theorem mem_getD {α : Type} (d : α) (xs : List α) (i : Nat) (h : i < xs.length) : xs.getD i d ∈ xs := by
  rw [getD_eq d xs i h]; exact List.getElem_mem h
theorem getD_set {α : Type} (d : α) (xs : List α) (i j : Nat) (v : α) (h : i < xs.length) : (xs.set i v).getD j d = if j = i then v else xs.getD j d := by
  rw [List.getD_eq_getElem?_getD, List.getD_eq_getElem?_getD, List.getElem?_set]
  by_cases e : i = j
  · subst e; simp [h]
  · rw [if_neg e, if_neg (fun q => e q.symm)]
theorem fill_end {α : Type} (d : α) (z y : List α) (hl : y.length = z.length) (h : ∀ j, j < z.length → y.getD j d = z.getD j d) : y = z := by
  apply List.ext_getElem hl
  intro j h1 h2
  have e := h j h2
  rwa [getD_eq d y j h1, getD_eq d z j h2] at e
theorem fill_step {α : Type} (d : α) (z y : List α) (i : Nat) (hl : y.length = z.length) (hi : i < z.length) (h : ∀ j, j < i → y.getD j d = z.getD j d) (v : α) (hv : v = z.getD i d) :
    (y.set i v).length = z.length ∧ ∀ j, j < i + 1 → (y.set i v).getD j d = z.getD j d := by
  refine ⟨by simpa using hl, fun j hj => ?_⟩
  rw [getD_set d y i j v (by omega)]
  by_cases e : j = i
  · rw [if_pos e, e, hv]
  · rw [if_neg e]; exact h j (by omega)
theorem rdOf_nat {α : Type} (d : α) (xs : List α) (i : Nat) : rdOf d xs (i : Int) = xs.getD i d := by simp [rdOf]
theorem rd_nat (xs : List Int) (i : Nat) : rd xs (i : Int) = xs.getD i 0 := by simp [rd]
theorem map_getD {α β : Type} (e : β) (d : α) (f : α → β) (l : List α) (i : Nat) (h : i < l.length) : (l.map f).getD i e = f (l.getD i d) := by
  rw [getD_eq e _ i (by simpa using h), getD_eq d l i h, List.getElem_map]
/-- a list told from its end: what is left from place i on -/
theorem loopL {α : Type} (d : α) (l : List α) {P : Nat → List α → Prop} (h0 : P l.length []) (hs : ∀ i x r, i < l.length → l.getD i d = x → x ∈ l → l.drop (i + 1) = r → P (i + 1) r → P i (x :: r)) : P 0 l := by
  have key : ∀ (n i : Nat), i + n = l.length → P i (l.drop i) := fun n => by
    induction n with
    | zero =>
      intro i hi
      have e : i = l.length := by omega
      subst e; rw [List.drop_length]; exact h0
    | succ n ih =>
      intro i hi
      have hlt : i < l.length := by omega
      have e : l.drop i = l.getD i d :: l.drop (i + 1) := by rw [List.drop_eq_getElem_cons hlt, getD_eq d l i hlt]
      rw [e]
      exact hs i _ _ hlt rfl (mem_getD d l i hlt) rfl (ih (i + 1) (by omega))
  simpa using key l.length 0 (by omega)
/-- the element ahead of place i -/
def ahead {α : Type} (d : α) (l : List α) (i : Nat) : Option α := if i = 0 then none else some (l.getD (i - 1) d)
theorem ahead_zero {α : Type} (d : α) (l : List α) : ahead d l 0 = none := rfl
theorem ahead_succ {α : Type} (d : α) (l : List α) (i : Nat) : ahead d l (i + 1) = some (l.getD i d) := by simp [ahead]
theorem ahead_pos {α : Type} (d : α) (l : List α) (i : Nat) (h : ¬ i = 0) : ahead d l i = some (l.getD (i - 1) d) := if_neg h
/-! ### the order of bytes -/
theorem bl_irr : ∀ x : List UInt8, Op.bytesLess x x = false
  | [] => rfl
  | a :: x => by simp [Op.bytesLess, bl_irr x]
theorem bl_asym : ∀ x y : List UInt8, Op.bytesLess x y = true → Op.bytesLess y x = false
  | [], [], _ => rfl
  | [], _ :: _, _ => rfl
  | _ :: _, [], h => by simp [Op.bytesLess] at h
  | a :: x, b :: y, h => by
    simp only [Op.bytesLess, Bool.or_eq_true, Bool.and_eq_true, decide_eq_true_eq, beq_iff_eq] at h
    simp only [Op.bytesLess, Bool.or_eq_false_iff, Bool.and_eq_false_iff, decide_eq_false_iff_not, beq_eq_false_iff_ne]
    rcases h with h | ⟨rfl, h⟩
    · exact ⟨UInt8.lt_asymm h, .inl (fun e => by subst e; exact UInt8.lt_irrefl _ h)⟩
    · exact ⟨UInt8.lt_irrefl _, .inr (bl_asym x y h)⟩
theorem bl_tri : ∀ x y : List UInt8, Op.bytesLess x y = true ∨ x = y ∨ Op.bytesLess y x = true
  | [], [] => .inr (.inl rfl)
  | [], _ :: _ => .inl rfl
  | _ :: _, [] => .inr (.inr rfl)
  | a :: x, b :: y => by
    simp only [Op.bytesLess, Bool.or_eq_true, Bool.and_eq_true, decide_eq_true_eq, beq_iff_eq, List.cons.injEq]
    rcases UInt8.lt_or_lt_of_ne (a := a) (b := b) |> fun f => (Classical.em (a = b)).imp id f with rfl | h | h
    · rcases bl_tri x y with q | rfl | q
      · exact .inl (.inr ⟨rfl, q⟩)
      · exact .inr (.inl ⟨rfl, rfl⟩)
      · exact .inr (.inr (.inr ⟨rfl, q⟩))
    · exact .inl (.inl h)
    · exact .inr (.inr (.inl h))
theorem bl_trans : ∀ x y z : List UInt8, Op.bytesLess x y = true → Op.bytesLess y z = true → Op.bytesLess x z = true
  | [], _, _ :: _, _, _ => rfl
  | [], [], [], h, _ => h
  | [], _ :: _, [], _, h => by simp [Op.bytesLess] at h
  | _ :: _, [], _, h, _ => by simp [Op.bytesLess] at h
  | _ :: _, _ :: _, [], _, h => by simp [Op.bytesLess] at h
  | a :: x, b :: y, c :: z, h, k => by
    simp only [Op.bytesLess, Bool.or_eq_true, Bool.and_eq_true, decide_eq_true_eq, beq_iff_eq] at h k ⊢
    rcases h with h | ⟨rfl, h⟩
    · rcases k with k | ⟨rfl, k⟩
      · exact .inl (UInt8.lt_trans h k)
      · exact .inl h
    · rcases k with k | ⟨rfl, k⟩
      · exact .inl k
      · exact .inr ⟨rfl, bl_trans x y z h k⟩
theorem ba_ext {a b : ByteArray} (h : a.toList = b.toList) : a = b := by
  apply ByteArray.ext
  apply Array.ext'
  simpa [ByteArray.toList_eq] using h
theorem ba_iff {a b : ByteArray} : a.toList = b.toList ↔ a = b := ⟨ba_ext, fun h => h ▸ rfl⟩
/-- a text ahead of another -/
def lt (a b : ByteArray) : Bool := Op.bytesLess a.toList b.toList
theorem lt_irr (a : ByteArray) : lt a a = false := bl_irr _
theorem lt_asym {a b : ByteArray} (h : lt a b = true) : lt b a = false := bl_asym _ _ h
theorem lt_trans {a b c : ByteArray} (h : lt a b = true) (k : lt b c = true) : lt a c = true := bl_trans _ _ _ h k
theorem lt_tri (a b : ByteArray) : lt a b = true ∨ a = b ∨ lt b a = true := (bl_tri a.toList b.toList).imp id (·.imp ba_ext id)
theorem lt_ne {a b : ByteArray} (h : lt a b = true) : a ≠ b := fun e => by rw [e, lt_irr] at h; cases h
/-- pair by pair: the first, then the second -/
def befB (a0 a1 b0 b1 : ByteArray) : Bool := lt a0 b0 || (decide (a0 = b0) && lt a1 b1)
/-! ### the laws' own words -/
theorem szStringS_ev (l : List ByteArray) (hl : l.length ≤ 140737488351232) (h : ∀ z ∈ l, z.size ≤ 140737488351232) (a : Int) : ∃ q, Ev (fun k => laws_szStringS.f k l a) q := by
  have key : ∀ b, ∃ q, Ev (fun k => laws_szStringS.l0 k l b 0) q := loopL ByteArray.empty l (P := fun i _ => ∀ b, ∃ q, Ev (fun k => laws_szStringS.l0 k l b (i : Int)) q)
    (fun b => ex_step (fun k => by rw [laws_szStringS.l0]) ⟨_, ev_neg (by omega) (ev_ret rfl)⟩)
    (fun i x r hi hx hm _ ih b => ex_step (fun k => by rw [laws_szStringS.l0]) (ex_pos (by omega) (ex_pos (by omega) (by
      rw [wsucc hi (by omega)]
      exact ex_ite ex_ret (ih _)))))
  unfold laws_szStringS.f
  exact ex_ite ex_ret (key _)
theorem szPlantMark_ev (x : S_laws_PlantMark) (h : ok_laws_PlantMark x) (a : Int) : ∃ q, Ev (fun k => laws_szPlantMark.f x.f0 x.f1 a) q := by
  have h0 := h.1
  have h1 := h.2
  unfold laws_szPlantMark.f
  repeat' (first | exact ex_ret | refine ex_ite ?_ ?_ | refine ex_bind ?_ (fun t => ?_))
theorem szPlantMarkS_ev (l : List S_laws_PlantMark) (hl : l.length ≤ 140737488351232) (h : ∀ z ∈ l, ok_laws_PlantMark z) (a : Int) : ∃ q, Ev (fun k => laws_szPlantMarkS.f k l a) q := by
  have key : ∀ b, ∃ q, Ev (fun k => laws_szPlantMarkS.l0 k l b 0) q := loopL z_laws_PlantMark l (P := fun i _ => ∀ b, ∃ q, Ev (fun k => laws_szPlantMarkS.l0 k l b (i : Int)) q)
    (fun b => ex_step (fun k => by rw [laws_szPlantMarkS.l0]) ⟨_, ev_neg (by omega) (ev_ret rfl)⟩)
    (fun i x r hi hx hm _ ih b => ex_step (fun k => by rw [laws_szPlantMarkS.l0]) (ex_pos (by omega) (ex_pos (by omega) (by
      rw [wsucc hi (by omega)]
      refine ex_bind (by rw [show rd_laws_PlantMark l (i : Int) = x from by unfold rd_laws_PlantMark; simpa using hx]; exact szPlantMark_ev x (h x hm) b) (fun t => ex_ite ex_ret (ih _))))))
  unfold laws_szPlantMarkS.f
  exact ex_ite ex_ret (key _)
theorem szPlantIndex_ev (x : S_laws_PlantIndex) (h : ok_laws_PlantIndex x) (a : Int) : ∃ q, Ev (fun k => laws_szPlantIndex.f k x.f0 x.f1 a) q := by
  have h0 := h.1
  have h1 := h.2
  unfold laws_szPlantIndex.f
  repeat' (first | exact ex_ret | with_reducible exact szStringS_ev _ (by have := h0.1; omega) (h0.2) _ | with_reducible exact szPlantMarkS_ev _ (by have := h1.1; omega) (h1.2) _ | refine ex_ite ?_ ?_ | refine ex_bind ?_ (fun t => ?_))
theorem toStringS_ev (l : List ByteArray) (hl : l.length ≤ 8796093022208) : Ev (fun k => laws_toStringS.f k l) l := by
  unfold laws_toStringS.f
  refine ev_pos (by omega) ?_
  refine loopL ByteArray.empty l (P := fun i _ => ∀ y : List ByteArray, y.length = l.length → (∀ j, j < i → y.getD j ByteArray.empty = l.getD j ByteArray.empty) → Ev (fun k => laws_toStringS.l0 k l y (i : Int)) l)
    (fun y hyl hy => by
      obtain rfl := fill_end ByteArray.empty l y hyl (fun j hj => hy j hj)
      refine Ev.step (fun k => by rw [laws_toStringS.l0]) (ev_neg (by omega) (ev_ret rfl)))
    (fun i x r hi hx hm _ ih y hyl hy => by
      refine Ev.step (fun k => by rw [laws_toStringS.l0]) (ev_pos (by omega) (ev_pos (by omega) (ev_pos (by omega) ?_)))
      rw [wsucc hi (by omega), Int.toNat_natCast, rdOf_nat]
      obtain ⟨h1, h2⟩ := fill_step ByteArray.empty l y i hyl hi hy (l.getD i ByteArray.empty) rfl
      exact ih _ h1 h2) _ (by simp) (fun j hj => absurd hj (Nat.not_lt_zero _))
def cv_laws_PlantMark (x : S_laws_PlantMark) : S_impl_PlantMark := ⟨x.f0, x.f1⟩
theorem toPlantMark_ev (x : S_laws_PlantMark) (h : ok_laws_PlantMark x) : Ev (fun k => laws_toPlantMark.f x.f0 x.f1) ((cv_laws_PlantMark x).f0, (cv_laws_PlantMark x).f1) := by
  have h0 := h.1
  have h1 := h.2
  unfold laws_toPlantMark.f
  repeat' (first | exact ev_ret rfl)
theorem toPlantMarkS_ev (l : List S_laws_PlantMark) (hl : l.length ≤ 4398046511104) (h : ∀ z ∈ l, ok_laws_PlantMark z) : Ev (fun k => laws_toPlantMarkS.f k l) (l.map cv_laws_PlantMark) := by
  unfold laws_toPlantMarkS.f
  refine ev_pos (by omega) ?_
  refine loopL z_laws_PlantMark l (P := fun i _ => ∀ y : List S_impl_PlantMark, y.length = l.length → (∀ j, j < i → y.getD j z_impl_PlantMark = (l.map cv_laws_PlantMark).getD j z_impl_PlantMark) → Ev (fun k => laws_toPlantMarkS.l0 k l y (i : Int)) (l.map cv_laws_PlantMark))
    (fun y hyl hy => by
      obtain rfl := fill_end z_impl_PlantMark (l.map cv_laws_PlantMark) y (by simpa using hyl) (fun j hj => hy j (by simpa using hj))
      refine Ev.step (fun k => by rw [laws_toPlantMarkS.l0]) (ev_neg (by omega) (ev_ret rfl)))
    (fun i x r hi hx hm _ ih y hyl hy => by
      refine Ev.step (fun k => by rw [laws_toPlantMarkS.l0]) (ev_pos (by omega) (ev_pos (by omega) ?_))
      rw [wsucc hi (by omega), Int.toNat_natCast, show rd_laws_PlantMark l (i : Int) = x from by unfold rd_laws_PlantMark; simpa using hx]
      refine Ev.bind (toPlantMark_ev x (h x hm)) (ev_pos (by omega) ?_)
      obtain ⟨h1, h2⟩ := fill_step z_impl_PlantMark (l.map cv_laws_PlantMark) y i (by simpa using hyl) (by simpa using hi) hy (cv_laws_PlantMark x) (by rw [map_getD z_impl_PlantMark z_laws_PlantMark _ l i hi, hx])
      exact ih _ (by rw [h1]; simp) h2) _ (by simp) (fun j hj => absurd hj (Nat.not_lt_zero _))
theorem toPlantIndex_ev (x : S_laws_PlantIndex) (h : ok_laws_PlantIndex x) : Ev (fun k => laws_toPlantIndex.f k x.f0 x.f1) (x.f0, x.f1.map cv_laws_PlantMark) := by
  have h0 := h.1
  have h1 := h.2
  unfold laws_toPlantIndex.f
  repeat' (first | with_reducible refine Ev.bind (toStringS_ev _ (by have := h0.1; omega)) ?_ | with_reducible refine Ev.bind (toPlantMarkS_ev _ (by have := h1.1; omega) h1.2) ?_ | exact ev_ret rfl)
theorem eqStringS_ev (l : List ByteArray) (hl : l.length ≤ 140737488351232) : Ev (fun k => laws_eqStringS.f k l l) true := by
  unfold laws_eqStringS.f
  refine ev_pos rfl ?_
  refine loopL ByteArray.empty l (P := fun i _ => Ev (fun k => laws_eqStringS.l0 k l l (i : Int)) true)
    (Ev.step (fun k => by rw [laws_eqStringS.l0]) (ev_neg (by omega) (ev_ret rfl)))
    (fun i x r hi hx hm _ ih => Ev.step (fun k => by rw [laws_eqStringS.l0]) (ev_pos (by omega) (ev_pos (by omega) (ev_pos (by omega) (by
      rw [wsucc hi (by omega)]
      exact ev_pos rfl ih)))))
def ok_impl_PlantMark (y : S_impl_PlantMark) : Prop := (y.f0.size ≤ 140737488351232) ∧ (y.f1.size ≤ 140737488351232)
theorem eqPlantMark_ev (x : S_impl_PlantMark) (h : ok_impl_PlantMark x) : Ev (fun k => laws_eqPlantMark.f x.f0 x.f1 x.f0 x.f1) true := by
  have h0 := h.1
  have h1 := h.2
  unfold laws_eqPlantMark.f
  repeat' (first | exact ev_ret rfl | refine ev_pos rfl ?_ | refine ev_neg (by simp) ?_)
theorem eqPlantMarkS_ev (l : List S_impl_PlantMark) (hl : l.length ≤ 140737488351232) (h : ∀ z ∈ l, ok_impl_PlantMark z) : Ev (fun k => laws_eqPlantMarkS.f k l l) true := by
  unfold laws_eqPlantMarkS.f
  refine ev_pos rfl ?_
  refine loopL z_impl_PlantMark l (P := fun i _ => Ev (fun k => laws_eqPlantMarkS.l0 k l l (i : Int)) true)
    (Ev.step (fun k => by rw [laws_eqPlantMarkS.l0]) (ev_neg (by omega) (ev_ret rfl)))
    (fun i x r hi hx hm _ ih => Ev.step (fun k => by rw [laws_eqPlantMarkS.l0]) (ev_pos (by omega) (ev_pos (by omega) (ev_pos (by omega) (by
      rw [wsucc hi (by omega)]
      rw [show rd_impl_PlantMark l (i : Int) = x from by unfold rd_impl_PlantMark; simpa using hx]
      exact Ev.bind (eqPlantMark_ev x (h x hm)) (ev_pos rfl ih))))))
theorem eqPlantIndex_ev (x0 : List ByteArray) (x1 : List S_impl_PlantMark) (h0 : (x0.length ≤ 9223372036854775807 ∧ x0.length * 16 ≤ 140737488351232) ∧ ∀ z ∈ x0, z.size ≤ 140737488351232) (h1 : (x1.length ≤ 9223372036854775807 ∧ x1.length * 32 ≤ 140737488351232) ∧ ∀ z ∈ x1, ok_impl_PlantMark z) : Ev (fun k => laws_eqPlantIndex.f k x0 x1 x0 x1) true := by
  unfold laws_eqPlantIndex.f
  repeat' (first | with_reducible refine Ev.bind (eqStringS_ev _ (by have := h0.1; omega)) ?_ | with_reducible refine Ev.bind (eqPlantMarkS_ev _ (by have := h1.1; omega) h1.2) ?_ | exact ev_ret rfl | refine ev_pos rfl ?_ | refine ev_neg (by simp) ?_)
/-! ### names -/
theorem ev_b {α : Type} {b : Bool} {g f : Nat → Option α} {r : α} (h : b = true → Ev g r) (k : b = false → Ev f r) : Ev (fun n => if b = true then g n else f n) r := by
  cases b
  · exact ev_neg (by simp) (k rfl)
  · exact ev_pos rfl (h rfl)
/-- a yes or no that is asked -/
theorem ev_ask {α : Type} {o g f : Nat → Option α} {q : Nat → Option Bool} {b : Bool} {r : α} (hq : Ev q b) (h : b = true → Ev g r) (k : b = false → Ev f r) : Ev (fun n => (q n).bind fun t => if t = true then g n else f n) r := Ev.bind (f := fun n t => if t = true then g n else f n) hq (ev_b h k)
def okc (c : Int) : Bool := (decide (97 ≤ c) && decide (c ≤ 122)) || ((decide (48 ≤ c) && decide (c ≤ 57)) || decide (c = 45))
theorem okc_t {c : Int} (h : 97 ≤ c ∧ c ≤ 122 ∨ 48 ≤ c ∧ c ≤ 57 ∨ c = 45) : okc c = true := by simp [okc]; omega
theorem okc_f {c : Int} (h : ¬ (97 ≤ c ∧ c ≤ 122 ∨ 48 ≤ c ∧ c ≤ 57 ∨ c = 45)) : okc c = false := by
  rw [← Bool.not_eq_true]; intro q; apply h; simp [okc] at q; omega
def allFrom (s : ByteArray) (i : Nat) : Bool := decide (∀ j, j < s.size → i ≤ j → okc (bt s (j : Int)) = true)
theorem allFrom_step (s : ByteArray) (i : Nat) (h : i < s.size) : allFrom s i = (okc (bt s (i : Int)) && allFrom s (i + 1)) := by
  unfold allFrom
  rw [Bool.eq_iff_iff, Bool.and_eq_true, decide_eq_true_iff, decide_eq_true_iff]
  refine ⟨fun q => ⟨q i h (Nat.le_refl _), fun j hj hi => q j hj (by omega)⟩, fun q j hj hi => ?_⟩
  by_cases e : j = i
  · rw [e]; exact q.1
  · exact q.2 j hj (by omega)
theorem allFrom_end (s : ByteArray) : allFrom s s.size = true := by
  unfold allFrom
  rw [decide_eq_true_iff]
  intro j hj hi; omega
def nameB (s : ByteArray) : Bool := decide (1 ≤ s.size ∧ s.size ≤ 8) && allFrom s 0
/-- a walk over the places of a text -/
theorem loopN (n : Nat) {P : Nat → Prop} (h0 : P n) (hs : ∀ i, i < n → P (i + 1) → P i) : P 0 := by
  have key : ∀ (m i : Nat), i + m = n → P i := fun m => by
    induction m with
    | zero => intro i hi; have e : i = n := by omega
              subst e; exact h0
    | succ m ih => intro i hi; exact hs i (by omega) (ih (i + 1) (by omega))
  exact key n 0 (by omega)
/-- each before the next -/
def chainB {α : Type} (p : α → α → Bool) : Option α → List α → Bool
  | _, [] => true
  | none, x :: r => chainB p (some x) r
  | some y, x :: r => p y x && chainB p (some x) r
def namesB (l : List ByteArray) : Bool := l.all nameB && chainB lt none l
def hasB (l : List ByteArray) (s : ByteArray) : Bool := l.any fun x => decide (x = s)
theorem hasB_iff {l : List ByteArray} {s : ByteArray} : hasB l s = true ↔ s ∈ l := by
  unfold hasB
  rw [List.any_eq_true]
  exact ⟨fun ⟨x, h, e⟩ => by simp at e; exact e ▸ h, fun h => ⟨s, h, by simp⟩⟩
def inB (a b c : Int) : Bool := decide (b ≤ a ∧ a ≤ c)
theorem inB_t {a b c : Int} (h : b ≤ a ∧ a ≤ c) : inB a b c = true := decide_eq_true h
theorem inB_f {a b c : Int} (h : ¬ (b ≤ a ∧ a ≤ c)) : inB a b c = false := decide_eq_false h
/-! ### joined -/
theorem rdM (l : List S_impl_PlantMark) (i : Nat) : rd_impl_PlantMark l (i : Int) = l.getD i z_impl_PlantMark := by unfold rd_impl_PlantMark; rw [Int.toNat_natCast]
def headB (a : ByteArray) : List S_impl_PlantMark → ByteArray × Bool
  | [] => ((⟨#[]⟩ : ByteArray), false)
  | x :: r => if x.f0 = a then (x.f1, true) else headB a r
theorem specHead_ev (o : List ByteArray) (l : List S_impl_PlantMark) (a : ByteArray) (hl : l.length ≤ 140737488351232) : Ev (fun k => spec_l6Head.f k o l a) (headB a l) := by
  unfold spec_l6Head.f
  refine loopL z_impl_PlantMark l (P := fun i r => Ev (fun k => spec_l6Head.l0 k l a (i : Int)) (headB a r))
    (by refine Ev.step (fun k => by rw [spec_l6Head.l0]) ?_; exact ev_neg (by omega) (ev_ret rfl)) (fun i x r hi hx hm _ ih => ?_)
  refine Ev.step (fun k => by rw [spec_l6Head.l0]) (ev_pos (by omega) (ev_pos (by omega) ?_))
  rw [rdM, hx, wsucc hi (by omega), headB]
  refine ev_split (fun c => ev_ret (by rw [if_pos (ba_iff.1 c)])) (fun c => ?_)
  rw [if_neg (fun e => c (ba_iff.2 e))]; exact ih
theorem implHead_ev (o : List ByteArray) (l : List S_impl_PlantMark) (a : ByteArray) (hl : l.length ≤ 140737488351232) : Ev (fun k => impl_PlantJoined_1.f k a o l) ((headB a l).1, (headB a l).2, o, l) := by
  unfold impl_PlantJoined_1.f
  refine loopL z_impl_PlantMark l (P := fun i r => Ev (fun k => impl_PlantJoined_1.l0 k a o l (i : Int)) ((headB a r).1, (headB a r).2, o, l))
    (by refine Ev.step (fun k => by rw [impl_PlantJoined_1.l0]) ?_; exact ev_neg (by omega) (ev_ret rfl)) (fun i x r hi hx hm _ ih => ?_)
  refine Ev.step (fun k => by rw [impl_PlantJoined_1.l0]) (ev_pos (by omega) (ev_pos (by omega) ?_))
  rw [rdM, hx, wsucc hi (by omega), headB]
  refine ev_split (fun c => ev_ret (by rw [if_pos (ba_iff.1 c)])) (fun c => ?_)
  rw [if_neg (fun e => c (ba_iff.2 e))]; exact ih
theorem FnExactPlantJoined : ∀ (x0 : S_laws_PlantIndex) (x1 : ByteArray) (x2 : ByteArray), (ok_laws_PlantIndex x0) → (x1.size ≤ 140737488351232) → (x2.size ≤ 140737488351232) → ∃ k, laws_FnExactPlantJoined.f k x0.f0 x0.f1 x1 x2 = some true := by
  intro x a b hx ha hb
  obtain ⟨q, hq⟩ := szPlantIndex_ev x hx 1048576
  have ht := toPlantIndex_ev x hx
  obtain ⟨⟨⟨x0, x1⟩, xs⟩, ⟨⟨y0, y1⟩, yk⟩⟩ := hx
  have hk : ∀ z ∈ x.f1.map cv_laws_PlantMark, ok_impl_PlantMark z := fun z hz => by obtain ⟨w, hw, rfl⟩ := List.mem_map.1 hz; exact yk w hw
  have hll : (x.f1.map cv_laws_PlantMark).length = x.f1.length := List.length_map ..
  have hE := eqPlantIndex_ev x.f0 (x.f1.map cv_laws_PlantMark) ⟨⟨x0, x1⟩, xs⟩ ⟨⟨by omega, by omega⟩, hk⟩
  generalize x.f1.map cv_laws_PlantMark = l at *
  have s1 := specHead_ev x.f0 l a (by omega)
  have s2 := specHead_ev x.f0 l b (by omega)
  have i1 := implHead_ev x.f0 l a (by omega)
  have i2 := implHead_ev x.f0 l b (by omega)
  generalize headB a l = u at *
  generalize headB b l = v at *
  have eS : Ev (fun k => spec_PlantJoined.f k x.f0 l a b) (u.2 && (v.2 && decide (u.1.toList = v.1.toList))) := by
    unfold spec_PlantJoined.f
    refine Ev.bind s1 (Ev.bind s2 (ev_b (fun c => ?_) (fun c => ev_ret (by rw [c]; rfl))))
    exact ev_b (fun c2 => ev_ret (by rw [c, c2]; rfl)) (fun c2 => ev_ret (by rw [c, c2]; rfl))
  have eI : Ev (fun k => impl_PlantJoined.f k x.f0 l a b) (u.2 && (v.2 && decide (u.1.toList = v.1.toList))) := by
    unfold impl_PlantJoined.f
    refine Ev.bind i1 (Ev.bind i2 (ev_b (fun c => ?_) (fun c => ev_ret (by dsimp only at c; rw [c]; rfl))))
    dsimp only at c
    refine ev_b (fun c2 => ev_ret ?_) (fun c2 => ev_ret ?_) <;> (dsimp only at c2; rw [c, c2]; rfl)
  generalize (u.2 && (v.2 && decide (u.1.toList = v.1.toList))) = R at *
  have e5 : ¬ (R != R) = true := by simp
  clear s1 s2 i1 i2
  refine Ev.rounds ?_
  unfold laws_FnExactPlantJoined.f
  refine ev_split (fun _ => ev_ret rfl) (fun _ => ev_split (fun _ => ev_ret rfl) (fun _ => Ev.bind hq (ev_split (fun _ => ev_ret rfl) (fun _ => ?_))))
  exact Ev.bind ht (Ev.bind eS (Ev.bind ht (Ev.bind eI (ev_neg e5 (Ev.bind ht (Ev.bind hE (ev_pos rfl (ev_ret rfl))))))))
end Go.Proofs.Ytodeegjblililaa.Pure
set_option linter.unusedVariables false
set_option linter.unusedSimpArgs false
namespace Go.Proofs.Ytodeegjblililaa.PJ
open Go Go.Aw Go.RowKit Go.Proofs
set_option maxRecDepth 100000
set_option maxHeartbeats 40000000
variable {G : Nat → Option Obj}
def tab : List (TypeId × TI) := [(2, ⟨1, 8, false, 0, 0, [], [.int .i64 0], some .i64, false, false, false, [], [0], []⟩),
  (3, ⟨1, 8, false, 0, 0, [], [.int .i64 0], some .i64, false, false, false, [], [0], []⟩),
  (4, ⟨1, 1, false, 0, 0, [], [.bool false], none, false, false, true, [], [0], []⟩),
  (5, ⟨1, 1, false, 0, 0, [], [.int .u8 0], some .u8, false, false, false, [], [0], []⟩),
  (6, ⟨1, 1, false, 0, 0, [], [.int .u8 0], some .u8, false, false, false, [], [0], []⟩),
  (7, ⟨4, 24, true, 0, 0, [(0, 2), (1, 3), (2, 4), (3, 6)], [.int .i64 0, .int .i64 0, .bool false, .int .u8 0], none, false, false, false, [(0, 1), (1, 1), (2, 1), (3, 1)], [0, 0, 0, 0], []⟩),
  (8, ⟨4, 24, true, 0, 0, [(0, 2), (1, 3), (2, 4), (3, 6)], [.int .i64 0, .int .i64 0, .bool false, .int .u8 0], none, false, false, false, [(0, 1), (1, 1), (2, 1), (3, 1)], [0, 0, 0, 0], []⟩),
  (9, ⟨1, 16, false, 0, 0, [], [.str ⟨#[]⟩], none, true, false, false, [], [0], []⟩),
  (10, ⟨1, 16, false, 0, 0, [], [.str ⟨#[]⟩], none, true, false, false, [], [0], []⟩),
  (11, ⟨1, 16, false, 0, 0, [], [.str ⟨#[]⟩], none, true, false, false, [], [0], []⟩),
  (12, ⟨1, 8, false, 0, 0, [], [.int .u64 0], some .u64, false, false, false, [], [0], []⟩),
  (13, ⟨2, 24, true, 0, 0, [(0, 9), (1, 12)], [.str ⟨#[]⟩, .int .u64 0], none, false, false, false, [(0, 1), (1, 1)], [0, 0], []⟩),
  (14, ⟨2, 24, true, 0, 0, [(0, 9), (1, 12)], [.str ⟨#[]⟩, .int .u64 0], none, false, false, false, [(0, 1), (1, 1)], [0, 0], []⟩),
  (21, ⟨1, 4, false, 0, 0, [], [.int .i32 0], some .i32, false, false, false, [], [0], []⟩),
  (22, ⟨1, 24, false, 112, 0, [], [.nil], none, false, true, false, [], [8], []⟩),
  (24, ⟨1, 24, false, 9, 0, [], [.nil], none, false, true, false, [], [1], []⟩),
  (26, ⟨1, 24, false, 88, 0, [], [.nil], none, false, true, false, [], [8], []⟩),
  (33, ⟨1, 24, false, 176, 0, [], [.nil], none, false, true, false, [], [2], []⟩),
  (34, ⟨1, 24, false, 178, 0, [], [.nil], none, false, true, false, [], [3], []⟩),
  (35, ⟨1, 24, false, 180, 0, [], [.nil], none, false, true, false, [], [4], []⟩),
  (36, ⟨4, 96, true, 0, 0, [(0, 24), (1, 33), (2, 34), (3, 35)], [.nil, .nil, .nil, .nil], none, false, false, false, [(0, 1), (1, 1), (2, 1), (3, 1)], [1, 2, 3, 4], []⟩),
  (37, ⟨4, 96, true, 0, 0, [(0, 24), (1, 33), (2, 34), (3, 35)], [.nil, .nil, .nil, .nil], none, false, false, false, [(0, 1), (1, 1), (2, 1), (3, 1)], [1, 2, 3, 4], []⟩),
  (40, ⟨1, 24, false, 168, 0, [], [.nil], none, false, true, false, [], [2], []⟩),
  (41, ⟨1, 24, false, 109, 0, [], [.nil], none, false, true, false, [], [3], []⟩),
  (42, ⟨1, 24, false, 135, 0, [], [.nil], none, false, true, false, [], [4], []⟩),
  (43, ⟨4, 96, true, 0, 0, [(0, 24), (1, 40), (2, 41), (3, 42)], [.nil, .nil, .nil, .nil], none, false, false, false, [(0, 1), (1, 1), (2, 1), (3, 1)], [1, 2, 3, 4], []⟩),
  (44, ⟨4, 96, true, 0, 0, [(0, 24), (1, 40), (2, 41), (3, 42)], [.nil, .nil, .nil, .nil], none, false, false, false, [(0, 1), (1, 1), (2, 1), (3, 1)], [1, 2, 3, 4], []⟩),
  (50, ⟨1, 24, false, 107, 0, [], [.nil], none, false, true, false, [], [1], []⟩),
  (55, ⟨2, 48, true, 0, 0, [(0, 24), (1, 24)], [.nil, .nil], none, false, false, false, [(0, 1), (1, 1)], [1, 1], []⟩),
  (56, ⟨2, 48, true, 0, 0, [(0, 24), (1, 24)], [.nil, .nil], none, false, false, false, [(0, 1), (1, 1)], [1, 1], []⟩),
  (59, ⟨2, 48, true, 0, 0, [(0, 24), (1, 24)], [.nil, .nil], none, false, false, false, [(0, 1), (1, 1)], [1, 1], []⟩),
  (63, ⟨1, 24, false, 133, 0, [], [.nil], none, false, true, false, [], [2], []⟩),
  (64, ⟨2, 48, true, 0, 0, [(0, 24), (1, 63)], [.nil, .nil], none, false, false, false, [(0, 1), (1, 1)], [1, 2], []⟩),
  (65, ⟨2, 48, true, 0, 0, [(0, 24), (1, 63)], [.nil, .nil], none, false, false, false, [(0, 1), (1, 1)], [1, 2], []⟩),
  (69, ⟨1, 24, false, 193, 0, [], [.nil], none, false, true, false, [], [2], []⟩),
  (70, ⟨2, 48, true, 0, 0, [(0, 24), (1, 69)], [.nil, .nil], none, false, false, false, [(0, 1), (1, 1)], [1, 2], []⟩),
  (71, ⟨2, 48, true, 0, 0, [(0, 24), (1, 69)], [.nil, .nil], none, false, false, false, [(0, 1), (1, 1)], [1, 2], []⟩),
  (78, ⟨1, 24, false, 5, 0, [], [.nil], none, false, true, false, [], [1], []⟩),
  (79, ⟨3, 32, true, 0, 0, [(0, 9), (1, 3), (2, 3)], [.str ⟨#[]⟩, .int .i64 0, .int .i64 0], none, false, false, false, [(0, 1), (1, 1), (2, 1)], [0, 0, 0], []⟩),
  (80, ⟨3, 32, true, 0, 0, [(0, 9), (1, 3), (2, 3)], [.str ⟨#[]⟩, .int .i64 0, .int .i64 0], none, false, false, false, [(0, 1), (1, 1), (2, 1)], [0, 0, 0], [2, 1, 1]⟩),
  (81, ⟨2, 16, true, 0, 0, [(0, 3), (1, 4)], [.int .i64 0, .bool false], none, false, false, false, [(0, 1), (1, 1)], [0, 0], []⟩),
  (82, ⟨2, 16, true, 0, 0, [(0, 3), (1, 4)], [.int .i64 0, .bool false], none, false, false, false, [(0, 1), (1, 1)], [0, 0], [1, 3]⟩),
  (87, ⟨8, 104, true, 0, 0, [(0, 9), (1, 3), (2, 9), (3, 9), (4, 3), (5, 3), (6, 9), (7, 9)], [.str ⟨#[]⟩, .int .i64 0, .str ⟨#[]⟩, .str ⟨#[]⟩, .int .i64 0, .int .i64 0, .str ⟨#[]⟩, .str ⟨#[]⟩], none, false, false, false, [(0, 1), (1, 1), (2, 1), (3, 1), (4, 1), (5, 1), (6, 1), (7, 1)], [0, 0, 0, 0, 0, 0, 0, 0], []⟩),
  (88, ⟨8, 104, true, 0, 0, [(0, 9), (1, 3), (2, 9), (3, 9), (4, 3), (5, 3), (6, 9), (7, 9)], [.str ⟨#[]⟩, .int .i64 0, .str ⟨#[]⟩, .str ⟨#[]⟩, .int .i64 0, .int .i64 0, .str ⟨#[]⟩, .str ⟨#[]⟩], none, false, false, false, [(0, 1), (1, 1), (2, 1), (3, 1), (4, 1), (5, 1), (6, 1), (7, 1)], [0, 0, 0, 0, 0, 0, 0, 0], [2, 1, 2, 2, 1, 1, 2, 2]⟩),
  (101, ⟨1, 24, false, 4, 0, [], [.nil], none, false, true, false, [], [1], []⟩),
  (106, ⟨1, 24, true, 0, 0, [(0, 24)], [.nil], none, false, false, false, [(0, 1)], [1], []⟩),
  (107, ⟨1, 24, true, 0, 0, [(0, 24)], [.nil], none, false, false, false, [(0, 1)], [1], []⟩),
  (108, ⟨3, 40, true, 0, 0, [(0, 9), (1, 3), (2, 9)], [.str ⟨#[]⟩, .int .i64 0, .str ⟨#[]⟩], none, false, false, false, [(0, 1), (1, 1), (2, 1)], [0, 0, 0], []⟩),
  (109, ⟨3, 40, true, 0, 0, [(0, 9), (1, 3), (2, 9)], [.str ⟨#[]⟩, .int .i64 0, .str ⟨#[]⟩], none, false, false, false, [(0, 1), (1, 1), (2, 1)], [0, 0, 0], [2, 1, 2]⟩),
  (112, ⟨8, 104, true, 0, 0, [(0, 9), (1, 3), (2, 9), (3, 9), (4, 3), (5, 3), (6, 9), (7, 9)], [.str ⟨#[]⟩, .int .i64 0, .str ⟨#[]⟩, .str ⟨#[]⟩, .int .i64 0, .int .i64 0, .str ⟨#[]⟩, .str ⟨#[]⟩], none, false, false, false, [(0, 1), (1, 1), (2, 1), (3, 1), (4, 1), (5, 1), (6, 1), (7, 1)], [0, 0, 0, 0, 0, 0, 0, 0], [2, 1, 2, 2, 1, 1, 2, 2]⟩),
  (132, ⟨2, 32, true, 0, 0, [(0, 9), (1, 9)], [.str ⟨#[]⟩, .str ⟨#[]⟩], none, false, false, false, [(0, 1), (1, 1)], [0, 0], []⟩),
  (133, ⟨2, 32, true, 0, 0, [(0, 9), (1, 9)], [.str ⟨#[]⟩, .str ⟨#[]⟩], none, false, false, false, [(0, 1), (1, 1)], [0, 0], [2, 2]⟩),
  (134, ⟨4, 64, true, 0, 0, [(0, 9), (1, 9), (2, 9), (3, 9)], [.str ⟨#[]⟩, .str ⟨#[]⟩, .str ⟨#[]⟩, .str ⟨#[]⟩], none, false, false, false, [(0, 1), (1, 1), (2, 1), (3, 1)], [0, 0, 0, 0], []⟩),
  (135, ⟨4, 64, true, 0, 0, [(0, 9), (1, 9), (2, 9), (3, 9)], [.str ⟨#[]⟩, .str ⟨#[]⟩, .str ⟨#[]⟩, .str ⟨#[]⟩], none, false, false, false, [(0, 1), (1, 1), (2, 1), (3, 1)], [0, 0, 0, 0], [2, 2, 2, 2]⟩),
  (151, ⟨1, 24, false, 3, 0, [], [.nil], none, false, true, false, [], [1], []⟩),
  (165, ⟨1, 24, false, 204, 0, [], [.nil], none, false, true, false, [], [2], []⟩),
  (167, ⟨2, 32, true, 0, 0, [(0, 9), (1, 9)], [.str ⟨#[]⟩, .str ⟨#[]⟩], none, false, false, false, [(0, 1), (1, 1)], [0, 0], []⟩),
  (168, ⟨2, 32, true, 0, 0, [(0, 9), (1, 9)], [.str ⟨#[]⟩, .str ⟨#[]⟩], none, false, false, false, [(0, 1), (1, 1)], [0, 0], [2, 2]⟩),
  (176, ⟨2, 32, true, 0, 0, [(0, 9), (1, 9)], [.str ⟨#[]⟩, .str ⟨#[]⟩], none, false, false, false, [(0, 1), (1, 1)], [0, 0], [2, 2]⟩),
  (178, ⟨3, 40, true, 0, 0, [(0, 9), (1, 3), (2, 9)], [.str ⟨#[]⟩, .int .i64 0, .str ⟨#[]⟩], none, false, false, false, [(0, 1), (1, 1), (2, 1)], [0, 0, 0], [2, 1, 2]⟩),
  (180, ⟨4, 64, true, 0, 0, [(0, 9), (1, 9), (2, 9), (3, 9)], [.str ⟨#[]⟩, .str ⟨#[]⟩, .str ⟨#[]⟩, .str ⟨#[]⟩], none, false, false, false, [(0, 1), (1, 1), (2, 1), (3, 1)], [0, 0, 0, 0], [2, 2, 2, 2]⟩),
  (193, ⟨2, 32, true, 0, 0, [(0, 9), (1, 9)], [.str ⟨#[]⟩, .str ⟨#[]⟩], none, false, false, false, [(0, 1), (1, 1)], [0, 0], [2, 2]⟩),
  (195, ⟨2, 32, true, 0, 0, [(0, 78), (1, 3)], [.nil, .int .i64 0], none, false, false, false, [(0, 1), (1, 1)], [1, 0], []⟩),
  (196, ⟨2, 32, true, 0, 0, [(0, 78), (1, 3)], [.nil, .int .i64 0], none, false, false, false, [(0, 1), (1, 1)], [1, 0], []⟩),
  (200, ⟨2, 32, true, 0, 0, [(0, 78), (1, 3)], [.nil, .int .i64 0], none, false, false, false, [(0, 1), (1, 1)], [1, 0], []⟩),
  (202, ⟨1, 24, false, 59, 0, [], [.nil], none, false, true, false, [], [2], []⟩),
  (204, ⟨2, 32, true, 9, 2, [], [.str ⟨#[]⟩, .str ⟨#[]⟩], none, false, false, false, [(0, 1), (1, 1)], [0, 0], [2, 2]⟩),
  (214, ⟨1, 8, false, 0, 0, [], [.int .u64 0], some .u64, false, false, false, [], [0], []⟩),
  (219, ⟨1, 8, false, 0, 0, [], [.int .i64 0], some .i64, false, false, false, [], [0], []⟩),
  (228, ⟨1, 4, false, 0, 0, [], [.int .u32 0], some .u32, false, false, false, [], [0], []⟩),
  (230, ⟨1, 8, false, 0, 0, [], [.int .u64 0], some .u64, false, false, false, [], [0], []⟩),
  (231, ⟨1, 8, false, 0, 0, [], [.int .u64 0], some .u64, false, false, false, [], [0], []⟩),
  (249, ⟨1, 1, false, 0, 0, [], [.int .u8 0], some .u8, false, false, false, [], [0], []⟩),
  (250, ⟨1, 1, false, 0, 0, [], [.int .u8 0], some .u8, false, false, false, [], [0], []⟩),
  (253, ⟨1, 4, false, 0, 0, [], [.int .i32 0], some .i32, false, false, false, [], [0], []⟩),
  (254, ⟨1, 4, false, 0, 0, [], [.int .i32 0], some .i32, false, false, false, [], [0], []⟩)]
theorem tok : TOk Try.prog (lk tab) := tok_of tab (by kernel_rfl)
theorem hP : Try.prog.follows .mixedOrders = true := by kernel_rfl
def en_str (x : ByteArray) : List V := [.str x]
def sv_str (l : List ByteArray) : V := .sl 1 l.length (l.map en_str)
def ob_str (l : List ByteArray) : Ob := .arr 9 1 (l.map en_str)
theorem bare_en_str (x : ByteArray) : (en_str x).all V.bare = true := rfl
theorem rdm_en_str (l : List ByteArray) (i : Int) (h0 : 0 ≤ i) (h1 : i < (l.length : Int)) : (l.map en_str)[i.toNat]? = some (en_str (rdOf ByteArray.empty l i)) := by
  have : i.toNat < l.length := by omega
  simp [rdOf, this]
def en_S_laws_PlantMark (x : S_laws_PlantMark) : List V := [.str x.f0, .str x.f1]
def sv_S_laws_PlantMark (l : List S_laws_PlantMark) : V := .sl 2 l.length (l.map en_S_laws_PlantMark)
def ob_S_laws_PlantMark (l : List S_laws_PlantMark) : Ob := .arr 193 2 (l.map en_S_laws_PlantMark)
theorem bare_en_S_laws_PlantMark (x : S_laws_PlantMark) : (en_S_laws_PlantMark x).all V.bare = true := rfl
theorem rdm_en_S_laws_PlantMark (l : List S_laws_PlantMark) (i : Int) (h0 : 0 ≤ i) (h1 : i < (l.length : Int)) : (l.map en_S_laws_PlantMark)[i.toNat]? = some (en_S_laws_PlantMark (rd_laws_PlantMark l i)) := by
  have : i.toNat < l.length := by omega
  simp [rd_laws_PlantMark, this]
def en_S_impl_PlantMark (x : S_impl_PlantMark) : List V := [.str x.f0, .str x.f1]
def sv_S_impl_PlantMark (l : List S_impl_PlantMark) : V := .sl 2 l.length (l.map en_S_impl_PlantMark)
def ob_S_impl_PlantMark (l : List S_impl_PlantMark) : Ob := .arr 133 2 (l.map en_S_impl_PlantMark)
theorem bare_en_S_impl_PlantMark (x : S_impl_PlantMark) : (en_S_impl_PlantMark x).all V.bare = true := rfl
theorem rdm_en_S_impl_PlantMark (l : List S_impl_PlantMark) (i : Int) (h0 : 0 ≤ i) (h1 : i < (l.length : Int)) : (l.map en_S_impl_PlantMark)[i.toNat]? = some (en_S_impl_PlantMark (rd_impl_PlantMark l i)) := by
  have : i.toNat < l.length := by omega
  simp [rd_impl_PlantMark, this]
def en_L_str (x : List ByteArray) : List V := [(sv_str x)]
def sv_L_str (l : List (List ByteArray)) : V := .sl 1 l.length (l.map en_L_str)
def ob_L_str (l : List (List ByteArray)) : Ob := .arr 24 1 (l.map en_L_str)
theorem rdm_en_L_str (l : List (List ByteArray)) (i : Int) (h0 : 0 ≤ i) (h1 : i < (l.length : Int)) : (l.map en_L_str)[i.toNat]? = some (en_L_str (rdOf ([] : List ByteArray) l i)) := by
  have : i.toNat < l.length := by omega
  simp [rdOf, this]
def en_L_S_laws_PlantMark (x : List S_laws_PlantMark) : List V := [(sv_S_laws_PlantMark x)]
def sv_L_S_laws_PlantMark (l : List (List S_laws_PlantMark)) : V := .sl 1 l.length (l.map en_L_S_laws_PlantMark)
def ob_L_S_laws_PlantMark (l : List (List S_laws_PlantMark)) : Ob := .arr 69 1 (l.map en_L_S_laws_PlantMark)
theorem rdm_en_L_S_laws_PlantMark (l : List (List S_laws_PlantMark)) (i : Int) (h0 : 0 ≤ i) (h1 : i < (l.length : Int)) : (l.map en_L_S_laws_PlantMark)[i.toNat]? = some (en_L_S_laws_PlantMark (rdOf ([] : List S_laws_PlantMark) l i)) := by
  have : i.toNat < l.length := by omega
  simp [rdOf, this]
def en_S_laws_PlantIndex (x : S_laws_PlantIndex) : List V := [(sv_str x.f0), (sv_S_laws_PlantMark x.f1)]
def sv_S_laws_PlantIndex (l : List S_laws_PlantIndex) : V := .sl 2 l.length (l.map en_S_laws_PlantIndex)
def ob_S_laws_PlantIndex (l : List S_laws_PlantIndex) : Ob := .arr 71 2 (l.map en_S_laws_PlantIndex)
theorem bareE_en_S_laws_PlantIndex (x : S_laws_PlantIndex) (h : (x.f0.isEmpty && x.f1.isEmpty) = true) : (en_S_laws_PlantIndex x).all V.bareE = true := by
  simp only [Bool.and_eq_true, List.isEmpty_iff] at h
  obtain ⟨h0, h1⟩ := h
  unfold en_S_laws_PlantIndex
  rw [h0, h1]
  rfl
theorem rdm_en_S_laws_PlantIndex (l : List S_laws_PlantIndex) (i : Int) (h0 : 0 ≤ i) (h1 : i < (l.length : Int)) : (l.map en_S_laws_PlantIndex)[i.toNat]? = some (en_S_laws_PlantIndex (rd_laws_PlantIndex l i)) := by
  have : i.toNat < l.length := by omega
  simp [rd_laws_PlantIndex, this]
attribute [local irreducible] callE Lp Sq Cut RetOk Fits

theorem laws_szStringS.l0_lp {F : (Exit → St → Prop) → St → Prop} {hv : List Tmp} {Q : Exit → St → Prop} {σ : St} {r : Int} {k : Nat} {l0 : List ByteArray} {x1 : Int} {x5 : Int} (H : laws_szStringS.l0 k l0 x1 x5 = some r) (rn : List (Option Nat)) (h1 : Fits σ σ [] [(1, .int .i64 x1), (5, .int .i64 x5)] [] [] rn)
    (h2 : ∀ (k0 : Nat) (x1 : Int) (x5 : Int), k0 < k + 1 → laws_szStringS.l0 k0 l0 x1 x5 = some r → headN σ hv [] [(1, .int .i64 x1), (5, .int .i64 x5)] [] [] (F (fun e σ' => match e with | .normal => ∃ (y : Nat × Int × Int) (rn : List (Option Nat)), (laws_szStringS.l0 y.1 l0 y.2.1 y.2.2 = some r ∧ y.1 < k + 1) ∧ y.1 < k0 ∧ Fits σ σ' [] [(1, .int .i64 y.2.1), (5, .int .i64 y.2.2)] [] [] rn | e => Q e σ'))) : Lp F hv Q σ := by
  unfold Lp
  refine ⟨Nat × Int × Int, fun x => laws_szStringS.l0 x.1 l0 x.2.1 x.2.2 = some r ∧ x.1 < k + 1, fun x => x.1, [], fun x => [(1, .int .i64 x.2.1), (5, .int .i64 x.2.2)], fun x => [], fun x => [], ⟨(k, x1, x5), rn, ⟨H, Nat.lt_succ_self _⟩, h1⟩, ?_⟩
  rintro ⟨k, x1, x5⟩ ⟨H, hk⟩
  exact h2 k x1 x5 hk H
theorem laws_szStringS.ac {k : Nat} {l0 : List ByteArray} {a1 : Int} {r : Int} (H : laws_szStringS.f k l0 a1 = some r) : ACalls Try.prog G 24 [] [(sv_str l0), .int .i64 a1] [] (.int .i64 r) := by
  refine acalls_of tok hP Try.func24 rfl (by kernel_rfl) [.tmp 4] rfl (by kernel_rfl) (Nat.le_of_ble_eq_true rfl) (.l .n (.l .n (.l .n (.l (.l .n (.l (.c .n .n) (.l (.l .n (.c .n .n)) .n))) .n)))) rfl ?_
  unfold laws_szStringS.f at H
  conv => whnf
  refine br_d H (fun c H => ?_) (fun c H => ?_)
  conv => whnf
  injection H with H; subst H
  exact ret_fz [] (rtA_eq rfl)
  conv => whnf
  refine laws_szStringS.l0_lp (l0 := l0) (k := k) H [] (fits_of ⟨.inl ⟨rfl, rfl⟩, ⟨.inl ⟨rfl, rfl⟩, trivial⟩⟩ trivial fi_ trivial rfl) ?_
  intro k x1 x5 hk H; rcases k with _ | k; exact none_elim H; rw [laws_szStringS.l0] at H; conv => whnf
  refine cut_ 104 [(0, (sv_str l0)), (1, .int .i64 x1), (5, .int .i64 x5), (15, .bool (decide (x5 < (l0.length : Int))))] [] rfl ⟨.inl rfl, ⟨.inl rfl, ⟨.inl rfl, ⟨.inl rfl, trivial⟩⟩⟩⟩ trivial ?_
  conv => whnf
  refine br_d H (fun c H => ?_) (fun c H => ?_)
  conv => whnf
  refine nd_ H (fun c H => ?_)
  conv => whnf
  refine Nd.mk nf_ ?_
  conv => whnf
  refine El.mk (rdm_en_str _ _ nf_ nf_) ?_
  conv => whnf
  refine cut_ 184 [(0, (sv_str l0)), (1, .int .i64 (wrap64 (x1 - ((rdOf ByteArray.empty l0 x5).size : Int)))), (5, .int .i64 x5), (26, .bool (decide ((wrap64 (x1 - ((rdOf ByteArray.empty l0 x5).size : Int))) < 0)))] [] rfl ⟨.inl rfl, ⟨.inl rfl, ⟨.inl rfl, ⟨.inl rfl, trivial⟩⟩⟩⟩ trivial ?_
  conv => whnf
  refine br_d H (fun c H => ?_) (fun c H => ?_)
  conv => whnf
  injection H with H; subst H
  exact ret_fz [] (rtA_eq rfl)
  conv => whnf
  exact ⟨(k, wrap64 (x1 - ((rdOf ByteArray.empty l0 x5).size : Int)), wrap64 (x5 + 1)), [], ⟨H, lt_⟩, lt_, (fits_of ⟨.inl ⟨rfl, rfl⟩, ⟨.inl ⟨rfl, rfl⟩, trivial⟩⟩ trivial fi_ trivial rfl)⟩
  conv => whnf
  injection H with H; subst H
  exact ret_fz [] (rtA_eq rfl)
theorem laws_szPlantMark.ac {a0_0 : ByteArray} {a0_1 : ByteArray} {a1 : Int} {r : Int} (H : laws_szPlantMark.f a0_0 a0_1 a1 = some r) : ACalls Try.prog G 168 [] [.agg [.str a0_0, .str a0_1], .int .i64 a1] [] (.int .i64 r) := by
  refine acalls_of tok hP Try.func168 rfl (by kernel_rfl) [.tmp 4] rfl (by kernel_rfl) (Nat.le_of_ble_eq_true rfl) (.l .n (.l .n (.l (.c .n .n) (.l .n (.l .n (.c .n .n)))))) rfl ?_
  unfold laws_szPlantMark.f at H
  conv => whnf
  refine cut_ 80 [(1, .int .i64 (wrap64 (a1 - (a0_0.size : Int)))), (2, .bp 0 0), (11, .bool (decide ((wrap64 (a1 - (a0_0.size : Int))) < 0)))] [(0, .box [.str a0_0, .str a0_1])] rfl ⟨.inl rfl, ⟨.inl rfl, ⟨.inl rfl, trivial⟩⟩⟩ ⟨rfl, trivial⟩ ?_
  conv => whnf
  refine br_d H (fun c H => ?_) (fun c H => ?_)
  conv => whnf
  injection H with H; subst H
  exact ret_fz [] (rtA_eq rfl)
  conv => whnf
  refine br_d H (fun c H => ?_) (fun c H => ?_)
  conv => whnf
  injection H with H; subst H
  exact ret_fz [] (rtA_eq rfl)
  conv => whnf
  refine cut_ 160 [(4, .int .i64 (wrap64 ((wrap64 (a1 - (a0_0.size : Int))) - (a0_1.size : Int))))] [] rfl ⟨.inl rfl, trivial⟩ trivial ?_
  conv => whnf
  injection H with H; subst H
  exact ret_fz [] (rtA_eq rfl)
theorem laws_szPlantMarkS.l0_lp {F : (Exit → St → Prop) → St → Prop} {hv : List Tmp} {Q : Exit → St → Prop} {σ : St} {r : Int} {k : Nat} {l0 : List S_laws_PlantMark} {x1 : Int} {x5 : Int} (H : laws_szPlantMarkS.l0 k l0 x1 x5 = some r) (rn : List (Option Nat)) (h1 : Fits σ σ [] [(1, .int .i64 x1), (5, .int .i64 x5)] [] [] rn)
    (h2 : ∀ (k0 : Nat) (x1 : Int) (x5 : Int), k0 < k + 1 → laws_szPlantMarkS.l0 k0 l0 x1 x5 = some r → headN σ hv [] [(1, .int .i64 x1), (5, .int .i64 x5)] [] [] (F (fun e σ' => match e with | .normal => ∃ (y : Nat × Int × Int) (rn : List (Option Nat)), (laws_szPlantMarkS.l0 y.1 l0 y.2.1 y.2.2 = some r ∧ y.1 < k + 1) ∧ y.1 < k0 ∧ Fits σ σ' [] [(1, .int .i64 y.2.1), (5, .int .i64 y.2.2)] [] [] rn | e => Q e σ'))) : Lp F hv Q σ := by
  unfold Lp
  refine ⟨Nat × Int × Int, fun x => laws_szPlantMarkS.l0 x.1 l0 x.2.1 x.2.2 = some r ∧ x.1 < k + 1, fun x => x.1, [], fun x => [(1, .int .i64 x.2.1), (5, .int .i64 x.2.2)], fun x => [], fun x => [], ⟨(k, x1, x5), rn, ⟨H, Nat.lt_succ_self _⟩, h1⟩, ?_⟩
  rintro ⟨k, x1, x5⟩ ⟨H, hk⟩
  exact h2 k x1 x5 hk H
theorem laws_szPlantMarkS.ac {k : Nat} {l0 : List S_laws_PlantMark} {a1 : Int} {r : Int} (H : laws_szPlantMarkS.f k l0 a1 = some r) : ACalls Try.prog G 109 [] [(sv_S_laws_PlantMark l0), .int .i64 a1] [] (.int .i64 r) := by
  refine acalls_of tok hP Try.func109 rfl (by kernel_rfl) [.tmp 4] rfl (by kernel_rfl) (Nat.le_of_ble_eq_true rfl) (.l .n (.l .n (.l .n (.l (.l .n (.l (.c .n .n) (.l (.l .n (.l .n (.l (.c .n .n) .n))) .n))) .n)))) rfl ?_
  unfold laws_szPlantMarkS.f at H
  conv => whnf
  refine br_d H (fun c H => ?_) (fun c H => ?_)
  conv => whnf
  injection H with H; subst H
  exact ret_fz [] (rtA_eq rfl)
  conv => whnf
  refine laws_szPlantMarkS.l0_lp (l0 := l0) (k := k) H [] (fits_of ⟨.inl ⟨rfl, rfl⟩, ⟨.inl ⟨rfl, rfl⟩, trivial⟩⟩ trivial fi_ trivial rfl) ?_
  intro k x1 x5 hk H; rcases k with _ | k; exact none_elim H; rw [laws_szPlantMarkS.l0] at H; conv => whnf
  refine cut_ 104 [(0, (sv_S_laws_PlantMark l0)), (1, .int .i64 x1), (5, .int .i64 x5), (15, .bool (decide (x5 < (l0.length : Int))))] [] rfl ⟨.inl rfl, ⟨.inl rfl, ⟨.inl rfl, ⟨.inl rfl, trivial⟩⟩⟩⟩ trivial ?_
  conv => whnf
  refine br_d H (fun c H => ?_) (fun c H => ?_)
  conv => whnf
  refine nd_ H (fun c H => ?_)
  conv => whnf
  refine Nd.mk nf_ ?_
  conv => whnf
  refine El.mk (rdm_en_S_laws_PlantMark _ _ nf_ nf_) ?_
  conv => whnf
  revert H; refine bind_elim (fun t8 A H => ?_)
  refine call_mk (laws_szPlantMark.ac A) (avAL_cons (avA_agg (avL_cons (av_shut' rfl) (avL_cons (av_shut' rfl) (avL_nil)))) (avAL_cons (avA_shut' rfl) (avAL_nil))) (Or.inl rfl) rfl rfl (Nat.le_of_ble_eq_true rfl) ?_
  conv => whnf
  refine br_d H (fun c H => ?_) (fun c H => ?_)
  conv => whnf
  refine cut_ 184 [(4, .int .i64 (-1))] [] rfl ⟨.inl rfl, trivial⟩ trivial ?_
  conv => whnf
  injection H with H; subst H
  exact ret_fz [] (rtA_eq rfl)
  conv => whnf
  exact ⟨(k, t8, wrap64 (x5 + 1)), [], ⟨H, lt_⟩, lt_, (fits_of ⟨.inl ⟨rfl, rfl⟩, ⟨.inl ⟨rfl, rfl⟩, trivial⟩⟩ trivial fi_ trivial rfl)⟩
  conv => whnf
  injection H with H; subst H
  exact ret_fz [] (rtA_eq rfl)
theorem laws_szPlantIndex.ac {k : Nat} {a0_0 : List ByteArray} {a0_1 : List S_laws_PlantMark} {a1 : Int} {r : Int} (H : laws_szPlantIndex.f k a0_0 a0_1 a1 = some r) : ACalls Try.prog G 46 [] [.agg [(sv_str a0_0), (sv_S_laws_PlantMark a0_1)], .int .i64 a1] [] (.int .i64 r) := by
  refine acalls_of tok hP Try.func46 rfl (by kernel_rfl) [.tmp 4] rfl (by kernel_rfl) (Nat.le_of_ble_eq_true rfl) (.l .n (.l .n (.l (.l .n (.l (.c .n .n) .n)) (.c .n .n)))) rfl ?_
  unfold laws_szPlantIndex.f at H
  conv => whnf
  revert H; refine bind_elim (fun t10 A H => ?_)
  refine call_mk (laws_szStringS.ac A) (avAL_cons (avA_shut' rfl) (avAL_cons (avA_shut' rfl) (avAL_nil))) (Or.inl rfl) rfl rfl (Nat.le_of_ble_eq_true rfl) ?_
  conv => whnf
  refine br_d H (fun c H => ?_) (fun c H => ?_)
  conv => whnf
  refine cut_ 80 [(4, .int .i64 (-1))] [] rfl ⟨.inl rfl, trivial⟩ trivial ?_
  conv => whnf
  injection H with H; subst H
  exact ret_fz [] (rtA_eq rfl)
  conv => whnf
  revert H; refine bind_elim (fun t12 A H => ?_)
  refine call_mk (laws_szPlantMarkS.ac A) (avAL_cons (avA_shut' rfl) (avAL_cons (avA_shut' rfl) (avAL_nil))) (Or.inl rfl) rfl rfl (Nat.le_of_ble_eq_true rfl) ?_
  conv => whnf
  refine cut_ 112 [(1, .int .i64 t12)] [] rfl ⟨.inl rfl, trivial⟩ trivial ?_
  conv => whnf
  refine br_d H (fun c H => ?_) (fun c H => ?_)
  conv => whnf
  injection H with H; subst H
  exact ret_fz [] (rtA_eq rfl)
  conv => whnf
  injection H with H; subst H
  exact ret_fz [] (rtA_eq rfl)
theorem laws_toStringS.l0_lp {F : (Exit → St → Prop) → St → Prop} {hv : List Tmp} {Q : Exit → St → Prop} {σ : St} {r : List ByteArray} {k : Nat} {l0 : List ByteArray} {x3 : List ByteArray} {x4 : Int} (H : laws_toStringS.l0 k l0 x3 x4 = some r) (rn : List (Option Nat)) (h1 : Fits σ σ [24] [(3, .own 0 x3.length), (4, .int .i64 x4)] [] [.arr 9 1 (x3.map en_str)] rn)
    (h2 : ∀ (k0 : Nat) (x3 : List ByteArray) (x4 : Int), k0 < k + 1 → laws_toStringS.l0 k0 l0 x3 x4 = some r → headN σ hv [24] [(3, .own 0 x3.length), (4, .int .i64 x4)] [] [.arr 9 1 (x3.map en_str)] (F (fun e σ' => match e with | .normal => ∃ (y : Nat × (List ByteArray) × Int) (rn : List (Option Nat)), (laws_toStringS.l0 y.1 l0 y.2.1 y.2.2 = some r ∧ y.1 < k + 1) ∧ y.1 < k0 ∧ Fits σ σ' [24] [(3, .own 0 y.2.1.length), (4, .int .i64 y.2.2)] [] [.arr 9 1 (y.2.1.map en_str)] rn | e => Q e σ'))) : Lp F hv Q σ := by
  unfold Lp
  refine ⟨Nat × (List ByteArray) × Int, fun x => laws_toStringS.l0 x.1 l0 x.2.1 x.2.2 = some r ∧ x.1 < k + 1, fun x => x.1, [24], fun x => [(3, .own 0 x.2.1.length), (4, .int .i64 x.2.2)], fun x => [], fun x => [.arr 9 1 (x.2.1.map en_str)], ⟨(k, x3, x4), rn, ⟨H, Nat.lt_succ_self _⟩, h1⟩, ?_⟩
  rintro ⟨k, x3, x4⟩ ⟨H, hk⟩
  exact h2 k x3 x4 hk H
theorem laws_toStringS.ac {k : Nat} {l0 : List ByteArray} {r : List ByteArray} (H : laws_toStringS.f k l0 = some r) : ACalls Try.prog G 27 [] [(sv_str l0)] [] ((sv_str r)) := by
  refine acalls_of tok hP Try.func27 rfl (by kernel_rfl) [.tmp 2] rfl (by kernel_rfl) (Nat.le_of_ble_eq_true rfl) (.l .n (.l .n (.l (.l .n (.l (.c .n .n) .n)) .n))) rfl ?_
  unfold laws_toStringS.f at H
  conv => whnf
  refine Nd.mk (Int.natCast_nonneg _) ?_
  conv => whnf
  refine Nd.mk (Int.le_refl _) ?_
  conv => whnf
  refine nd_ H (fun c H => ?_)
  conv => whnf
  refine laws_toStringS.l0_lp (l0 := l0) (k := k) H [some 24] (fits_of ⟨mt_own lm_, ⟨.inl ⟨rfl, rfl⟩, trivial⟩⟩ ⟨fm_, trivial⟩ fi_ trivial rfl) ?_
  intro k x3 x4 hk H; rcases k with _ | k; exact none_elim H; rw [laws_toStringS.l0] at H; conv => whnf
  refine cut_ 81 [(0, (sv_str l0)), (3, .own 48 x3.length), (4, .int .i64 x4), (11, .bool (decide (x4 < (l0.length : Int))))] [(48, .arr 9 1 (x3.map en_str))] rfl ⟨.inl rfl, ⟨.inl rfl, ⟨.inl rfl, ⟨.inl rfl, trivial⟩⟩⟩⟩ ⟨rfl, trivial⟩ ?_
  conv => whnf
  refine br_d H (fun c H => ?_) (fun c H => ?_)
  conv => whnf
  refine nd_ H (fun c H => ?_)
  conv => whnf
  refine Nd.mk nf_ ?_
  conv => whnf
  refine El.mk (rdm_en_str _ _ nf_ nf_) ?_
  conv => whnf
  refine Nd.mk nf_ ?_
  conv => whnf
  refine nd_ H (fun c H => ?_)
  conv => whnf
  refine El.mk (rdm_en_str _ _ nf_ nf_) ?_
  conv => whnf
  exact ⟨(k, (x3.set (x4).toNat (rdOf ByteArray.empty l0 x4)), wrap64 (x4 + 1)), [some 48], ⟨H, lt_⟩, lt_, (fits_of ⟨mt_own lm_, ⟨.inl ⟨rfl, rfl⟩, trivial⟩⟩ ⟨fm_, trivial⟩ fi_ trivial rfl)⟩
  conv => whnf
  injection H with H; subst H
  exact ret_fz [48] (rtA_fz' rfl rfl)
theorem laws_toPlantMark.ac {a0_0 : ByteArray} {a0_1 : ByteArray} {r : ByteArray × ByteArray} (H : laws_toPlantMark.f a0_0 a0_1 = some r) : ACalls Try.prog G 169 [] [.agg [.str a0_0, .str a0_1]] [] (.agg [.str r.1, .str r.2]) := by
  refine acalls_of tok hP Try.func169 rfl (by kernel_rfl) [.cell 2 133] rfl (by kernel_rfl) (Nat.le_of_ble_eq_true rfl) (.l .n (.l .n (.l .n (.l .n (.c .n .n))))) rfl ?_
  unfold laws_toPlantMark.f at H
  conv => whnf
  refine cut_ 104 [(2, .bp 8 0)] [(8, .box [.str a0_0, .str a0_1])] rfl ⟨.inl rfl, trivial⟩ ⟨rfl, trivial⟩ ?_
  conv => whnf
  injection H with H; subst H
  exact ret_fz [] (rtA_agg (rtL_cons (rt_eq rfl) (rtL_cons (rt_eq rfl) (rtL_nil))))
theorem laws_toPlantMarkS.l0_lp {F : (Exit → St → Prop) → St → Prop} {hv : List Tmp} {Q : Exit → St → Prop} {σ : St} {r : List S_impl_PlantMark} {k : Nat} {l0 : List S_laws_PlantMark} {x3 : List S_impl_PlantMark} {x4 : Int} (H : laws_toPlantMarkS.l0 k l0 x3 x4 = some r) (rn : List (Option Nat)) (h1 : Fits σ σ [24] [(3, .own 0 x3.length), (4, .int .i64 x4)] [] [.arr 133 2 (x3.map en_S_impl_PlantMark)] rn)
    (h2 : ∀ (k0 : Nat) (x3 : List S_impl_PlantMark) (x4 : Int), k0 < k + 1 → laws_toPlantMarkS.l0 k0 l0 x3 x4 = some r → headN σ hv [24] [(3, .own 0 x3.length), (4, .int .i64 x4)] [] [.arr 133 2 (x3.map en_S_impl_PlantMark)] (F (fun e σ' => match e with | .normal => ∃ (y : Nat × (List S_impl_PlantMark) × Int) (rn : List (Option Nat)), (laws_toPlantMarkS.l0 y.1 l0 y.2.1 y.2.2 = some r ∧ y.1 < k + 1) ∧ y.1 < k0 ∧ Fits σ σ' [24] [(3, .own 0 y.2.1.length), (4, .int .i64 y.2.2)] [] [.arr 133 2 (y.2.1.map en_S_impl_PlantMark)] rn | e => Q e σ'))) : Lp F hv Q σ := by
  unfold Lp
  refine ⟨Nat × (List S_impl_PlantMark) × Int, fun x => laws_toPlantMarkS.l0 x.1 l0 x.2.1 x.2.2 = some r ∧ x.1 < k + 1, fun x => x.1, [24], fun x => [(3, .own 0 x.2.1.length), (4, .int .i64 x.2.2)], fun x => [], fun x => [.arr 133 2 (x.2.1.map en_S_impl_PlantMark)], ⟨(k, x3, x4), rn, ⟨H, Nat.lt_succ_self _⟩, h1⟩, ?_⟩
  rintro ⟨k, x3, x4⟩ ⟨H, hk⟩
  exact h2 k x3 x4 hk H
theorem laws_toPlantMarkS.ac {k : Nat} {l0 : List S_laws_PlantMark} {r : List S_impl_PlantMark} (H : laws_toPlantMarkS.f k l0 = some r) : ACalls Try.prog G 110 [] [(sv_S_laws_PlantMark l0)] [] ((sv_S_impl_PlantMark r)) := by
  refine acalls_of tok hP Try.func110 rfl (by kernel_rfl) [.tmp 2] rfl (by kernel_rfl) (Nat.le_of_ble_eq_true rfl) (.l .n (.l .n (.l (.l .n (.l (.c .n .n) .n)) .n))) rfl ?_
  unfold laws_toPlantMarkS.f at H
  conv => whnf
  refine Nd.mk (Int.natCast_nonneg _) ?_
  conv => whnf
  refine Nd.mk (Int.le_refl _) ?_
  conv => whnf
  refine nd_ H (fun c H => ?_)
  conv => whnf
  refine laws_toPlantMarkS.l0_lp (l0 := l0) (k := k) H [some 24] (fits_of ⟨mt_own lm_, ⟨.inl ⟨rfl, rfl⟩, trivial⟩⟩ ⟨fm_, trivial⟩ fi_ trivial rfl) ?_
  intro k x3 x4 hk H; rcases k with _ | k; exact none_elim H; rw [laws_toPlantMarkS.l0] at H; conv => whnf
  refine cut_ 81 [(0, (sv_S_laws_PlantMark l0)), (3, .own 48 x3.length), (4, .int .i64 x4), (11, .bool (decide (x4 < (l0.length : Int))))] [(48, .arr 133 2 (x3.map en_S_impl_PlantMark))] rfl ⟨.inl rfl, ⟨.inl rfl, ⟨.inl rfl, ⟨.inl rfl, trivial⟩⟩⟩⟩ ⟨rfl, trivial⟩ ?_
  conv => whnf
  refine br_d H (fun c H => ?_) (fun c H => ?_)
  conv => whnf
  refine nd_ H (fun c H => ?_)
  conv => whnf
  refine Nd.mk nf_ ?_
  conv => whnf
  refine El.mk (rdm_en_S_laws_PlantMark _ _ nf_ nf_) ?_
  conv => whnf
  revert H; refine bind_elim (fun t29 A H => ?_)
  refine call_mk (laws_toPlantMark.ac A) (avAL_cons (avA_agg (avL_cons (av_shut' rfl) (avL_cons (av_shut' rfl) (avL_nil)))) (avAL_nil)) (Or.inl rfl) rfl rfl (Nat.le_of_ble_eq_true rfl) ?_
  conv => whnf
  refine Nd.mk nf_ ?_
  conv => whnf
  refine nd_ H (fun c H => ?_)
  conv => whnf
  refine El.mk (rdm_en_S_impl_PlantMark _ _ nf_ nf_) ?_
  conv => whnf
  exact ⟨(k, (x3.set (x4).toNat (⟨t29.1, t29.2⟩ : S_impl_PlantMark)), wrap64 (x4 + 1)), [some 48], ⟨H, lt_⟩, lt_, (fits_of ⟨mt_own lm_, ⟨.inl ⟨rfl, rfl⟩, trivial⟩⟩ ⟨fm_, trivial⟩ fi_ trivial rfl)⟩
  conv => whnf
  injection H with H; subst H
  exact ret_fz [48] (rtA_fz' rfl rfl)
theorem laws_toPlantIndex.ac {k : Nat} {a0_0 : List ByteArray} {a0_1 : List S_laws_PlantMark} {r : (List ByteArray) × (List S_impl_PlantMark)} (H : laws_toPlantIndex.f k a0_0 a0_1 = some r) : ACalls Try.prog G 48 [] [.agg [(sv_str a0_0), (sv_S_laws_PlantMark a0_1)]] [] (.agg [(sv_str r.1), (sv_S_impl_PlantMark r.2)]) := by
  refine acalls_of tok hP Try.func48 rfl (by kernel_rfl) [.cell 2 65] rfl (by kernel_rfl) (Nat.le_of_ble_eq_true rfl) (.l .n (.l .n (.l .n (.c .n .n)))) rfl ?_
  unfold laws_toPlantIndex.f at H
  conv => whnf
  revert H; refine bind_elim (fun t31 A H => ?_)
  refine call_mk (laws_toStringS.ac A) (avAL_cons (avA_shut' rfl) (avAL_nil)) (Or.inl rfl) rfl rfl (Nat.le_of_ble_eq_true rfl) ?_
  conv => whnf
  revert H; refine bind_elim (fun t33 A H => ?_)
  refine call_mk (laws_toPlantMarkS.ac A) (avAL_cons (avA_shut' rfl) (avAL_nil)) (Or.inl rfl) rfl rfl (Nat.le_of_ble_eq_true rfl) ?_
  conv => whnf
  refine cut_ 104 [(2, .bp 8 0), (3, .bp 16 0)] [(8, .box [.nil, .nil]), (16, .box [(sv_str t31), (sv_S_impl_PlantMark t33)])] rfl ⟨.inl rfl, ⟨.inl rfl, trivial⟩⟩ ⟨rfl, ⟨rfl, trivial⟩⟩ ?_
  conv => whnf
  injection H with H; subst H
  exact ret_fz [] (rtA_agg (rtL_cons (rt_eq rfl) (rtL_cons (rt_eq rfl) (rtL_nil))))
theorem spec_l6Head.l0_lp {F : (Exit → St → Prop) → St → Prop} {hv : List Tmp} {Q : Exit → St → Prop} {σ : St} {r : ByteArray × Bool} {k : Nat} {a0_1 : List S_impl_PlantMark} {a1 : ByteArray} {x6 : Int} (H : spec_l6Head.l0 k a0_1 a1 x6 = some r) (rn : List (Option Nat)) (h1 : Fits σ σ [] [(6, .int .i64 x6)] [] [] rn)
    (h2 : ∀ (k0 : Nat) (x6 : Int), k0 < k + 1 → spec_l6Head.l0 k0 a0_1 a1 x6 = some r → headN σ hv [] [(6, .int .i64 x6)] [] [] (F (fun e σ' => match e with | .normal => ∃ (y : Nat × Int) (rn : List (Option Nat)), (spec_l6Head.l0 y.1 a0_1 a1 y.2 = some r ∧ y.1 < k + 1) ∧ y.1 < k0 ∧ Fits σ σ' [] [(6, .int .i64 y.2)] [] [] rn | e => Q e σ'))) : Lp F hv Q σ := by
  unfold Lp
  refine ⟨Nat × Int, fun x => spec_l6Head.l0 x.1 a0_1 a1 x.2 = some r ∧ x.1 < k + 1, fun x => x.1, [], fun x => [(6, .int .i64 x.2)], fun x => [], fun x => [], ⟨(k, x6), rn, ⟨H, Nat.lt_succ_self _⟩, h1⟩, ?_⟩
  rintro ⟨k, x6⟩ ⟨H, hk⟩
  exact h2 k x6 hk H
theorem spec_l6Head.ac {k : Nat} {a0_0 : List ByteArray} {a0_1 : List S_impl_PlantMark} {a1 : ByteArray} {r : ByteArray × Bool} (H : spec_l6Head.f k a0_0 a0_1 a1 = some r) : ACalls Try.prog G 112 [] [.agg [(sv_str a0_0), (sv_S_impl_PlantMark a0_1)], .str a1] [] (.tup [.str r.1, .bool r.2]) := by
  refine acalls_of tok hP Try.func112 rfl (by kernel_rfl) [.tmp 4, .tmp 5] rfl (by kernel_rfl) (Nat.le_of_ble_eq_true rfl) (.l .n (.l (.l .n (.l .n (.l (.c .n .n) .n))) (.c .n .n))) rfl ?_
  unfold spec_l6Head.f at H
  conv => whnf
  refine spec_l6Head.l0_lp (a0_1 := a0_1) (a1 := a1) (k := k) H [] (fits_of ⟨.inl ⟨rfl, rfl⟩, trivial⟩ trivial fi_ trivial rfl) ?_
  intro k x6 hk H; rcases k with _ | k; exact none_elim H; rw [spec_l6Head.l0] at H; conv => whnf
  refine br_d H (fun c H => ?_) (fun c H => ?_)
  conv => whnf
  refine nd_ H (fun c H => ?_)
  conv => whnf
  refine Nd.mk nf_ ?_
  conv => whnf
  refine El.mk (rdm_en_S_impl_PlantMark _ _ nf_ nf_) ?_
  conv => whnf
  refine cut_ 136 [(1, .str a1), (2, .bp 0 0), (6, .int .i64 x6), (21, .bool (decide (((rd_impl_PlantMark a0_1 x6).f0).toList = a1.toList)))] [(0, .box [(sv_str a0_0), (sv_S_impl_PlantMark a0_1)])] rfl ⟨.inl rfl, ⟨.inl rfl, ⟨.inl rfl, ⟨.inl rfl, trivial⟩⟩⟩⟩ ⟨rfl, trivial⟩ ?_
  conv => whnf
  refine br_d H (fun c H => ?_) (fun c H => ?_)
  conv => whnf
  refine Nd.mk nf_ ?_
  conv => whnf
  refine Nd.mk nf_ ?_
  conv => whnf
  refine El.mk (rdm_en_S_impl_PlantMark _ _ nf_ nf_) ?_
  conv => whnf
  injection H with H; subst H
  exact ret_tup [] (rtAL_cons (rtA_eq rfl) (rtAL_cons (rtA_eq rfl) (rtAL_nil)))
  conv => whnf
  exact ⟨(k, wrap64 (x6 + 1)), [], ⟨H, lt_⟩, lt_, (fits_of ⟨.inl ⟨rfl, rfl⟩, trivial⟩ trivial fi_ trivial rfl)⟩
  conv => whnf
  refine cut_ 88 [(4, .str (⟨#[]⟩ : ByteArray)), (5, .bool false)] [] rfl ⟨.inl rfl, ⟨.inl rfl, trivial⟩⟩ trivial ?_
  conv => whnf
  injection H with H; subst H
  exact ret_tup [] (rtAL_cons (rtA_eq rfl) (rtAL_cons (rtA_eq rfl) (rtAL_nil)))
theorem spec_PlantJoined.ac {k : Nat} {a0_0 : List ByteArray} {a0_1 : List S_impl_PlantMark} {a1 : ByteArray} {a2 : ByteArray} {r : Bool} (H : spec_PlantJoined.f k a0_0 a0_1 a1 a2 = some r) : ACalls Try.prog G 50 [] [.agg [(sv_str a0_0), (sv_S_impl_PlantMark a0_1)], .str a1, .str a2] [] (.bool r) := by
  refine acalls_of tok hP Try.func50 rfl (by kernel_rfl) [.tmp 6] rfl (by kernel_rfl) (Nat.le_of_ble_eq_true rfl) (.l .n (.c .n (.l .n (.c .n .n)))) rfl ?_
  unfold spec_PlantJoined.f at H
  conv => whnf
  revert H; refine bind_elim (fun t41 A H => ?_)
  refine call_mk (spec_l6Head.ac A) (avAL_cons (avA_agg (avL_cons (av_shut' rfl) (avL_cons (av_shut' rfl) (avL_nil)))) (avAL_cons (avA_shut' rfl) (avAL_nil))) (Or.inl rfl) rfl rfl (Nat.le_of_ble_eq_true rfl) ?_
  conv => whnf
  refine cut_ 80 [(2, .str a2), (3, .bp 0 0), (7, .str t41.1), (8, .bool t41.2)] [(0, .box [(sv_str a0_0), (sv_S_impl_PlantMark a0_1)])] rfl ⟨.inl rfl, ⟨.inl rfl, ⟨.inl rfl, ⟨.inl rfl, trivial⟩⟩⟩⟩ ⟨rfl, trivial⟩ ?_
  conv => whnf
  revert H; refine bind_elim (fun t43 A H => ?_)
  refine call_mk (spec_l6Head.ac A) (avAL_cons (avA_agg (avL_cons (av_shut' rfl) (avL_cons (av_shut' rfl) (avL_nil)))) (avAL_cons (avA_shut' rfl) (avAL_nil))) (Or.inl rfl) rfl rfl (Nat.le_of_ble_eq_true rfl) ?_
  conv => whnf
  refine br_t H (fun c H => ?_) (fun c H => ?_)
  conv => whnf
  refine Br.t ft_ ?_
  conv => whnf
  refine br_t H (fun c H => ?_) (fun c H => ?_)
  conv => whnf
  refine Br.t ft_ ?_
  conv => whnf
  refine Br.t ft_ ?_
  conv => whnf
  refine Br.t ft_ ?_
  conv => whnf
  refine cut_ 224 [(6, .bool (decide (t41.1.toList = t43.1.toList)))] [] rfl ⟨.inl rfl, trivial⟩ trivial ?_
  conv => whnf
  injection H with H; subst H
  exact ret_fz [] (rtA_eq rfl)
  conv => whnf
  refine Br.f ff_ ?_
  conv => whnf
  refine Br.f ff_ ?_
  conv => whnf
  refine Br.f ff_ ?_
  conv => whnf
  refine cut_ 224 [(6, .bool false)] [] rfl ⟨.inl rfl, trivial⟩ trivial ?_
  conv => whnf
  injection H with H; subst H
  exact ret_fz [] (rtA_eq rfl)
  conv => whnf
  refine Br.f ff_ ?_
  conv => whnf
  refine Br.f rfl ?_
  conv => whnf
  refine Br.f rfl ?_
  conv => whnf
  refine Br.f rfl ?_
  conv => whnf
  refine Br.f rfl ?_
  conv => whnf
  refine cut_ 224 [(6, .bool false)] [] rfl ⟨.inl rfl, trivial⟩ trivial ?_
  conv => whnf
  injection H with H; subst H
  exact ret_fz [] (rtA_eq rfl)
theorem impl_PlantJoined_1.l0_lp {F : (Exit → St → Prop) → St → Prop} {hv : List Tmp} {Q : Exit → St → Prop} {σ : St} {r : ByteArray × Bool × (List ByteArray) × (List S_impl_PlantMark)} {k : Nat} {a0 : ByteArray} {a1_0 : List ByteArray} {a1_1 : List S_impl_PlantMark} {x10 : Int} (H : impl_PlantJoined_1.l0 k a0 a1_0 a1_1 x10 = some r) (rn : List (Option Nat)) (h1 : Fits σ σ [] [(10, .int .i64 x10)] [] [] rn)
    (h2 : ∀ (k0 : Nat) (x10 : Int), k0 < k + 1 → impl_PlantJoined_1.l0 k0 a0 a1_0 a1_1 x10 = some r → headN σ hv [] [(10, .int .i64 x10)] [] [] (F (fun e σ' => match e with | .normal => ∃ (y : Nat × Int) (rn : List (Option Nat)), (impl_PlantJoined_1.l0 y.1 a0 a1_0 a1_1 y.2 = some r ∧ y.1 < k + 1) ∧ y.1 < k0 ∧ Fits σ σ' [] [(10, .int .i64 y.2)] [] [] rn | e => Q e σ'))) : Lp F hv Q σ := by
  unfold Lp
  refine ⟨Nat × Int, fun x => impl_PlantJoined_1.l0 x.1 a0 a1_0 a1_1 x.2 = some r ∧ x.1 < k + 1, fun x => x.1, [], fun x => [(10, .int .i64 x.2)], fun x => [], fun x => [], ⟨(k, x10), rn, ⟨H, Nat.lt_succ_self _⟩, h1⟩, ?_⟩
  rintro ⟨k, x10⟩ ⟨H, hk⟩
  exact h2 k x10 hk H
theorem impl_PlantJoined_1.ac {k : Nat} {a0 : ByteArray} {a1_0 : List ByteArray} {a1_1 : List S_impl_PlantMark} {r : ByteArray × Bool × (List ByteArray) × (List S_impl_PlantMark)} (H : impl_PlantJoined_1.f k a0 a1_0 a1_1 = some r) : ACalls Try.prog G 113 [.box [(sv_str a1_0), (sv_S_impl_PlantMark a1_1)]] [.str a0, .bp 0 0] [.box [(sv_str r.2.2.1), (sv_S_impl_PlantMark r.2.2.2)]] (.tup [.str r.1, .bool r.2.1]) := by
  refine acalls_of tok hP Try.func113 rfl (by kernel_rfl) [.tmp 3, .tmp 4] rfl (by kernel_rfl) (Nat.le_of_ble_eq_true rfl) (.l .n (.l (.l .n (.l .n (.l .n (.l (.c .n .n) .n)))) .n)) rfl ?_
  unfold impl_PlantJoined_1.f at H
  conv => whnf
  refine impl_PlantJoined_1.l0_lp (a0 := a0) (a1_0 := a1_0) (a1_1 := a1_1) (k := k) H [] (fits_of ⟨.inl ⟨rfl, rfl⟩, trivial⟩ trivial fi_ trivial rfl) ?_
  intro k x10 hk H; rcases k with _ | k; exact none_elim H; rw [impl_PlantJoined_1.l0] at H; conv => whnf
  refine br_d H (fun c H => ?_) (fun c H => ?_)
  conv => whnf
  refine nd_ H (fun c H => ?_)
  conv => whnf
  refine Nd.mk nf_ ?_
  conv => whnf
  refine El.mk (rdm_en_S_impl_PlantMark _ _ nf_ nf_) ?_
  conv => whnf
  refine cut_ 89 [(0, .str a0), (6, .bp 73 0), (8, (sv_S_impl_PlantMark a1_1)), (9, .int .i64 (a1_1.length : Int)), (10, .int .i64 x10)] [(0, .box [(sv_str a1_0), (sv_S_impl_PlantMark a1_1)]), (73, .box [.str ((rd_impl_PlantMark a1_1 x10).f0), .str ((rd_impl_PlantMark a1_1 x10).f1)])] rfl ⟨.inl rfl, ⟨.inl rfl, ⟨.inl rfl, ⟨.inl rfl, ⟨.inl rfl, trivial⟩⟩⟩⟩⟩ ⟨rfl, ⟨rfl, trivial⟩⟩ ?_
  conv => whnf
  refine br_d H (fun c H => ?_) (fun c H => ?_)
  conv => whnf
  injection H with H; subst H
  exact ret_gen [some 0] [] (⟨_, rfl, rtAL_cons (rtA_eq rfl) (rtAL_cons (rtA_eq rfl) (rtAL_nil))⟩) ⟨rfl, trivial⟩ rfl
  conv => whnf
  exact ⟨(k, wrap64 (x10 + 1)), [], ⟨H, lt_⟩, lt_, (fits_of ⟨.inl ⟨rfl, rfl⟩, trivial⟩ trivial fi_ trivial rfl)⟩
  conv => whnf
  injection H with H; subst H
  exact ret_gen [some 0] [] (⟨_, rfl, rtAL_cons (rtA_eq rfl) (rtAL_cons (rtA_eq rfl) (rtAL_nil))⟩) ⟨rfl, trivial⟩ rfl
theorem impl_PlantJoined.ac {k : Nat} {a0_0 : List ByteArray} {a0_1 : List S_impl_PlantMark} {a1 : ByteArray} {a2 : ByteArray} {r : Bool} (H : impl_PlantJoined.f k a0_0 a0_1 a1 a2 = some r) : ACalls Try.prog G 51 [] [.agg [(sv_str a0_0), (sv_S_impl_PlantMark a0_1)], .str a1, .str a2] [] (.bool r) := by
  refine acalls_of tok hP Try.func51 rfl (by kernel_rfl) [.tmp 6] rfl (by kernel_rfl) (Nat.le_of_ble_eq_true rfl) (.l .n (.l .n (.c .n (.l .n (.c .n .n))))) rfl ?_
  unfold impl_PlantJoined.f at H
  conv => whnf
  revert H; refine bind_elim (fun t61 A H => ?_)
  refine call_mk2 [0] (impl_PlantJoined_1.ac A) ⟨rfl, trivial⟩ rfl rfl rfl rfl rfl rfl rfl rfl ?_
  conv => whnf
  refine cut_ 96 [(2, .str a2), (7, .cf 113 0), (8, .str t61.1), (9, .bool t61.2.1)] [(0, .box [(sv_str t61.2.2.1), (sv_S_impl_PlantMark t61.2.2.2)])] rfl ⟨.inl rfl, ⟨.inl rfl, ⟨.inl rfl, ⟨.inl rfl, trivial⟩⟩⟩⟩ ⟨rfl, trivial⟩ ?_
  conv => whnf
  revert H; refine bind_elim (fun t63 A H => ?_)
  refine call_mk2 [0] (impl_PlantJoined_1.ac A) ⟨rfl, trivial⟩ rfl rfl rfl rfl rfl rfl rfl rfl ?_
  conv => whnf
  refine br_t H (fun c H => ?_) (fun c H => ?_)
  conv => whnf
  refine Br.t ft_ ?_
  conv => whnf
  refine br_t H (fun c H => ?_) (fun c H => ?_)
  conv => whnf
  refine Br.t ft_ ?_
  conv => whnf
  refine Br.t ft_ ?_
  conv => whnf
  refine Br.t ft_ ?_
  conv => whnf
  refine cut_ 240 [(6, .bool (decide (t61.1.toList = t63.1.toList)))] [] rfl ⟨.inl rfl, trivial⟩ trivial ?_
  conv => whnf
  injection H with H; subst H
  exact ret_fz [] (rtA_eq rfl)
  conv => whnf
  refine Br.f ff_ ?_
  conv => whnf
  refine Br.f ff_ ?_
  conv => whnf
  refine Br.f ff_ ?_
  conv => whnf
  refine cut_ 240 [(6, .bool false)] [] rfl ⟨.inl rfl, trivial⟩ trivial ?_
  conv => whnf
  injection H with H; subst H
  exact ret_fz [] (rtA_eq rfl)
  conv => whnf
  refine Br.f ff_ ?_
  conv => whnf
  refine Br.f rfl ?_
  conv => whnf
  refine Br.f rfl ?_
  conv => whnf
  refine Br.f rfl ?_
  conv => whnf
  refine Br.f rfl ?_
  conv => whnf
  refine cut_ 240 [(6, .bool false)] [] rfl ⟨.inl rfl, trivial⟩ trivial ?_
  conv => whnf
  injection H with H; subst H
  exact ret_fz [] (rtA_eq rfl)
theorem laws_eqStringS.l0_lp {F : (Exit → St → Prop) → St → Prop} {hv : List Tmp} {Q : Exit → St → Prop} {σ : St} {r : Bool} {k : Nat} {l0 : List ByteArray} {l1 : List ByteArray} {x5 : Int} (H : laws_eqStringS.l0 k l0 l1 x5 = some r) (rn : List (Option Nat)) (h1 : Fits σ σ [] [(5, .int .i64 x5)] [] [] rn)
    (h2 : ∀ (k0 : Nat) (x5 : Int), k0 < k + 1 → laws_eqStringS.l0 k0 l0 l1 x5 = some r → headN σ hv [] [(5, .int .i64 x5)] [] [] (F (fun e σ' => match e with | .normal => ∃ (y : Nat × Int) (rn : List (Option Nat)), (laws_eqStringS.l0 y.1 l0 l1 y.2 = some r ∧ y.1 < k + 1) ∧ y.1 < k0 ∧ Fits σ σ' [] [(5, .int .i64 y.2)] [] [] rn | e => Q e σ'))) : Lp F hv Q σ := by
  unfold Lp
  refine ⟨Nat × Int, fun x => laws_eqStringS.l0 x.1 l0 l1 x.2 = some r ∧ x.1 < k + 1, fun x => x.1, [], fun x => [(5, .int .i64 x.2)], fun x => [], fun x => [], ⟨(k, x5), rn, ⟨H, Nat.lt_succ_self _⟩, h1⟩, ?_⟩
  rintro ⟨k, x5⟩ ⟨H, hk⟩
  exact h2 k x5 hk H
theorem laws_eqStringS.ac {k : Nat} {l0 : List ByteArray} {l1 : List ByteArray} {r : Bool} (H : laws_eqStringS.f k l0 l1 = some r) : ACalls Try.prog G 18 [] [(sv_str l0), (sv_str l1)] [] (.bool r) := by
  refine acalls_of tok hP Try.func18 rfl (by kernel_rfl) [.tmp 4] rfl (by kernel_rfl) (Nat.le_of_ble_eq_true rfl) (.l .n (.l .n (.l (.l .n (.l (.c .n .n) (.l (.l .n (.l (.c .n .n) .n)) .n))) .n))) rfl ?_
  unfold laws_eqStringS.f at H
  conv => whnf
  refine br_nd H (fun c H => ?_) (fun c H => ?_)
  conv => whnf
  refine laws_eqStringS.l0_lp (l0 := l0) (l1 := l1) (k := k) H [] (fits_of ⟨.inl ⟨rfl, rfl⟩, trivial⟩ trivial fi_ trivial rfl) ?_
  intro k x5 hk H; rcases k with _ | k; exact none_elim H; rw [laws_eqStringS.l0] at H; conv => whnf
  refine cut_ 88 [(0, (sv_str l0)), (1, (sv_str l1)), (5, .int .i64 x5), (14, .bool (decide (x5 < (l0.length : Int))))] [] rfl ⟨.inl rfl, ⟨.inl rfl, ⟨.inl rfl, ⟨.inl rfl, trivial⟩⟩⟩⟩ trivial ?_
  conv => whnf
  refine br_d H (fun c H => ?_) (fun c H => ?_)
  conv => whnf
  refine nd_ H (fun c H => ?_)
  conv => whnf
  refine Nd.mk nf_ ?_
  conv => whnf
  refine El.mk (rdm_en_str _ _ nf_ nf_) ?_
  conv => whnf
  refine Nd.mk nf_ ?_
  conv => whnf
  refine nd_ H (fun c H => ?_)
  conv => whnf
  refine El.mk (rdm_en_str _ _ nf_ nf_) ?_
  conv => whnf
  refine br_nd H (fun c H => ?_) (fun c H => ?_)
  conv => whnf
  exact ⟨(k, wrap64 (x5 + 1)), [], ⟨H, lt_⟩, lt_, (fits_of ⟨.inl ⟨rfl, rfl⟩, trivial⟩ trivial fi_ trivial rfl)⟩
  conv => whnf
  refine cut_ 168 [(4, .bool false)] [] rfl ⟨.inl rfl, trivial⟩ trivial ?_
  conv => whnf
  injection H with H; subst H
  exact ret_fz [] (rtA_eq rfl)
  conv => whnf
  injection H with H; subst H
  exact ret_fz [] (rtA_eq rfl)
  conv => whnf
  injection H with H; subst H
  exact ret_fz [] (rtA_eq rfl)
theorem laws_eqPlantMark.ac {a0_0 : ByteArray} {a0_1 : ByteArray} {a1_0 : ByteArray} {a1_1 : ByteArray} {r : Bool} (H : laws_eqPlantMark.f a0_0 a0_1 a1_0 a1_1 = some r) : ACalls Try.prog G 167 [] [.agg [.str a0_0, .str a0_1], .agg [.str a1_0, .str a1_1]] [] (.bool r) := by
  refine acalls_of tok hP Try.func167 rfl (by kernel_rfl) [.tmp 4] rfl (by kernel_rfl) (Nat.le_of_ble_eq_true rfl) (.l .n (.l .n (.l (.c .n .n) .n))) rfl ?_
  unfold laws_eqPlantMark.f at H
  conv => whnf
  refine br_nd H (fun c H => ?_) (fun c H => ?_)
  conv => whnf
  refine cut_ 104 [(14, .bool (!(decide (a0_1.toList = a1_1.toList))))] [] rfl ⟨.inl rfl, trivial⟩ trivial ?_
  conv => whnf
  refine br_nd H (fun c H => ?_) (fun c H => ?_)
  conv => whnf
  injection H with H; subst H
  exact ret_fz [] (rtA_eq rfl)
  conv => whnf
  injection H with H; subst H
  exact ret_fz [] (rtA_eq rfl)
  conv => whnf
  injection H with H; subst H
  exact ret_fz [] (rtA_eq rfl)
theorem laws_eqPlantMarkS.l0_lp {F : (Exit → St → Prop) → St → Prop} {hv : List Tmp} {Q : Exit → St → Prop} {σ : St} {r : Bool} {k : Nat} {l0 : List S_impl_PlantMark} {l1 : List S_impl_PlantMark} {x5 : Int} (H : laws_eqPlantMarkS.l0 k l0 l1 x5 = some r) (rn : List (Option Nat)) (h1 : Fits σ σ [] [(5, .int .i64 x5)] [] [] rn)
    (h2 : ∀ (k0 : Nat) (x5 : Int), k0 < k + 1 → laws_eqPlantMarkS.l0 k0 l0 l1 x5 = some r → headN σ hv [] [(5, .int .i64 x5)] [] [] (F (fun e σ' => match e with | .normal => ∃ (y : Nat × Int) (rn : List (Option Nat)), (laws_eqPlantMarkS.l0 y.1 l0 l1 y.2 = some r ∧ y.1 < k + 1) ∧ y.1 < k0 ∧ Fits σ σ' [] [(5, .int .i64 y.2)] [] [] rn | e => Q e σ'))) : Lp F hv Q σ := by
  unfold Lp
  refine ⟨Nat × Int, fun x => laws_eqPlantMarkS.l0 x.1 l0 l1 x.2 = some r ∧ x.1 < k + 1, fun x => x.1, [], fun x => [(5, .int .i64 x.2)], fun x => [], fun x => [], ⟨(k, x5), rn, ⟨H, Nat.lt_succ_self _⟩, h1⟩, ?_⟩
  rintro ⟨k, x5⟩ ⟨H, hk⟩
  exact h2 k x5 hk H
theorem laws_eqPlantMarkS.ac {k : Nat} {l0 : List S_impl_PlantMark} {l1 : List S_impl_PlantMark} {r : Bool} (H : laws_eqPlantMarkS.f k l0 l1 = some r) : ACalls Try.prog G 106 [] [(sv_S_impl_PlantMark l0), (sv_S_impl_PlantMark l1)] [] (.bool r) := by
  refine acalls_of tok hP Try.func106 rfl (by kernel_rfl) [.tmp 4] rfl (by kernel_rfl) (Nat.le_of_ble_eq_true rfl) (.l .n (.l .n (.l (.l .n (.l (.c .n .n) (.l (.c .n .n) .n))) .n))) rfl ?_
  unfold laws_eqPlantMarkS.f at H
  conv => whnf
  refine br_nd H (fun c H => ?_) (fun c H => ?_)
  conv => whnf
  refine laws_eqPlantMarkS.l0_lp (l0 := l0) (l1 := l1) (k := k) H [] (fits_of ⟨.inl ⟨rfl, rfl⟩, trivial⟩ trivial fi_ trivial rfl) ?_
  intro k x5 hk H; rcases k with _ | k; exact none_elim H; rw [laws_eqPlantMarkS.l0] at H; conv => whnf
  refine cut_ 88 [(0, (sv_S_impl_PlantMark l0)), (1, (sv_S_impl_PlantMark l1)), (5, .int .i64 x5), (14, .bool (decide (x5 < (l0.length : Int))))] [] rfl ⟨.inl rfl, ⟨.inl rfl, ⟨.inl rfl, ⟨.inl rfl, trivial⟩⟩⟩⟩ trivial ?_
  conv => whnf
  refine br_d H (fun c H => ?_) (fun c H => ?_)
  conv => whnf
  refine nd_ H (fun c H => ?_)
  conv => whnf
  refine Nd.mk nf_ ?_
  conv => whnf
  refine El.mk (rdm_en_S_impl_PlantMark _ _ nf_ nf_) ?_
  conv => whnf
  refine Nd.mk nf_ ?_
  conv => whnf
  refine nd_ H (fun c H => ?_)
  conv => whnf
  refine El.mk (rdm_en_S_impl_PlantMark _ _ nf_ nf_) ?_
  conv => whnf
  revert H; refine bind_elim (fun t117 A H => ?_)
  refine call_mk (laws_eqPlantMark.ac A) (avAL_cons (avA_agg (avL_cons (av_shut' rfl) (avL_cons (av_shut' rfl) (avL_nil)))) (avAL_cons (avA_agg (avL_cons (av_shut' rfl) (avL_cons (av_shut' rfl) (avL_nil)))) (avAL_nil))) (Or.inl rfl) rfl rfl (Nat.le_of_ble_eq_true rfl) ?_
  conv => whnf
  refine cut_ 168 [(0, (sv_S_impl_PlantMark l0)), (1, (sv_S_impl_PlantMark l1)), (5, .int .i64 x5), (26, .bool (!t117))] [] rfl ⟨.inl rfl, ⟨.inl rfl, ⟨.inl rfl, ⟨.inl rfl, trivial⟩⟩⟩⟩ trivial ?_
  conv => whnf
  refine br_nt H (fun c H => ?_) (fun c H => ?_)
  conv => whnf
  exact ⟨(k, wrap64 (x5 + 1)), [], ⟨H, lt_⟩, lt_, (fits_of ⟨.inl ⟨rfl, rfl⟩, trivial⟩ trivial fi_ trivial rfl)⟩
  conv => whnf
  injection H with H; subst H
  exact ret_fz [] (rtA_eq rfl)
  conv => whnf
  injection H with H; subst H
  exact ret_fz [] (rtA_eq rfl)
  conv => whnf
  injection H with H; subst H
  exact ret_fz [] (rtA_eq rfl)
theorem laws_eqPlantIndex.ac {k : Nat} {a0_0 : List ByteArray} {a0_1 : List S_impl_PlantMark} {a1_0 : List ByteArray} {a1_1 : List S_impl_PlantMark} {r : Bool} (H : laws_eqPlantIndex.f k a0_0 a0_1 a1_0 a1_1 = some r) : ACalls Try.prog G 43 [] [.agg [(sv_str a0_0), (sv_S_impl_PlantMark a0_1)], .agg [(sv_str a1_0), (sv_S_impl_PlantMark a1_1)]] [] (.bool r) := by
  refine acalls_of tok hP Try.func43 rfl (by kernel_rfl) [.tmp 4] rfl (by kernel_rfl) (Nat.le_of_ble_eq_true rfl) (.l .n (.l (.l .n (.l (.c .n .n) .n)) (.l (.c .n .n) .n))) rfl ?_
  unfold laws_eqPlantIndex.f at H
  conv => whnf
  revert H; refine bind_elim (fun t120 A H => ?_)
  refine call_mk (laws_eqStringS.ac A) (avAL_cons (avA_shut' rfl) (avAL_cons (avA_shut' rfl) (avAL_nil))) (Or.inl rfl) rfl rfl (Nat.le_of_ble_eq_true rfl) ?_
  conv => whnf
  refine br_nt H (fun c H => ?_) (fun c H => ?_)
  conv => whnf
  revert H; refine bind_elim (fun t123 A H => ?_)
  refine call_mk (laws_eqPlantMarkS.ac A) (avAL_cons (avA_shut' rfl) (avAL_cons (avA_shut' rfl) (avAL_nil))) (Or.inl rfl) rfl rfl (Nat.le_of_ble_eq_true rfl) ?_
  conv => whnf
  refine cut_ 120 [(16, .bool (!t123))] [] rfl ⟨.inl rfl, trivial⟩ trivial ?_
  conv => whnf
  refine br_nt H (fun c H => ?_) (fun c H => ?_)
  conv => whnf
  injection H with H; subst H
  exact ret_fz [] (rtA_eq rfl)
  conv => whnf
  injection H with H; subst H
  exact ret_fz [] (rtA_eq rfl)
  conv => whnf
  refine cut_ 80 [(4, .bool false)] [] rfl ⟨.inl rfl, trivial⟩ trivial ?_
  conv => whnf
  injection H with H; subst H
  exact ret_fz [] (rtA_eq rfl)
theorem laws_FnExactPlantJoined.ac {k : Nat} {a0_0 : List ByteArray} {a0_1 : List S_laws_PlantMark} {a1 : ByteArray} {a2 : ByteArray} {r : Bool} (H : laws_FnExactPlantJoined.f k a0_0 a0_1 a1 a2 = some r) : ACalls Try.prog G 9 [] [.agg [(sv_str a0_0), (sv_S_laws_PlantMark a0_1)], .str a1, .str a2] [] (.bool r) := by
  refine acalls_of tok hP Try.func9 rfl (by kernel_rfl) [.tmp 6] rfl (by kernel_rfl) (Nat.le_of_ble_eq_true rfl) (.l .n (.l .n (.l .n (.l .n (.c .n (.l .n (.l .n (.c .n (.l .n (.l .n (.l (.c .n .n) .n))))))))))) rfl ?_
  unfold laws_FnExactPlantJoined.f at H
  conv => whnf
  refine br_d H (fun c H => ?_) (fun c H => ?_)
  conv => whnf
  injection H with H; subst H
  exact ret_fz [] (rtA_eq rfl)
  conv => whnf
  refine br_d H (fun c H => ?_) (fun c H => ?_)
  conv => whnf
  injection H with H; subst H
  exact ret_fz [] (rtA_eq rfl)
  conv => whnf
  revert H; refine bind_elim (fun t125 A H => ?_)
  refine call_mk (laws_szPlantIndex.ac A) (avAL_cons (avA_agg (avL_cons (av_shut' rfl) (avL_cons (av_shut' rfl) (avL_nil)))) (avAL_cons (avA_shut' rfl) (avAL_nil))) (Or.inl rfl) rfl rfl (Nat.le_of_ble_eq_true rfl) ?_
  conv => whnf
  refine cut_ 104 [(1, .str a1), (2, .str a2), (3, .bp 0 0), (7, .int .i64 t125)] [(0, .box [(sv_str a0_0), (sv_S_laws_PlantMark a0_1)])] rfl ⟨.inl rfl, ⟨.inl rfl, ⟨.inl rfl, ⟨.inl rfl, trivial⟩⟩⟩⟩ ⟨rfl, trivial⟩ ?_
  conv => whnf
  refine br_d H (fun c H => ?_) (fun c H => ?_)
  conv => whnf
  injection H with H; subst H
  exact ret_fz [] (rtA_eq rfl)
  conv => whnf
  revert H; refine bind_elim (fun t128 A H => ?_)
  refine call_mk (laws_toPlantIndex.ac A) (avAL_cons (avA_agg (avL_cons (av_shut' rfl) (avL_cons (av_shut' rfl) (avL_nil)))) (avAL_nil)) (Or.inl rfl) rfl rfl (Nat.le_of_ble_eq_true rfl) ?_
  conv => whnf
  revert H; refine bind_elim (fun t129 A H => ?_)
  refine call_mk (spec_PlantJoined.ac A) (avAL_cons (avA_agg (avL_cons (av_shut' rfl) (avL_cons (av_shut' rfl) (avL_nil)))) (avAL_cons (avA_shut' rfl) (avAL_cons (avA_shut' rfl) (avAL_nil)))) (Or.inl rfl) rfl rfl (Nat.le_of_ble_eq_true rfl) ?_
  conv => whnf
  revert H; refine bind_elim (fun t131 A H => ?_)
  refine call_mk (laws_toPlantIndex.ac A) (avAL_cons (avA_agg (avL_cons (av_shut' rfl) (avL_cons (av_shut' rfl) (avL_nil)))) (avAL_nil)) (Or.inl rfl) rfl rfl (Nat.le_of_ble_eq_true rfl) ?_
  conv => whnf
  refine cut_ 200 [(1, .str a1), (2, .str a2), (3, .bp 0 0), (8, .bool t129), (9, .bp 184 0)] [(0, .box [(sv_str a0_0), (sv_S_laws_PlantMark a0_1)]), (184, .box [(sv_str t131.1), (sv_S_impl_PlantMark t131.2)])] rfl ⟨.inl rfl, ⟨.inl rfl, ⟨.inl rfl, ⟨.inl rfl, ⟨.inl rfl, trivial⟩⟩⟩⟩⟩ ⟨rfl, ⟨rfl, trivial⟩⟩ ?_
  conv => whnf
  revert H; refine bind_elim (fun t133 A H => ?_)
  refine call_mk (impl_PlantJoined.ac A) (avAL_cons (avA_agg (avL_cons (av_shut' rfl) (avL_cons (av_shut' rfl) (avL_nil)))) (avAL_cons (avA_shut' rfl) (avAL_cons (avA_shut' rfl) (avAL_nil)))) (Or.inl rfl) rfl rfl (Nat.le_of_ble_eq_true rfl) ?_
  conv => whnf
  refine br_t H (fun c H => ?_) (fun c H => ?_)
  conv => whnf
  injection H with H; subst H
  exact ret_fz [] (rtA_eq rfl)
  conv => whnf
  revert H; refine bind_elim (fun t138 A H => ?_)
  refine call_mk (laws_toPlantIndex.ac A) (avAL_cons (avA_agg (avL_cons (av_shut' rfl) (avL_cons (av_shut' rfl) (avL_nil)))) (avAL_nil)) (Or.inl rfl) rfl rfl (Nat.le_of_ble_eq_true rfl) ?_
  conv => whnf
  revert H; refine bind_elim (fun t139 A H => ?_)
  refine call_mk (laws_eqPlantIndex.ac A) (avAL_cons (avA_agg (avL_cons (av_shut' rfl) (avL_cons (av_shut' rfl) (avL_nil)))) (avAL_cons (avA_agg (avL_cons (av_shut' rfl) (avL_cons (av_shut' rfl) (avL_nil)))) (avAL_nil))) (Or.inl rfl) rfl rfl (Nat.le_of_ble_eq_true rfl) ?_
  conv => whnf
  refine cut_ 304 [(40, .bool (!t139))] [] rfl ⟨.inl rfl, trivial⟩ trivial ?_
  conv => whnf
  refine br_nt H (fun c H => ?_) (fun c H => ?_)
  conv => whnf
  injection H with H; subst H
  exact ret_fz [] (rtA_eq rfl)
  conv => whnf
  injection H with H; subst H
  exact ret_fz [] (rtA_eq rfl)

end Go.Proofs.Ytodeegjblililaa.PJ

