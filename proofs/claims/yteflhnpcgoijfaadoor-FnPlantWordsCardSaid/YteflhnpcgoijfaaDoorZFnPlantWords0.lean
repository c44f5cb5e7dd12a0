import Derived.Test.YteflhnpcgoijfaaDoorY1
import Derived.Shelf.Lay
import Derived.Test.YteflhnpcgoijfaaDoorProg
import Derived.KernelRfl
set_option linter.unusedVariables false
namespace Go.Proofs.YteflhnpcgoijfaaDoor.FW
open Go Go.RowKit Go.Aw
def spec_l1Open.f (l0 : List Int) : Option ((List Int) × Int) := (if (l0.length : Int) > 2000 then (if 2000 ≤ (l0.length : Int) then (some ((l0.take (2000 : Int).toNat), 0)) else none) else (some (l0, 0)))
def spec_l1Rd_pick.f (a0_0 : List Int) (a0_1 : Int) (a1 : Int) : Option (Int × (List Int) × Int) := (if a1 < 1 then (some (0, a0_0, wrap64 (a0_1 + 1))) else (if (a0_0.length : Int) = 0 then (some (0, a0_0, wrap64 (a0_1 + 1))) else (if (wrap64 ((wrap64 (a0_1 + 1)) - 1)) < (a0_0.length : Int) then (if 0 ≤ (wrap64 ((wrap64 (a0_1 + 1)) - 1)) then (if a1 ≠ 0 then (some (Int.tmod (wrap64 (rd a0_0 (wrap64 ((wrap64 (a0_1 + 1)) - 1)))) a1, a0_0, wrap64 (a0_1 + 1))) else none) else none) else (if (a0_0.length : Int) ≠ 0 then (if 0 ≤ (Int.tmod (wrap64 ((wrap64 (a0_1 + 1)) - 1)) (a0_0.length : Int)) then (if (Int.tmod (wrap64 ((wrap64 (a0_1 + 1)) - 1)) (a0_0.length : Int)) < (a0_0.length : Int) then (if 0 ≤ (Int.tmod (wrap64 ((wrap64 ((wrap64 ((wrap64 (a0_1 + 1)) - 1)) * 7)) + 3)) (a0_0.length : Int)) then (if (Int.tmod (wrap64 ((wrap64 ((wrap64 ((wrap64 (a0_1 + 1)) - 1)) * 7)) + 3)) (a0_0.length : Int)) < (a0_0.length : Int) then (if a1 ≠ 0 then (some (Int.tmod (xorI .i64 (wrap64 ((wrap64 ((wrap64 ((wrap64 ((wrap64 (rd a0_0 (Int.tmod (wrap64 ((wrap64 (a0_1 + 1)) - 1)) (a0_0.length : Int)))) * 131)) + (wrap64 ((wrap64 (rd a0_0 (Int.tmod (wrap64 ((wrap64 ((wrap64 ((wrap64 (a0_1 + 1)) - 1)) * 7)) + 3)) (a0_0.length : Int)))) * 1117)))) + (wrap64 ((wrap64 ((wrap64 (a0_1 + 1)) - 1)) * 29)))) + (wrap64 ((wrap64 (Int.tdiv (wrap64 ((wrap64 (a0_1 + 1)) - 1)) (a0_0.length : Int))) * 53)))) (wrap64 (Int.tdiv (wrap64 ((wrap64 ((wrap64 ((wrap64 ((wrap64 (rd a0_0 (Int.tmod (wrap64 ((wrap64 (a0_1 + 1)) - 1)) (a0_0.length : Int)))) * 131)) + (wrap64 ((wrap64 (rd a0_0 (Int.tmod (wrap64 ((wrap64 ((wrap64 ((wrap64 (a0_1 + 1)) - 1)) * 7)) + 3)) (a0_0.length : Int)))) * 1117)))) + (wrap64 ((wrap64 ((wrap64 (a0_1 + 1)) - 1)) * 29)))) + (wrap64 ((wrap64 (Int.tdiv (wrap64 ((wrap64 (a0_1 + 1)) - 1)) (a0_0.length : Int))) * 53)))) 64))) a1, a0_0, wrap64 (a0_1 + 1))) else none) else none) else none) else none) else none) else none))))
def spec_l1Rd_of.f (a0_0 : List Int) (a0_1 : Int) (l1 : List ByteArray) : Option (ByteArray × (List Int) × Int) := ((spec_l1Rd_pick.f a0_0 a0_1 (l1.length : Int)).bind fun t11 => (if 0 ≤ t11.1 then (if t11.1 < (l1.length : Int) then (some (rdOf ByteArray.empty l1 t11.1, t11.2.1, t11.2.2)) else none) else none))
def spec_l1Many.l0 : Nat → ByteArray → Int → ByteArray → Option (ByteArray)
  | 0, _, _, _ => none
  | k + 1, x0, x1, x5 => (if x1 > 0 then (if (Int.tmod x1 2) = 1 then (if ((x5.size + x0.size : Nat) : Int) ≤ 9223372036854775807 then (if ((x0.size + x0.size : Nat) : Int) ≤ 9223372036854775807 then (spec_l1Many.l0 k (x0 ++ x0) (wrap64 (Int.tdiv x1 2)) (x5 ++ x0)) else none) else none) else (if ((x0.size + x0.size : Nat) : Int) ≤ 9223372036854775807 then (spec_l1Many.l0 k (x0 ++ x0) (wrap64 (Int.tdiv x1 2)) x5) else none)) else (some x5))
def spec_l1Many.f (k : Nat) (a0 : ByteArray) (a1 : Int) : Option (ByteArray) := (spec_l1Many.l0 k a0 a1 (⟨#[]⟩ : ByteArray))
mutual
def spec_DrawPlantWords.j0 : Nat → List Int → ByteArray → Int → List Int → Int → Option (ByteArray)
  | 0, _, _, _, _, _ => none
  | k + 1, l0, x4_1, x5, x1016000_1, x1016001_1 => ((spec_l1Rd_pick.f x1016000_1 x1016001_1 3).bind fun t113 => ((spec_l1Rd_pick.f t113.2.1 t113.2.2 2).bind fun t114 => ((spec_l1Many.f k (⟨#[32]⟩ : ByteArray) (wrap64 (t113.1 + t114.1))).bind fun t115 => (if ((x4_1.size + t115.size : Nat) : Int) ≤ 9223372036854775807 then (spec_DrawPlantWords.l0 k l0 (x4_1 ++ t115) (wrap64 (x5 - 1)) t114.2.1 t114.2.2) else none))))
def spec_DrawPlantWords.l0 : Nat → List Int → ByteArray → Int → List Int → Int → Option (ByteArray)
  | 0, _, _, _, _, _ => none
  | k + 1, l0, x4, x5, x1016000, x1016001 => (if x5 > 0 then ((spec_l1Rd_pick.f x1016000 x1016001 24).bind fun t116 => (if t116.1 = 0 then (if ((x4.size + (⟨#[35]⟩ : ByteArray).size : Nat) : Int) ≤ 9223372036854775807 then (spec_DrawPlantWords.j0 k l0 (x4 ++ (⟨#[35]⟩ : ByteArray)) x5 t116.2.1 t116.2.2) else none) else (if t116.1 = 1 then ((spec_l1Rd_of.f t116.2.1 t116.2.2 ([(⟨#[127]⟩ : ByteArray), (⟨#[9]⟩ : ByteArray), (⟨#[0]⟩ : ByteArray), (⟨#[195, 169]⟩ : ByteArray)] : List ByteArray)).bind fun t117 => (if ((x4.size + t117.1.size : Nat) : Int) ≤ 9223372036854775807 then (spec_DrawPlantWords.j0 k l0 (x4 ++ t117.1) x5 t117.2.1 t117.2.2) else none)) else (if t116.1 = 2 then ((spec_l1Rd_pick.f t116.2.1 t116.2.2 2).bind fun t118 => ((spec_l1Many.f k (⟨#[119]⟩ : ByteArray) (wrap64 (24 + t118.1))).bind fun t119 => (if ((x4.size + t119.size : Nat) : Int) ≤ 9223372036854775807 then (spec_DrawPlantWords.j0 k l0 (x4 ++ t119) x5 t118.2.1 t118.2.2) else none))) else ((spec_l1Rd_of.f t116.2.1 t116.2.2 ([(⟨#[118, 97, 108, 118, 101]⟩ : ByteArray), (⟨#[97]⟩ : ByteArray), (⟨#[49, 50]⟩ : ByteArray), (⟨#[33]⟩ : ByteArray), (⟨#[126]⟩ : ByteArray)] : List ByteArray)).bind fun t120 => (if ((x4.size + t120.1.size : Nat) : Int) ≤ 9223372036854775807 then (spec_DrawPlantWords.j0 k l0 (x4 ++ t120.1) x5 t120.2.1 t120.2.2) else none)))))) else (some x4))
end
def spec_DrawPlantWords.f (k : Nat) (l0 : List Int) : Option (ByteArray) := ((spec_l1Open.f l0).bind fun t46 => ((spec_l1Rd_pick.f t46.1 t46.2 19).bind fun t98 => (spec_DrawPlantWords.l0 k l0 (⟨#[]⟩ : ByteArray) t98.1 t98.2.1 t98.2.2)))
def strings_Cut.f (s0 s1 : ByteArray) : Option (ByteArray × ByteArray × Bool) := cutSf s0 s1
def strings_Split.f (s0 s1 : ByteArray) : Option (List ByteArray) := splitSf s0 s1
def impl_cutWords.l1 : Nat → List ByteArray → Int → List ByteArray → Option ((List ByteArray) × Bool)
  | 0, _, _, _ => none
  | k + 1, x5, x33, t129 => (if x33 < (t129.length : Int) then (if 0 ≤ x33 then (if (rdOf ByteArray.empty t129 x33).toList = (⟨#[]⟩ : ByteArray).toList then (impl_cutWords.l1 k x5 (wrap64 (x33 + 1)) t129) else (if ((rdOf ByteArray.empty t129 x33).size : Int) > 24 then (some ([], false)) else (if (x5.length + 1) * 16 ≤ 140737488355328 then (impl_cutWords.l1 k (x5 ++ ([rdOf ByteArray.empty t129 x33] : List ByteArray)) (wrap64 (x33 + 1)) t129) else none))) else none) else (some (x5, true)))
def impl_cutWords.l0 : Nat → Int → ByteArray × ByteArray × Bool → Option ((List ByteArray) × Bool)
  | 0, _, _ => none
  | k + 1, x16, t126 => (if x16 < (t126.1.size : Int) then (if 0 ≤ x16 then (if (bt t126.1 x16) < 32 then (some ([], false)) else (if (bt t126.1 x16) > 126 then (some ([], false)) else (impl_cutWords.l0 k (wrap64 (x16 + 1)) t126))) else none) else ((strings_Split.f t126.1 (⟨#[32]⟩ : ByteArray)).bind fun t129 => (impl_cutWords.l1 k [] 0 t129)))
def impl_cutWords.f (k : Nat) (a0 : ByteArray) : Option ((List ByteArray) × Bool) := ((strings_Cut.f a0 (⟨#[35]⟩ : ByteArray)).bind fun t126 => (impl_cutWords.l0 k 0 t126))
def impl_PlantWords.f (k : Nat) (a0 : ByteArray) : Option ((List ByteArray) × Bool) := ((impl_cutWords.f k a0).bind fun t131 => (if t131.2 = true then (if (t131.1.length : Int) > 16 then (some ([], false)) else (some (t131.1, true))) else (some ([], false))))
def spec_l1Bare.l0 : Nat → ByteArray → Int → Option (ByteArray)
  | 0, _, _ => none
  | k + 1, a0, x3 => (if x3 < (a0.size : Int) then (if 0 ≤ x3 then (if (bt a0 x3) = 35 then (if x3 ≤ (a0.size : Int) then (some (a0.extract 0 (x3).toNat)) else none) else (spec_l1Bare.l0 k a0 (wrap64 (x3 + 1)))) else none) else (some a0))
def spec_l1Bare.f (k : Nat) (a0 : ByteArray) : Option (ByteArray) := (spec_l1Bare.l0 k a0 0)
def spec_l1In.f (a0 : Int) (a1 : Int) (a2 : Int) : Option (Bool) := (if a0 ≥ a1 then (some (decide (a0 ≤ a2))) else (some false))
def spec_PlantWords.l0 : Nat → List ByteArray → ByteArray → Int → ByteArray → Option ((List ByteArray) × Bool)
  | 0, _, _, _, _ => none
  | k + 1, x4, x5, x7, t147 => (if x7 < ((t147 ++ (⟨#[32]⟩ : ByteArray)).size : Int) then (if 0 ≤ x7 then (if (bt (t147 ++ (⟨#[32]⟩ : ByteArray)) x7) = 32 then (if x5.toList = (⟨#[]⟩ : ByteArray).toList then (spec_PlantWords.l0 k x4 x5 (wrap64 (x7 + 1)) t147) else (if (x4.length + 1) * 16 ≤ 140737488355328 then (spec_PlantWords.l0 k (x4 ++ ([x5] : List ByteArray)) (⟨#[]⟩ : ByteArray) (wrap64 (x7 + 1)) t147) else none)) else (if x7 ≤ (wrap64 (x7 + 1)) then (if (wrap64 (x7 + 1)) ≤ ((t147 ++ (⟨#[32]⟩ : ByteArray)).size : Int) then (if ((x5.size + ((t147 ++ (⟨#[32]⟩ : ByteArray)).extract (x7).toNat (wrap64 (x7 + 1)).toNat).size : Nat) : Int) ≤ 9223372036854775807 then ((spec_l1In.f (wrap64 (bt (t147 ++ (⟨#[32]⟩ : ByteArray)) x7)) 33 126).bind fun t153 => (if t153 = true then (if ((x5 ++ ((t147 ++ (⟨#[32]⟩ : ByteArray)).extract (x7).toNat (wrap64 (x7 + 1)).toNat)).size : Int) > 24 then (some (([] : List ByteArray), false)) else (spec_PlantWords.l0 k x4 (x5 ++ ((t147 ++ (⟨#[32]⟩ : ByteArray)).extract (x7).toNat (wrap64 (x7 + 1)).toNat)) (wrap64 (x7 + 1)) t147)) else (some (([] : List ByteArray), false)))) else none) else none) else none)) else none) else (if (x4.length : Int) > 16 then (some (([] : List ByteArray), false)) else (some (x4, true))))
def spec_PlantWords.f (k : Nat) (a0 : ByteArray) : Option ((List ByteArray) × Bool) := ((spec_l1Bare.f k a0).bind fun t147 => (if ((t147.size + (⟨#[32]⟩ : ByteArray).size : Nat) : Int) ≤ 9223372036854775807 then (spec_PlantWords.l0 k ([] : List ByteArray) (⟨#[]⟩ : ByteArray) 0 t147) else none))
def laws_wpTexts.l0 : Nat → List ByteArray → List ByteArray → Int → Option (Bool)
  | 0, _, _, _ => none
  | k + 1, l0, l1, x5 => (if x5 < (l0.length : Int) then (if 0 ≤ x5 then (if x5 < (l1.length : Int) then (if (rdOf ByteArray.empty l0 x5).toList = (rdOf ByteArray.empty l1 x5).toList then (laws_wpTexts.l0 k l0 l1 (wrap64 (x5 + 1))) else (some false)) else none) else none) else (some true))
def laws_wpTexts.f (k : Nat) (l0 : List ByteArray) (l1 : List ByteArray) : Option (Bool) := (if (l0.length : Int) = (l1.length : Int) then (laws_wpTexts.l0 k l0 l1 0) else (some false))
def laws_FnPlantWords.l0 : Nat → List Int → ByteArray → Int → ByteArray → (List ByteArray) × Bool → Option (Bool)
  | 0, _, _, _, _, _ => none
  | k + 1, l0, x8, x9, t161, t163 => (if x9 < (t163.1.length : Int) then (if ((x8.size + (⟨#[32]⟩ : ByteArray).size : Nat) : Int) ≤ 9223372036854775807 then (if 0 ≤ x9 then (if (((x8 ++ (⟨#[32]⟩ : ByteArray)).size + (rdOf ByteArray.empty t163.1 x9).size : Nat) : Int) ≤ 9223372036854775807 then (laws_FnPlantWords.l0 k l0 ((x8 ++ (⟨#[32]⟩ : ByteArray)) ++ (rdOf ByteArray.empty t163.1 x9)) (wrap64 (x9 + 1)) t161 t163) else none) else none) else none) else (if ((x8.size + (⟨#[32, 35, 32]⟩ : ByteArray).size : Nat) : Int) ≤ 9223372036854775807 then (if (((x8 ++ (⟨#[32, 35, 32]⟩ : ByteArray)).size + t161.size : Nat) : Int) ≤ 9223372036854775807 then ((impl_PlantWords.f k ((x8 ++ (⟨#[32, 35, 32]⟩ : ByteArray)) ++ t161)).bind fun t170 => (if t170.2 = true then ((laws_wpTexts.f k t170.1 t163.1).bind fun t172 => (some t172)) else (some false))) else none) else none))
def laws_FnPlantWords.f (k : Nat) (l0 : List Int) : Option (Bool) := (if (l0.length : Int) > 1048576 then (some true) else ((spec_DrawPlantWords.f k l0).bind fun t161 => ((impl_PlantWords.f k t161).bind fun t163 => ((spec_PlantWords.f k t161).bind fun t165 => (if (t163.2 != t165.2) = true then (some false) else ((laws_wpTexts.f k t163.1 t165.1).bind fun t168 => (if t168 = true then (laws_FnPlantWords.l0 k l0 (⟨#[]⟩ : ByteArray) 0 t161 t163) else (some false))))))))
end Go.Proofs.YteflhnpcgoijfaaDoor.FW
namespace Go.Proofs.YteflhnpcgoijfaaDoor.Pure
open Go Go.RowKit Go.Aw Go.Proofs.YteflhnpcgoijfaaDoor.FW
set_option linter.unusedVariables false
set_option linter.unusedSimpArgs false
/-! ### general words -/
theorem ev_pos {α : Type} {c : Prop} {d : Decidable c} {g f : Nat → Option α} {r : α} (h : c) (k : Ev g r) : Ev (fun n => @ite _ c d (g n) (f n)) r := Ev.congr (fun _ => if_pos h) k
theorem ev_neg {α : Type} {c : Prop} {d : Decidable c} {g f : Nat → Option α} {r : α} (h : ¬ c) (k : Ev f r) : Ev (fun n => @ite _ c d (g n) (f n)) r := Ev.congr (fun _ => if_neg h) k
theorem ev_ret {α : Type} {a r : α} (h : a = r) : Ev (fun _ => some a) r := h ▸ Ev.now a
theorem ev_let {α β : Type} {g : Option α} {a : α} {r : β} {f : Nat → α → Option β} (h : g = some a) (k : Ev (fun n => f n a) r) : Ev (fun n => g.bind (f n)) r := by
  subst h; exact k
theorem ev_eq {α : Type} {g : Nat → Option α} {a r : α} (k : Ev g a) (h : a = r) : Ev g r := h ▸ k
theorem ev_split {α : Type} {c : Prop} {d : Decidable c} {g f : Nat → Option α} {r : α} (h : c → Ev g r) (k : ¬ c → Ev f r) : Ev (fun n => @ite _ c d (g n) (f n)) r := by
  by_cases q : c
  · exact ev_pos q (h q)
  · exact ev_neg q (k q)
/-- a value that is called on -/
theorem ev_of {α β : Type} {g : Nat → Option α} {a : α} {r : β} {f : Nat → α → Option β} (h : Ev g a) (k : Ev (fun n => f n a) r) : Ev (fun n => (g n).bind (f n)) r := Ev.bind h k
theorem ex_ret {α : Type} {a : α} : ∃ q, Ev (fun _ => some a) q := ⟨a, Ev.now a⟩
theorem ex_ite {α : Type} {c : Prop} {d : Decidable c} {g f : Nat → Option α} (h : ∃ q, Ev g q) (k : ∃ q, Ev f q) : ∃ q, Ev (fun n => @ite _ c d (g n) (f n)) q := by
  by_cases q : c
  · exact h.imp fun _ e => ev_pos q e
  · exact k.imp fun _ e => ev_neg q e
theorem ex_pos {α : Type} {c : Prop} {d : Decidable c} {g f : Nat → Option α} (h : c) (k : ∃ q, Ev g q) : ∃ q, Ev (fun n => @ite _ c d (g n) (f n)) q := k.imp fun _ e => ev_pos h e
theorem ex_bind {α β : Type} {g : Nat → Option α} {f : Nat → α → Option β} (h : ∃ a, Ev g a) (k : ∀ a, ∃ q, Ev (fun n => f n a) q) : ∃ q, Ev (fun n => (g n).bind (f n)) q := by
  obtain ⟨a, h⟩ := h
  exact (k a).imp fun _ e => Ev.bind h e
theorem ex_step {α : Type} {g f : Nat → Option α} (h : ∀ k, g (k + 1) = f k) (k : ∃ q, Ev f q) : ∃ q, Ev g q := k.imp fun _ e => Ev.step h e
theorem w64 {x : Int} (h0 : -9223372036854775808 ≤ x) (h1 : x ≤ 9223372036854775807) : wrap64 x = x := by unfold wrap64; omega
theorem wsucc {i n : Nat} (h : i < n) (hn : n ≤ 9223372036854775807) : wrap64 ((i : Int) + 1) = ((i + 1 : Nat) : Int) := by unfold wrap64; omega
theorem wplus {a : Int} (h0 : 0 ≤ a) (h1 : a ≤ 4611686018427387904) : wrap64 (a + 1) = a + 1 := by unfold wrap64; omega
theorem pre64 {i : Nat} (h : ¬ i = 0) (hi : i ≤ 9223372036854775807) : wrap64 ((i : Int) - 1) = ((i - 1 : Nat) : Int) := by unfold wrap64; omega
theorem getD_eq {α : Type} (d : α) (xs : List α) (i : Nat) (h : i < xs.length) : xs.getD i d = xs[i] := by
  rw [List.getD_eq_getElem?_getD, List.getElem?_eq_getElem h]; rfl
theorem mem_getD {α : Type} (d : α) (xs : List α) (i : Nat) (h : i < xs.length) : xs.getD i d ∈ xs := by
  rw [getD_eq d xs i h]; exact List.getElem_mem h
theorem getD_set {α : Type} (d : α) (xs : List α) (i j : Nat) (v : α) (h : i < xs.length) : (xs.set i v).getD j d = if j = i then v else xs.getD j d := by
  rw [List.getD_eq_getElem?_getD, List.getD_eq_getElem?_getD, List.getElem?_set]
  by_cases e : i = j
  · subst e; simp [h]
  · rw [if_neg e, if_neg (fun q => e q.symm)]
theorem fill_end {α : Type} (d : α) (z y : List α) (hl : y.length = z.length) (h : ∀ j, j < z.length → y.getD j d = z.getD j d) : y = z := by
  apply List.ext_getElem hl
  intro j h1 h2
  have e := h j h2
  rwa [getD_eq d y j h1, getD_eq d z j h2] at e
theorem fill_step {α : Type} (d : α) (z y : List α) (i : Nat) (hl : y.length = z.length) (hi : i < z.length) (h : ∀ j, j < i → y.getD j d = z.getD j d) (v : α) (hv : v = z.getD i d) :
    (y.set i v).length = z.length ∧ ∀ j, j < i + 1 → (y.set i v).getD j d = z.getD j d := by
  refine ⟨by simpa using hl, fun j hj => ?_⟩
  rw [getD_set d y i j v (by omega)]
  by_cases e : j = i
  · rw [if_pos e, e, hv]
  · rw [if_neg e]; exact h j (by omega)
theorem rdOf_nat {α : Type} (d : α) (xs : List α) (i : Nat) : rdOf d xs (i : Int) = xs.getD i d := by simp [rdOf]
theorem rd_nat (xs : List Int) (i : Nat) : rd xs (i : Int) = xs.getD i 0 := by simp [rd]
theorem map_getD {α β : Type} (e : β) (d : α) (f : α → β) (l : List α) (i : Nat) (h : i < l.length) : (l.map f).getD i e = f (l.getD i d) := by
  rw [getD_eq e _ i (by simpa using h), getD_eq d l i h, List.getElem_map]
/-- a list told from its end: what is left from place i on -/
theorem loopL {α : Type} (d : α) (l : List α) {P : Nat → List α → Prop} (h0 : P l.length []) (hs : ∀ i x r, i < l.length → l.getD i d = x → x ∈ l → l.drop (i + 1) = r → P (i + 1) r → P i (x :: r)) : P 0 l := by
  have key : ∀ (n i : Nat), i + n = l.length → P i (l.drop i) := fun n => by
    induction n with
    | zero =>
      intro i hi
      have e : i = l.length := by omega
      subst e; rw [List.drop_length]; exact h0
    | succ n ih =>
      intro i hi
      have hlt : i < l.length := by omega
      have e : l.drop i = l.getD i d :: l.drop (i + 1) := by rw [List.drop_eq_getElem_cons hlt, getD_eq d l i hlt]
      rw [e]
      exact hs i _ _ hlt rfl (mem_getD d l i hlt) rfl (ih (i + 1) (by omega))
  simpa using key l.length 0 (by omega)
/-- the element ahead of place i -/
def ahead {α : Type} (d : α) (l : List α) (i : Nat) : Option α := if i = 0 then none else some (l.getD (i - 1) d)
theorem ahead_zero {α : Type} (d : α) (l : List α) : ahead d l 0 = none := rfl
theorem ahead_succ {α : Type} (d : α) (l : List α) (i : Nat) : ahead d l (i + 1) = some (l.getD i d) := by simp [ahead]
theorem ahead_pos {α : Type} (d : α) (l : List α) (i : Nat) (h : ¬ i = 0) : ahead d l i = some (l.getD (i - 1) d) := if_neg h
/-! ### the order of bytes -/
theorem bl_irr : ∀ x : List UInt8, Op.bytesLess x x = false
  | [] => rfl
  | a :: x => by simp [Op.bytesLess, bl_irr x]
theorem bl_asym : ∀ x y : List UInt8, Op.bytesLess x y = true → Op.bytesLess y x = false
  | [], [], _ => rfl
  | [], _ :: _, _ => rfl
  | _ :: _, [], h => by simp [Op.bytesLess] at h
  | a :: x, b :: y, h => by
    simp only [Op.bytesLess, Bool.or_eq_true, Bool.and_eq_true, decide_eq_true_eq, beq_iff_eq] at h
    simp only [Op.bytesLess, Bool.or_eq_false_iff, Bool.and_eq_false_iff, decide_eq_false_iff_not, beq_eq_false_iff_ne]
    rcases h with h | ⟨rfl, h⟩
    · exact ⟨UInt8.lt_asymm h, .inl (fun e => by subst e; exact UInt8.lt_irrefl _ h)⟩
    · exact ⟨UInt8.lt_irrefl _, .inr (bl_asym x y h)⟩
theorem bl_tri : ∀ x y : List UInt8, Op.bytesLess x y = true ∨ x = y ∨ Op.bytesLess y x = true
  | [], [] => .inr (.inl rfl)
  | [], _ :: _ => .inl rfl
  | _ :: _, [] => .inr (.inr rfl)
  | a :: x, b :: y => by
    simp only [Op.bytesLess, Bool.or_eq_true, Bool.and_eq_true, decide_eq_true_eq, beq_iff_eq, List.cons.injEq]
    rcases UInt8.lt_or_lt_of_ne (a := a) (b := b) |> fun f => (Classical.em (a = b)).imp id f with rfl | h | h
    · rcases bl_tri x y with q | rfl | q
      · exact .inl (.inr ⟨rfl, q⟩)
      · exact .inr (.inl ⟨rfl, rfl⟩)
      · exact .inr (.inr (.inr ⟨rfl, q⟩))
    · exact .inl (.inl h)
    · exact .inr (.inr (.inl h))
theorem bl_trans : ∀ x y z : List UInt8, Op.bytesLess x y = true → Op.bytesLess y z = true → Op.bytesLess x z = true
  | [], _, _ :: _, _, _ => rfl
  | [], [], [], h, _ => h
  | [], _ :: _, [], _, h => by simp [Op.bytesLess] at h
  | _ :: _, [], _, h, _ => by simp [Op.bytesLess] at h
  | _ :: _, _ :: _, [], _, h => by simp [Op.bytesLess] at h
  | a :: x, b :: y, c :: z, h, k => by
    simp only [Op.bytesLess, Bool.or_eq_true, Bool.and_eq_true, decide_eq_true_eq, beq_iff_eq] at h k ⊢
    rcases h with h | ⟨rfl, h⟩
    · rcases k with k | ⟨rfl, k⟩
      · exact .inl (UInt8.lt_trans h k)
      · exact .inl h
    · rcases k with k | ⟨rfl, k⟩
      · exact .inl k
      · exact .inr ⟨rfl, bl_trans x y z h k⟩
theorem ba_ext {a b : ByteArray} (h : a.toList = b.toList) : a = b := by
  apply ByteArray.ext
  apply Array.ext'
  simpa [ByteArray.toList_eq] using h
theorem ba_iff {a b : ByteArray} : a.toList = b.toList ↔ a = b := ⟨ba_ext, fun h => h ▸ rfl⟩
/-- a text ahead of another -/
def lt (a b : ByteArray) : Bool := Op.bytesLess a.toList b.toList
theorem lt_irr (a : ByteArray) : lt a a = false := bl_irr _
theorem lt_asym {a b : ByteArray} (h : lt a b = true) : lt b a = false := bl_asym _ _ h
theorem lt_trans {a b c : ByteArray} (h : lt a b = true) (k : lt b c = true) : lt a c = true := bl_trans _ _ _ h k
theorem lt_tri (a b : ByteArray) : lt a b = true ∨ a = b ∨ lt b a = true := (bl_tri a.toList b.toList).imp id (·.imp ba_ext id)
theorem lt_ne {a b : ByteArray} (h : lt a b = true) : a ≠ b := fun e => by rw [e, lt_irr] at h; cases h
/-- pair by pair: the first, then the second -/
def befB (a0 a1 b0 b1 : ByteArray) : Bool := lt a0 b0 || (decide (a0 = b0) && lt a1 b1)
/-! ### names -/
theorem ev_b {α : Type} {b : Bool} {g f : Nat → Option α} {r : α} (h : b = true → Ev g r) (k : b = false → Ev f r) : Ev (fun n => if b = true then g n else f n) r := by
  cases b
  · exact ev_neg (by simp) (k rfl)
  · exact ev_pos rfl (h rfl)
/-- a yes or no that is asked -/
theorem ev_ask {α : Type} {o g f : Nat → Option α} {q : Nat → Option Bool} {b : Bool} {r : α} (hq : Ev q b) (h : b = true → Ev g r) (k : b = false → Ev f r) : Ev (fun n => (q n).bind fun t => if t = true then g n else f n) r := Ev.bind (f := fun n t => if t = true then g n else f n) hq (ev_b h k)
def okc (c : Int) : Bool := (decide (97 ≤ c) && decide (c ≤ 122)) || ((decide (48 ≤ c) && decide (c ≤ 57)) || decide (c = 45))
theorem okc_t {c : Int} (h : 97 ≤ c ∧ c ≤ 122 ∨ 48 ≤ c ∧ c ≤ 57 ∨ c = 45) : okc c = true := by simp [okc]; omega
theorem okc_f {c : Int} (h : ¬ (97 ≤ c ∧ c ≤ 122 ∨ 48 ≤ c ∧ c ≤ 57 ∨ c = 45)) : okc c = false := by
  rw [← Bool.not_eq_true]; intro q; apply h; simp [okc] at q; omega
def allFrom (s : ByteArray) (i : Nat) : Bool := decide (∀ j, j < s.size → i ≤ j → okc (bt s (j : Int)) = true)
theorem allFrom_step (s : ByteArray) (i : Nat) (h : i < s.size) : allFrom s i = (okc (bt s (i : Int)) && allFrom s (i + 1)) := by
  unfold allFrom
  rw [Bool.eq_iff_iff, Bool.and_eq_true, decide_eq_true_iff, decide_eq_true_iff]
  refine ⟨fun q => ⟨q i h (Nat.le_refl _), fun j hj hi => q j hj (by omega)⟩, fun q j hj hi => ?_⟩
  by_cases e : j = i
  · rw [e]; exact q.1
  · exact q.2 j hj (by omega)
theorem allFrom_end (s : ByteArray) : allFrom s s.size = true := by
  unfold allFrom
  rw [decide_eq_true_iff]
  intro j hj hi; omega
def nameB (s : ByteArray) : Bool := decide (1 ≤ s.size ∧ s.size ≤ 8) && allFrom s 0
/-- a walk over the places of a text -/
theorem loopN (n : Nat) {P : Nat → Prop} (h0 : P n) (hs : ∀ i, i < n → P (i + 1) → P i) : P 0 := by
  have key : ∀ (m i : Nat), i + m = n → P i := fun m => by
    induction m with
    | zero => intro i hi; have e : i = n := by omega
              subst e; exact h0
    | succ m ih => intro i hi; exact hs i (by omega) (ih (i + 1) (by omega))
  exact key n 0 (by omega)
/-- each before the next -/
def chainB {α : Type} (p : α → α → Bool) : Option α → List α → Bool
  | _, [] => true
  | none, x :: r => chainB p (some x) r
  | some y, x :: r => p y x && chainB p (some x) r
def namesB (l : List ByteArray) : Bool := l.all nameB && chainB lt none l
def hasB (l : List ByteArray) (s : ByteArray) : Bool := l.any fun x => decide (x = s)
theorem hasB_iff {l : List ByteArray} {s : ByteArray} : hasB l s = true ↔ s ∈ l := by
  unfold hasB
  rw [List.any_eq_true]
  exact ⟨fun ⟨x, h, e⟩ => by simp at e; exact e ▸ h, fun h => ⟨s, h, by simp⟩⟩
def inB (a b c : Int) : Bool := decide (b ≤ a ∧ a ≤ c)
theorem inB_t {a b c : Int} (h : b ≤ a ∧ a ≤ c) : inB a b c = true := decide_eq_true h
theorem inB_f {a b c : Int} (h : ¬ (b ≤ a ∧ a ≤ c)) : inB a b c = false := decide_eq_false h
/-! ### bounds -/
theorem l2In_ev (a b c : Int) : Ev (fun _ => spec_l1In.f a b c) (inB a b c) := by
  unfold spec_l1In.f inB
  refine ev_split (fun h => ev_ret (decide_eq_decide.2 (by omega))) (fun h => ev_ret ?_)
  symm; apply decide_eq_false; omega
/-! ### texts, cut in pieces -/
def pcs (c : UInt8) : List UInt8 → List (List UInt8)
  | [] => [[]]
  | b :: l => if b = c then [] :: pcs c l else (b :: (pcs c l).headD []) :: (pcs c l).tail
theorem pcs_ne (c : UInt8) : ∀ l, pcs c l ≠ []
  | [] => by simp [pcs]
  | b :: l => by unfold pcs; split <;> simp
theorem index_hd (c : UInt8) (l : List UInt8) : Lib.index (c :: l) [c] = 0 := by simp [Lib.index, List.isPrefixOf]
theorem index_tl (b c : UInt8) (l : List UInt8) (h : b ≠ c) : Lib.index (b :: l) [c] = if Lib.index l [c] == -1 then -1 else Lib.index l [c] + 1 := by
  have h' : (c == b) = false := by simpa using fun e => h e.symm
  simp [Lib.index, List.isPrefixOf, h']
theorem splitK_pcs (c : UInt8) : ∀ s : List UInt8, Lib.splitK [c] 0 (Lib.count s [c]) s = pcs c s
  | [] => by rw [Lib.count_miss (by simp [Lib.index])]; rfl
  | b :: l => by
    have ih := splitK_pcs c l
    by_cases h : b = c
    · subst h
      rw [Lib.count_cons_eq, Nat.add_comm, Lib.splitK, index_hd, if_neg (by decide)]
      simp [pcs, ih]
    · rw [Lib.count_cons_ne b c l h]
      have hi := index_tl b c l h
      by_cases hm : Lib.index l [c] = -1
      · rw [Lib.count_miss hm] at ih ⊢
        simp only [Lib.splitK] at ih ⊢
        simp [pcs, h, ← ih]
      · have hge := Lib.index_ge l [c]
        obtain ⟨i, hi'⟩ : ∃ i : Nat, Lib.index l [c] = i := ⟨(Lib.index l [c]).toNat, by omega⟩
        rw [Lib.count_hit (by simp) hi', Nat.add_comm] at ih ⊢
        have e1 : ¬ (Lib.index l [c] == -1) = true := by simpa using hm
        have hi2 : Lib.index (b :: l) [c] = ((i + 1 : Nat) : Int) := by rw [hi, if_neg e1, hi']; omega
        have e2 : ¬ (Lib.index (b :: l) [c] == -1) = true := by
          intro e; have := beq_iff_eq.1 e; omega
        rw [Lib.splitK, if_neg e1, hi'] at ih
        rw [Lib.splitK, if_neg e2, hi2, pcs, if_neg h, ← ih]
        simp [Nat.add_assoc, Nat.add_comm]
        rw [show 1 + (i + 1) = (i + 1) + 1 by omega, List.drop_succ_cons]
def bareL (c : UInt8) : List UInt8 → List UInt8
  | [] => []
  | b :: l => if b = c then [] else b :: bareL c l
theorem cut_bare (c : UInt8) : ∀ s : List UInt8, (Lib.cut s [c]).1 = bareL c s
  | [] => by simp [Lib.cut, Lib.index, bareL]
  | b :: l => by
    have ih := cut_bare c l
    by_cases h : b = c
    · subst h
      simp [Lib.cut, index_hd, bareL]
    · have hi := index_tl b c l h
      have hge := Lib.index_ge l [c]
      by_cases hm : Lib.index l [c] = -1
      · have e : Lib.index (b :: l) [c] = -1 := by rw [hi, if_pos (by simpa using hm)]
        simp only [Lib.cut, hm, e, bareL, if_neg h] at ih ⊢
        simpa using ih
      · have e1 : ¬ (Lib.index l [c] == -1) = true := by simpa using hm
        have e : Lib.index (b :: l) [c] = Lib.index l [c] + 1 := by rw [hi, if_neg e1]
        have g0 : 0 ≤ Lib.index l [c] := by omega
        have g1 : 0 ≤ Lib.index l [c] + 1 := by omega
        simp only [Lib.cut, e, bareL, if_neg h, if_pos g0, if_pos g1] at ih ⊢
        rw [← ih, show (Lib.index l [c] + 1).toNat = (Lib.index l [c]).toNat + 1 by omega, List.take_succ_cons]
theorem splitS_map (s : ByteArray) (c : UInt8) : (splitS s ⟨#[c]⟩).map (fun x => x.data.toList) = pcs c s.data.toList := by
  unfold splitS
  rw [Lib.splitB_data]
  exact splitK_pcs c _
theorem cutS_bare (s : ByteArray) (c : UInt8) : (cutS s ⟨#[c]⟩).1.data.toList = bareL c s.data.toList := by
  unfold cutS
  exact cut_bare c _
/-! ### texts as lists of bytes -/
def mkB (l : List UInt8) : ByteArray := ⟨l.toArray⟩
theorem mkB_data (x : ByteArray) : mkB x.data.toList = x := by cases x; simp [mkB]
theorem data_mkB (l : List UInt8) : (mkB l).data.toList = l := by simp [mkB]
theorem mkB_size (l : List UInt8) : (mkB l).size = l.length := by show l.toArray.size = l.length; simp
theorem ba_len (s : ByteArray) : s.data.toList.length = s.size := by show s.data.toList.length = s.data.size; simp
theorem mkB_nil {l : List UInt8} : mkB l = (⟨#[]⟩ : ByteArray) ↔ l = [] := by
  constructor
  · intro h
    have := congrArg (fun x : ByteArray => x.data.toList) h
    simpa [mkB] using this
  · rintro rfl; rfl
theorem bt_list (s : ByteArray) (i : Nat) (h : i < s.size) : bt s (i : Int) = ((s.data.toList.getD i 0).toNat : Int) := by
  have h' : i < s.data.toList.length := by rw [ba_len]; exact h
  unfold bt
  rw [dif_pos (by simpa using h), getD_eq _ _ _ h']
  simp only [Int.toNat_natCast]
  rfl
theorem extract_one (s : ByteArray) (i : Nat) (h : i < s.size) : s.extract i (i + 1) = mkB [s.data.toList.getD i 0] := by
  have h' : i < s.data.toList.length := by rw [ba_len]; exact h
  apply ByteArray.ext
  apply Array.ext'
  rw [getD_eq _ _ _ h']
  simp only [ByteArray.data_extract, Array.toList_extract, mkB, List.extract_eq_take_drop]
  rw [show i + 1 - i = 1 by omega, List.drop_eq_getElem_cons h']
  simp
theorem extract_to (s : ByteArray) (i : Nat) : s.extract 0 i = mkB (s.data.toList.take i) := by
  apply ByteArray.ext
  apply Array.ext'
  simp [ByteArray.data_extract, mkB, List.extract_eq_take_drop]
theorem mkB_app (a b : List UInt8) : mkB a ++ mkB b = mkB (a ++ b) := by
  apply ByteArray.ext
  simp [ByteArray.data_append, mkB]
theorem u8_lt (b : UInt8) : b.toNat < 256 := b.toNat_lt
theorem bareL_len (c : UInt8) : ∀ l : List UInt8, (bareL c l).length ≤ l.length
  | [] => Nat.le_refl _
  | b :: l => by
    have := bareL_len c l
    unfold bareL
    split
    · simp
    · simp; omega
/-! ### the words of a line -/
def okW (b : UInt8) : Bool := decide (32 ≤ b.toNat ∧ b.toNat ≤ 126)
def wsp : List UInt8 → List UInt8 → List ByteArray → Option (List ByteArray)
  | [], _, out => some out
  | b :: l, cur, out => if b = 32 then (if cur = [] then wsp l cur out else wsp l [] (out ++ [mkB cur])) else if (33 ≤ b.toNat ∧ b.toNat ≤ 126) ∧ cur.length + 1 ≤ 24 then wsp l (cur ++ [b]) out else none
def goP : List (List UInt8) → List ByteArray → Option (List ByteArray)
  | [], out => some out
  | p :: ps, out => if p = [] then goP ps out else if p.length > 24 then none else goP ps (out ++ [mkB p])
theorem u8_32 {b : UInt8} : b = 32 ↔ b.toNat = 32 := ⟨fun h => by subst h; rfl, fun h => UInt8.toNat_inj.1 (by rw [h]; rfl)⟩
theorem u8_35 {b : UInt8} : b = 35 ↔ b.toNat = 35 := ⟨fun h => by subst h; rfl, fun h => UInt8.toNat_inj.1 (by rw [h]; rfl)⟩
theorem wsp_go : ∀ (bs cur : List UInt8) (out : List ByteArray), cur.length ≤ 24 → wsp (bs ++ [32]) cur out = if bs.all okW = true then goP ((cur ++ (pcs 32 bs).headD []) :: (pcs 32 bs).tail) out else none
  | [], cur, out, hc => by
    have : ¬ cur.length > 24 := by omega
    simp only [List.nil_append, wsp, pcs, goP, List.all_nil, List.headD_cons, List.append_nil, List.tail_cons]
    by_cases h : cur = [] <;> simp [h, this]
  | b :: l, cur, out, hc => by
    rw [List.cons_append, wsp]
    by_cases h : b = 32
    · subst h
      have i1 := wsp_go l [] out (by simp)
      have i2 := wsp_go l [] (out ++ [mkB cur]) (by simp)
      have hne := pcs_ne 32 l
      have e : ([] ++ (pcs 32 l).headD []) :: (pcs 32 l).tail = pcs 32 l := by
        cases hp : pcs 32 l with
        | nil => exact absurd hp hne
        | cons p ps => simp
      rw [e] at i1 i2
      have ok : okW 32 = true := by decide
      have : ¬ cur.length > 24 := by omega
      simp only [pcs, if_true, List.headD_cons, List.append_nil, List.tail_cons, List.all_cons, ok, Bool.true_and, goP]
      by_cases hcur : cur = []
      · subst hcur; simp [i1]
      · simp [hcur, this, i2]
    · rw [if_neg h]
      have hb : b.toNat ≠ 32 := fun e => h (u8_32.2 e)
      simp only [pcs, if_neg h, List.headD_cons, List.tail_cons, List.all_cons]
      by_cases h1 : 33 ≤ b.toNat ∧ b.toNat ≤ 126
      · have ok : okW b = true := decide_eq_true (by omega)
        by_cases h2 : cur.length + 1 ≤ 24
        · rw [if_pos ⟨h1, h2⟩, wsp_go l (cur ++ [b]) out (by simp; omega), ok, Bool.true_and]
          simp
        · rw [if_neg (fun q => h2 q.2), ok, Bool.true_and]
          have e1 : cur ++ b :: (pcs 32 l).headD [] ≠ [] := by simp
          have e2 : (cur ++ b :: (pcs 32 l).headD []).length > 24 := by simp; omega
          rw [goP, if_neg e1, if_pos e2]
          simp
      · have ok : okW b = false := decide_eq_false (by omega)
        rw [if_neg (fun q => h1 q.1), ok]
        simp
theorem wsp_same (bs : List UInt8) : wsp (bs ++ [32]) [] [] = if bs.all okW = true then goP (pcs 32 bs) [] else none := by
  have h := wsp_go bs [] [] (by simp)
  have hne := pcs_ne 32 bs
  have e : ([] ++ (pcs 32 bs).headD []) :: (pcs 32 bs).tail = pcs 32 bs := by
    cases hp : pcs 32 bs with
    | nil => exact absurd hp hne
    | cons p ps => simp
  rw [e] at h; exact h
def finW : Option (List ByteArray) → List ByteArray × Bool
  | none => ([], false)
  | some o => if o.length > 16 then ([], false) else (o, true)
theorem finW_len (o : Option (List ByteArray)) : (finW o).1.length ≤ 16 := by
  unfold finW
  split
  · simp
  · split
    · simp
    · rename_i h; simp; omega
theorem l1Bare_ev (s : ByteArray) (hs : s.size ≤ 140737488351232) : Ev (fun k => spec_l1Bare.f k s) (mkB (bareL 35 s.data.toList)) := by
  unfold spec_l1Bare.f
  have hl := ba_len s
  have key := loopL (0 : UInt8) s.data.toList (P := fun i r => i ≤ s.data.toList.length → s.data.toList.drop i = r → Ev (fun k => spec_l1Bare.l0 k s (i : Int)) (mkB (s.data.toList.take i ++ bareL 35 r)))
    (fun _ _ => by
      refine Ev.step (fun k => by rw [spec_l1Bare.l0]) (ev_neg (by omega) (ev_ret ?_))
      rw [List.take_of_length_le (Nat.le_refl _), bareL, List.append_nil, mkB_data]) (fun i x r hi hx hm hd ih _ _ => ?_)
  · have := key (by omega) rfl
    simpa using this
  refine Ev.step (fun k => by rw [spec_l1Bare.l0]) (ev_pos (by omega) (ev_pos (by omega) ?_))
  rw [bt_list s i (by omega), hx, wsucc (n := s.data.toList.length) hi (by omega)]
  refine ev_split (fun c => ev_pos (by omega) (ev_ret ?_)) (fun c => ev_eq (ih (by omega) hd) ?_)
  · have : x = 35 := u8_35.2 (by omega)
    subst this
    simp [bareL, extract_to]
  · have : ¬ x = 35 := fun e => c (by rw [u8_35.1 e]; rfl)
    rw [bareL, if_neg this]
    have ht : s.data.toList.take (i + 1) = s.data.toList.take i ++ [x] := by
      rw [List.take_succ_eq_append_getElem hi]
      rw [getD_eq _ _ _ hi] at hx
      rw [hx]
    rw [ht]; simp
theorem specWords_ev (s : ByteArray) (hs : s.size ≤ 1048576) : Ev (fun k => spec_PlantWords.f k s) (finW (wsp (bareL 35 s.data.toList ++ [32]) [] [])) := by
  unfold spec_PlantWords.f
  refine Ev.bind (l1Bare_ev s (by omega)) ?_
  have hbl := bareL_len 35 s.data.toList
  rw [ba_len] at hbl
  generalize bareL 35 s.data.toList = B at *
  have e32 : (⟨#[32]⟩ : ByteArray) = mkB [32] := rfl
  refine ev_pos (by rw [e32, mkB_size, mkB_size]; simp; omega) ?_
  have key := loopL (0 : UInt8) (B ++ [32]) (P := fun i r => i ≤ (B ++ [32]).length → ∀ (cur : List UInt8) (out : List ByteArray), cur.length ≤ 24 → out.length ≤ i → Ev (fun k => spec_PlantWords.l0 k out (mkB cur) (i : Int) (mkB B)) (finW (wsp r cur out)))
    (fun _ cur out hc ho => by
      refine Ev.step (fun k => by rw [spec_PlantWords.l0]) ?_
      rw [e32, mkB_app, mkB_size]
      refine ev_neg (by omega) ?_
      unfold wsp finW
      refine ev_split (fun c => ev_ret ?_) (fun c => ev_ret ?_)
      · simp only; rw [if_pos (by omega)]
      · simp only; rw [if_neg (by omega)]) (fun i x r hi hx hm _ ih _ cur out hc ho => ?_)
  · exact key (by omega) [] [] (by simp) (by simp)
  have hBl : (B ++ [32]).length ≤ 1048577 := by simp; omega
  refine Ev.step (fun k => by rw [spec_PlantWords.l0]) ?_
  have hsz : (mkB (B ++ [32])).size = (B ++ [32]).length := mkB_size _
  have hbt : bt (mkB (B ++ [32])) (i : Int) = (x.toNat : Int) := by rw [bt_list _ i (by omega), data_mkB, hx]
  have hex : (mkB (B ++ [32])).extract ((i : Int)).toNat ((i + 1 : Nat) : Int).toNat = mkB [x] := by
    rw [Int.toNat_natCast, Int.toNat_natCast, extract_one _ i (by omega), data_mkB, hx]
  have hx8 := u8_lt x
  rw [e32, mkB_app, wsucc hi (by omega), hbt, hex, mkB_app]
  refine ev_pos (by omega) (ev_pos (by omega) ?_)
  rw [wsp]
  refine ev_split (fun c => ?_) (fun c => ?_)
  · rw [if_pos (u8_32.2 (by omega))]
    refine ev_split (fun c2 => ?_) (fun c2 => ?_)
    · have : cur = [] := mkB_nil.1 (ba_iff.1 c2)
      rw [if_pos this]
      exact ih (by omega) cur out hc (by omega)
    · have : ¬ cur = [] := fun e => c2 (ba_iff.2 (mkB_nil.2 e))
      rw [if_neg this]
      refine ev_pos (by omega) ?_
      exact ih (by omega) [] (out ++ [mkB cur]) (by simp) (by simp; omega)
  · rw [if_neg (fun e => c (by rw [u8_32.1 e]; rfl))]
    refine ev_pos (by omega) (ev_pos (by omega) (ev_pos (by rw [mkB_size, mkB_size]; simp; omega) ?_))
    rw [w64 (by omega) (by omega)]
    refine Ev.bind (l2In_ev _ _ _) (ev_b (fun c1 => ?_) (fun c1 => ?_))
    · have h1 : 33 ≤ x.toNat ∧ x.toNat ≤ 126 := by have := of_decide_eq_true c1; omega
      refine ev_split (fun c2 => ?_) (fun c2 => ?_)
      · rw [mkB_size] at c2; simp at c2
        rw [if_neg (by omega)]; exact ev_ret rfl
      · rw [mkB_size] at c2; simp at c2
        rw [if_pos ⟨h1, by omega⟩]
        exact ih (by omega) (cur ++ [x]) out (by simp; omega) (by omega)
    · have h1 : ¬ (33 ≤ x.toNat ∧ x.toNat ≤ 126) := by have := of_decide_eq_false c1; omega
      rw [if_neg (fun q => h1 q.1)]; exact ev_ret rfl
def cutO : Option (List ByteArray) → List ByteArray × Bool
  | none => ([], false)
  | some o => (o, true)
theorem cutWords_ev (s : ByteArray) (hs : s.size ≤ 1048576) : Ev (fun k => impl_cutWords.f k s) (cutO (if (bareL 35 s.data.toList).all okW = true then goP (pcs 32 (bareL 35 s.data.toList)) [] else none)) := by
  unfold impl_cutWords.f
  have eC : strings_Cut.f s (⟨#[35]⟩ : ByteArray) = some (cutS s (⟨#[35]⟩ : ByteArray)) := by
    unfold strings_Cut.f cutSf; rw [if_pos (by omega)]
  have hb := cutS_bare s 35
  refine ev_let eC ?_
  generalize cutS s (⟨#[35]⟩ : ByteArray) = C at *
  have hbl := bareL_len 35 s.data.toList
  rw [ba_len] at hbl
  have hC : C.1 = mkB (bareL 35 s.data.toList) := by rw [← hb, mkB_data]
  generalize bareL 35 s.data.toList = B at *
  have hCs : C.1.size = B.length := by rw [hC, mkB_size]
  have L1 : B.all okW = true → Ev (fun k => impl_cutWords.l0 k (B.length : Int) C) (cutO (goP (pcs 32 B) [])) := fun _ => by
    refine Ev.step (fun k => by rw [impl_cutWords.l0]) (ev_neg (by omega) ?_)
    have eS : strings_Split.f C.1 (⟨#[32]⟩ : ByteArray) = some (splitS C.1 (⟨#[32]⟩ : ByteArray)) := by
      unfold strings_Split.f splitSf; rw [if_pos ⟨by omega, by decide⟩]
    refine ev_let eS ?_
    have hm := splitS_map C.1 32
    rw [hb] at hm
    have hlen : (splitS C.1 (⟨#[32]⟩ : ByteArray)).length ≤ 4294967296 := by
      have h1 := Lib.splitB_length_le (⟨#[32]⟩ : ByteArray) 0 (Lib.countB C.1 (⟨#[32]⟩ : ByteArray)) C.1
      have h2 := Lib.countB_le (⟨#[32]⟩ : ByteArray) (by decide) C.1.size C.1 (Nat.le_refl _)
      unfold splitS; omega
    generalize splitS C.1 (⟨#[32]⟩ : ByteArray) = ws at *
    rw [← hm]
    have key := loopL ByteArray.empty ws (P := fun i r => i ≤ ws.length → ∀ out : List ByteArray, out.length ≤ i → Ev (fun k => impl_cutWords.l1 k out (i : Int) ws) (cutO (goP (r.map (fun x => x.data.toList)) out)))
      (fun _ out _ => by refine Ev.step (fun k => by rw [impl_cutWords.l1]) ?_; exact ev_neg (by omega) (ev_ret rfl)) (fun i x r hi hx hmm _ ih _ out ho => ?_)
    · exact key (by omega) [] (by simp)
    refine Ev.step (fun k => by rw [impl_cutWords.l1]) (ev_pos (by omega) (ev_pos (by omega) ?_))
    rw [rdOf_nat, hx, wsucc hi (by omega), List.map_cons, goP]
    have hxl := ba_len x
    refine ev_split (fun c => ?_) (fun c => ?_)
    · have : x.data.toList = [] := by rw [ba_iff.1 c]
      rw [if_pos this]
      exact ih (by omega) out (by omega)
    · have : ¬ x.data.toList = [] := fun e => c (ba_iff.2 (by rw [← mkB_data x, e]; rfl))
      rw [if_neg this]
      refine ev_split (fun c2 => ?_) (fun c2 => ?_)
      · rw [if_pos (by omega)]; exact ev_ret rfl
      · rw [if_neg (by omega), mkB_data]
        exact ev_pos (by omega) (ih (by omega) _ (by simp; omega))
  have key := loopL (0 : UInt8) B (P := fun i r => (r.all okW = true → B.all okW = true) → i ≤ B.length → Ev (fun k => impl_cutWords.l0 k (i : Int) C) (cutO (if r.all okW = true then goP (pcs 32 B) [] else none)))
    (fun h _ => by rw [if_pos (by rfl)]; exact L1 (h rfl)) (fun i x r hi hx hm _ ih h _ => ?_)
  · exact key (fun h => h) (by omega)
  have hbt : bt C.1 (i : Int) = (x.toNat : Int) := by rw [bt_list _ i (by omega), hb, hx]
  refine Ev.step (fun k => by rw [impl_cutWords.l0]) (ev_pos (by omega) (ev_pos (by omega) ?_))
  rw [hbt, wsucc hi (by omega), List.all_cons]
  refine ev_split (fun c => ?_) (fun c => ev_split (fun c2 => ?_) (fun c2 => ?_))
  · have ok : okW x = false := decide_eq_false (by omega)
    rw [ok]; exact ev_ret rfl
  · have ok : okW x = false := decide_eq_false (by omega)
    rw [ok]; exact ev_ret rfl
  · have ok : okW x = true := decide_eq_true (by omega)
    rw [ok, Bool.true_and]
    exact ih (fun q => h (by rw [List.all_cons, ok, Bool.true_and]; exact q)) (by omega)
theorem implWords_ev (s : ByteArray) (hs : s.size ≤ 1048576) : Ev (fun k => impl_PlantWords.f k s) (finW (wsp (bareL 35 s.data.toList ++ [32]) [] [])) := by
  unfold impl_PlantWords.f
  rw [wsp_same]
  refine Ev.bind (cutWords_ev s hs) ?_
  generalize (if (bareL 35 s.data.toList).all okW = true then goP (pcs 32 (bareL 35 s.data.toList)) [] else none) = o
  cases o with
  | none => exact ev_neg (by decide) (ev_ret rfl)
  | some o =>
    refine ev_pos rfl (ev_split (fun c => ev_ret ?_) (fun c => ev_ret ?_))
    · show _ = finW (some o)
      have c : (o.length : Int) > 16 := c
      unfold finW; simp only; rw [if_pos (by omega)]
    · show _ = finW (some o)
      have c : ¬ (o.length : Int) > 16 := c
      unfold finW; simp only; rw [if_neg (by omega)]; rfl
/-! ### numbers drawn -/
theorem xorI_nat (a b : Nat) (ha : a < 2 ^ 62) (hb : b < 2 ^ 62) : xorI .i64 (a : Int) (b : Int) = ((a ^^^ b : Nat) : Int) := by
  have hx : a ^^^ b < 2 ^ 62 := Nat.xor_lt_two_pow ha hb
  have ha' : a % 2 ^ IntKind.i64.bits = a := Nat.mod_eq_of_lt (Nat.lt_trans ha (by decide))
  have hb' : b % 2 ^ IntKind.i64.bits = b := Nat.mod_eq_of_lt (Nat.lt_trans hb (by decide))
  have e : xorI .i64 (a : Int) (b : Int) = IntKind.i64.wrap ((a ^^^ b : Nat) : Int) := by
    simp only [xorI, BitVec.ofInt_natCast, BitVec.toNat_xor, BitVec.toNat_ofNat, ha', hb']
  rw [e, IntKind.wrap_i64]
  generalize a ^^^ b = n at hx ⊢
  have : (2 : Nat) ^ 62 = 4611686018427387904 := by decide
  omega
theorem xorI_range {a b : Int} (h0 : 0 ≤ a) (h1 : a ≤ 1000000000000000) (h2 : 0 ≤ b) (h3 : b ≤ 1000000000000000) : 0 ≤ xorI .i64 a b := by
  obtain ⟨m, rfl⟩ : ∃ m : Nat, a = (m : Int) := ⟨a.toNat, by omega⟩
  obtain ⟨n, rfl⟩ : ∃ n : Nat, b = (n : Int) := ⟨b.toNat, by omega⟩
  rw [xorI_nat m n (by have : (2 : Nat) ^ 62 = 4611686018427387904 := by decide
                       omega) (by have : (2 : Nat) ^ 62 = 4611686018427387904 := by decide
                                  omega)]
  omega
structure Bytes (b : List Int) : Prop where
  len : b.length ≤ 2000
  byte : ∀ i, i < b.length → 0 ≤ b.getD i 0 ∧ b.getD i 0 ≤ 255
theorem Bytes.rd {b : List Int} (h : Bytes b) (i : Int) (h0 : 0 ≤ i) (h1 : i < b.length) : 0 ≤ rd b i ∧ rd b i ≤ 255 := by
  obtain ⟨n, rfl⟩ : ∃ n : Nat, i = (n : Int) := ⟨i.toNat, by omega⟩
  rw [rd_nat]
  exact h.byte n (by omega)
theorem pick_ok {b : List Int} (hb : Bytes b) (p n : Int) (hp : 0 ≤ p) (hp1 : p ≤ 1000000000) (hn : n ≤ 1000000000) :
    ∃ v, (0 ≤ v ∧ (1 ≤ n → v < n) ∧ (n < 1 → v = 0)) ∧ spec_l1Rd_pick.f b p n = some (v, b, p + 1) := by
  unfold spec_l1Rd_pick.f
  have hw : wrap64 (wrap64 (p + 1) - 1) = p := by rw [w64 (x := p + 1) (by omega) (by omega), w64 (by omega) (by omega)]; omega
  rw [hw, w64 (x := p + 1) (by omega) (by omega)]
  by_cases c : n < 1
  · exact ⟨0, ⟨by omega, by omega, by omega⟩, by rw [if_pos c]⟩
  by_cases e : (b.length : Int) = 0
  · exact ⟨0, ⟨by omega, by omega, by omega⟩, by rw [if_neg c, if_pos e]⟩
  have hl := hb.len
  have fin : ∀ x : Int, 0 ≤ x → (0 ≤ Int.tmod x n ∧ (1 ≤ n → Int.tmod x n < n) ∧ (n < 1 → Int.tmod x n = 0)) := fun x hx => by
    rw [Int.tmod_eq_emod_of_nonneg hx]
    exact ⟨Int.emod_nonneg _ (by omega), fun _ => Int.emod_lt_of_pos _ (by omega), fun q => by omega⟩
  rw [if_neg c, if_neg e]
  by_cases q : p < (b.length : Int)
  · have hr := hb.rd p hp q
    exact ⟨_, fin (wrap64 (rd b p)) (by rw [w64 (by omega) (by omega)]; omega), by rw [if_pos q, if_pos hp, if_pos (by omega)]⟩
  have h7 : wrap64 (wrap64 (p * 7) + 3) = p * 7 + 3 := by rw [w64 (x := p * 7) (by omega) (by omega), w64 (by omega) (by omega)]
  have m1 : Int.tmod p (b.length : Int) = p % (b.length : Int) := Int.tmod_eq_emod_of_nonneg hp
  have m2 : Int.tmod (p * 7 + 3) (b.length : Int) = (p * 7 + 3) % (b.length : Int) := Int.tmod_eq_emod_of_nonneg (by omega)
  have d1 : Int.tdiv p (b.length : Int) = p / (b.length : Int) := Int.tdiv_eq_ediv_of_nonneg hp
  have r1 := Int.emod_nonneg p e
  have r2 := Int.emod_lt_of_pos p (show (0 : Int) < (b.length : Int) by omega)
  have r3 := Int.emod_nonneg (p * 7 + 3) e
  have r4 := Int.emod_lt_of_pos (p * 7 + 3) (show (0 : Int) < (b.length : Int) by omega)
  have v1 := hb.rd _ r1 r2
  have v2 := hb.rd _ r3 r4
  have dv0 : 0 ≤ p / (b.length : Int) := Int.ediv_nonneg hp (by omega)
  have dv1 : p / (b.length : Int) ≤ p := Int.ediv_le_self _ hp
  rw [h7, m1, m2, d1, if_neg q, if_pos e, if_pos r1, if_pos r2, if_pos r3, if_pos r4, if_pos (show n ≠ 0 by omega)]
  generalize rd b (p % (b.length : Int)) = u1 at *
  generalize rd b ((p * 7 + 3) % (b.length : Int)) = u2 at *
  generalize p / (b.length : Int) = u3 at *
  rw [w64 (x := u1) (by omega) (by omega), w64 (x := u2) (by omega) (by omega), w64 (x := u1 * 131) (by omega) (by omega), w64 (x := u2 * 1117) (by omega) (by omega), w64 (x := u1 * 131 + u2 * 1117) (by omega) (by omega), w64 (x := p * 29) (by omega) (by omega),
    w64 (x := u1 * 131 + u2 * 1117 + p * 29) (by omega) (by omega), w64 (x := u3) (by omega) (by omega), w64 (x := u3 * 53) (by omega) (by omega), w64 (x := u1 * 131 + u2 * 1117 + p * 29 + u3 * 53) (by omega) (by omega)]
  obtain ⟨x, hx⟩ : ∃ x, u1 * 131 + u2 * 1117 + p * 29 + u3 * 53 = x := ⟨_, rfl⟩
  rw [hx]
  have x0 : 0 ≤ x := by omega
  have x1 : x ≤ 1000000000000 := by omega
  have y0 : 0 ≤ Int.tdiv x 64 ∧ Int.tdiv x 64 ≤ x := by rw [Int.tdiv_eq_ediv_of_nonneg x0]; exact ⟨Int.ediv_nonneg x0 (by omega), Int.ediv_le_self _ x0⟩
  rw [w64 (x := Int.tdiv x 64) (by omega) (by omega)]
  exact ⟨_, fin _ (xorI_range x0 (by omega) y0.1 (by omega)), rfl⟩
theorem of_ok {b : List Int} (hb : Bytes b) (p : Int) (hp : 0 ≤ p) (hp1 : p ≤ 1000000000) (l : List ByteArray) (h1 : 1 ≤ l.length) (h2 : l.length ≤ 1000000) : ∃ s ∈ l, spec_l1Rd_of.f b p l = some (s, b, p + 1) := by
  unfold spec_l1Rd_of.f
  obtain ⟨v, ⟨v0, v1, _⟩, e⟩ := pick_ok hb p (l.length : Int) hp hp1 (by omega)
  have v1 := v1 (by omega)
  obtain ⟨n, rfl⟩ : ∃ n : Nat, v = (n : Int) := ⟨v.toNat, by omega⟩
  refine ⟨l.getD n ByteArray.empty, mem_getD _ _ _ (by omega), ?_⟩
  rw [e]
  simp only [Option.bind_some]
  rw [if_pos v0, if_pos v1, rdOf_nat]
theorem open_ok (l : List Int) (h : ∀ x ∈ l, 0 ≤ x ∧ x ≤ 255) : ∃ b, Bytes b ∧ spec_l1Open.f l = some (b, 0) := by
  unfold spec_l1Open.f
  by_cases c : (l.length : Int) > 2000
  · refine ⟨l.take 2000, ⟨by simp; omega, fun i hi => ?_⟩, by rw [if_pos c, if_pos (by omega)]; rfl⟩
    exact h _ (List.mem_of_mem_take (mem_getD 0 _ i hi))
  · exact ⟨l, ⟨by omega, fun i hi => h _ (mem_getD 0 _ i hi)⟩, by rw [if_neg c]⟩
theorem bytes_of {l : List Int} (h : ∀ x ∈ l, (Lit.int .u8 x).wf = true) : ∀ x ∈ l, 0 ≤ x ∧ x ≤ 255 := fun x hx => by
  have := h x hx
  simpa [Lit.wf, IntKind.min, IntKind.max, IntKind.signed, IntKind.bits] using this
/-- there is an answer, and it is so -/
def ExP {α : Type} (g : Nat → Option α) (Q : α → Prop) : Prop := ∃ q, Ev g q ∧ Q q
theorem exp_ret {α : Type} {a : α} {Q : α → Prop} (h : Q a) : ExP (fun _ => some a) Q := ⟨a, Ev.now a, h⟩
theorem exp_let {α β : Type} {g : Option α} {a : α} {f : Nat → α → Option β} {Q : β → Prop} (h : g = some a) (k : ExP (fun n => f n a) Q) : ExP (fun n => g.bind (f n)) Q := by subst h; exact k
theorem exp_bind {α β : Type} {g : Nat → Option α} {f : Nat → α → Option β} {R : α → Prop} {Q : β → Prop} (h : ExP g R) (k : ∀ a, R a → ExP (fun n => f n a) Q) : ExP (fun n => (g n).bind (f n)) Q := by
  obtain ⟨a, h1, h2⟩ := h
  obtain ⟨q, e, hq⟩ := k a h2
  exact ⟨q, Ev.bind h1 e, hq⟩
theorem exp_ite {α : Type} {c : Prop} {d : Decidable c} {g f : Nat → Option α} {Q : α → Prop} (h : c → ExP g Q) (k : ¬ c → ExP f Q) : ExP (fun n => @ite _ c d (g n) (f n)) Q := by
  by_cases q : c
  · exact (h q).imp fun _ e => ⟨ev_pos q e.1, e.2⟩
  · exact (k q).imp fun _ e => ⟨ev_neg q e.1, e.2⟩
theorem exp_pos {α : Type} {c : Prop} {d : Decidable c} {g f : Nat → Option α} {Q : α → Prop} (h : c) (k : ExP g Q) : ExP (fun n => @ite _ c d (g n) (f n)) Q := k.imp fun _ e => ⟨ev_pos h e.1, e.2⟩
theorem exp_neg {α : Type} {c : Prop} {d : Decidable c} {g f : Nat → Option α} {Q : α → Prop} (h : ¬ c) (k : ExP f Q) : ExP (fun n => @ite _ c d (g n) (f n)) Q := k.imp fun _ e => ⟨ev_neg h e.1, e.2⟩
theorem exp_step {α : Type} {g f : Nat → Option α} {Q : α → Prop} (h : ∀ k, g (k + 1) = f k) (k : ExP f Q) : ExP g Q := k.imp fun _ e => ⟨Ev.step h e.1, e.2⟩
theorem exp_mono {α : Type} {g : Nat → Option α} {Q R : α → Prop} (h : ExP g Q) (k : ∀ a, Q a → R a) : ExP g R := h.imp fun a e => ⟨e.1, k a e.2⟩
theorem many_ok : ∀ (m : Nat) (s acc : ByteArray) (n : Nat), n ≤ m → n ≤ 100000 → s.size * n ≤ 1000000 → acc.size + s.size * n ≤ 2000000 → ExP (fun k => spec_l1Many.l0 k s (n : Int) acc) (fun q => q.size ≤ acc.size + s.size * n)
  | 0, s, acc, n, hm, _, _, _ => by
    refine exp_step (fun k => by rw [spec_l1Many.l0]) (exp_neg (by omega) (exp_ret (by omega)))
  | m + 1, s, acc, n, hm, hn, hs, ha => by
    refine exp_step (fun k => by rw [spec_l1Many.l0]) (exp_ite (fun c => ?_) (fun c => exp_ret (by omega)))
    have e1 : wrap64 (Int.tdiv (n : Int) 2) = ((n / 2 : Nat) : Int) := by rw [Int.tdiv_eq_ediv_of_nonneg (by omega), w64 (by omega) (by omega)]; omega
    have e2 : Int.tmod (n : Int) 2 = ((n % 2 : Nat) : Int) := by rw [Int.tmod_eq_emod_of_nonneg (by omega)]; omega
    have h1 : s.size ≤ s.size * n := Nat.le_mul_of_pos_right _ (by omega)
    have h2 : (s ++ s).size * (n / 2) = s.size * (2 * (n / 2)) := by rw [ByteArray.size_append, ← Nat.mul_assoc]; congr 1; omega
    rw [e1, e2]
    refine exp_ite (fun c2 => ?_) (fun c2 => ?_)
    · have h3 : s.size * n = s.size + s.size * (2 * (n / 2)) := by
        have : n = 1 + 2 * (n / 2) := by omega
        have h := congrArg (s.size * ·) this
        simp only [Nat.mul_add, Nat.mul_one] at h
        exact h
      refine exp_pos (by omega) (exp_pos (by omega) ?_)
      refine exp_mono (many_ok m (s ++ s) (acc ++ s) (n / 2) (by omega) (by omega) (by omega) (by rw [h2, ByteArray.size_append]; omega)) (fun q hq => ?_)
      rw [h2, ByteArray.size_append] at hq; omega
    · have h3 : s.size * n = s.size * (2 * (n / 2)) := by congr 1; omega
      refine exp_pos (by omega) ?_
      refine exp_mono (many_ok m (s ++ s) acc (n / 2) (by omega) (by omega) (by omega) (by rw [h2]; omega)) (fun q hq => ?_)
      rw [h2] at hq; omega
/-! ### a line, drawn -/
theorem drawLoop {b : List Int} (hb : Bytes b) (l0 : List Int) : ∀ (m n : Nat) (out : ByteArray) (p : Int), n ≤ m → n ≤ 100 → 0 ≤ p → p + 10 * n ≤ 100000 → out.size + 60 * n ≤ 100000 → ExP (fun k => spec_DrawPlantWords.l0 k l0 out (n : Int) b p) (fun q => q.size ≤ 100000)
  | 0, n, out, p, hm, _, _, _, ho => by
    refine exp_step (fun k => by rw [spec_DrawPlantWords.l0]) (exp_neg (by omega) (exp_ret (by omega)))
  | m + 1, n, out, p, hm, hn, hp0, hp, ho => by
    refine exp_step (fun k => by rw [spec_DrawPlantWords.l0]) (exp_ite (fun c => ?_) (fun c => exp_ret (by omega)))
    have tail : ∀ (o : ByteArray) (p' : Int), o.size ≤ out.size + 40 → 0 ≤ p' → p' ≤ p + 5 → ExP (fun k => spec_DrawPlantWords.j0 k l0 o (n : Int) b p') (fun q => q.size ≤ 100000) := fun o p' h1 h2 h3 => by
      refine exp_step (fun k => by rw [spec_DrawPlantWords.j0]) ?_
      obtain ⟨v, ⟨v0, v1, _⟩, e⟩ := pick_ok hb p' 3 h2 (by omega) (by omega)
      obtain ⟨u, ⟨u0, u1, _⟩, e'⟩ := pick_ok hb (p' + 1) 2 (by omega) (by omega) (by omega)
      have v1 := v1 (by omega)
      have u1 := u1 (by omega)
      refine exp_let e (exp_let e' ?_)
      simp only
      have hw : wrap64 (v + u) = ((v + u).toNat : Int) := by rw [w64 (by omega) (by omega)]; omega
      have z1 : (⟨#[32]⟩ : ByteArray).size = 1 := rfl
      unfold spec_l1Many.f
      rw [hw]
      refine exp_bind (many_ok (v + u).toNat _ _ _ (Nat.le_refl _) (by omega) (by rw [z1]; omega) (by rw [z1]; show 0 + _ ≤ _; omega)) (fun s hs => ?_)
      have hs' : s.size ≤ 5 := by
        rw [z1] at hs
        have : (⟨#[]⟩ : ByteArray).size = 0 := rfl
        rw [this] at hs; omega
      refine exp_pos (by omega) ?_
      have hn1 : wrap64 ((n : Int) - 1) = ((n - 1 : Nat) : Int) := by rw [w64 (by omega) (by omega)]; omega
      rw [hn1]
      exact drawLoop hb l0 m (n - 1) _ _ (by omega) (by omega) (by omega) (by omega) (by rw [ByteArray.size_append]; omega)
    obtain ⟨v, ⟨v0, v1, _⟩, e⟩ := pick_ok hb p 24 (by omega) (by omega) (by omega)
    refine exp_let e ?_
    simp only
    refine exp_ite (fun _ => ?_) (fun _ => exp_ite (fun _ => ?_) (fun _ => exp_ite (fun _ => ?_) (fun _ => ?_)))
    · have z : (⟨#[35]⟩ : ByteArray).size = 1 := rfl
      exact exp_pos (by omega) (tail _ _ (by rw [ByteArray.size_append]; omega) (by omega) (by omega))
    · obtain ⟨s, hs, e2⟩ := of_ok hb (p + 1) (by omega) (by omega) ([(⟨#[127]⟩ : ByteArray), (⟨#[9]⟩ : ByteArray), (⟨#[0]⟩ : ByteArray), (⟨#[195, 169]⟩ : ByteArray)] : List ByteArray) (by decide) (by decide)
      have : s.size ≤ 5 := by
        simp only [List.mem_cons, List.mem_nil_iff, or_false] at hs
        rcases hs with rfl | rfl | rfl | rfl <;> decide
      refine exp_let e2 ?_
      simp only
      exact exp_pos (by omega) (tail _ _ (by rw [ByteArray.size_append]; omega) (by omega) (by omega))
    · obtain ⟨u, ⟨u0, u1, _⟩, e2⟩ := pick_ok hb (p + 1) 2 (by omega) (by omega) (by omega)
      have u1 := u1 (by omega)
      refine exp_let e2 ?_
      simp only
      have hw : wrap64 (24 + u) = ((24 + u).toNat : Int) := by rw [w64 (by omega) (by omega)]; omega
      have z1 : (⟨#[119]⟩ : ByteArray).size = 1 := rfl
      unfold spec_l1Many.f
      rw [hw]
      refine exp_bind (many_ok (24 + u).toNat _ _ _ (Nat.le_refl _) (by omega) (by rw [z1]; omega) (by rw [z1]; show 0 + _ ≤ _; omega)) (fun s hs => ?_)
      have hs' : s.size ≤ 25 := by
        rw [z1] at hs
        have : (⟨#[]⟩ : ByteArray).size = 0 := rfl
        rw [this] at hs; omega
      exact exp_pos (by omega) (tail _ _ (by rw [ByteArray.size_append]; omega) (by omega) (by omega))
    · obtain ⟨s, hs, e2⟩ := of_ok hb (p + 1) (by omega) (by omega) ([(⟨#[118, 97, 108, 118, 101]⟩ : ByteArray), (⟨#[97]⟩ : ByteArray), (⟨#[49, 50]⟩ : ByteArray), (⟨#[33]⟩ : ByteArray), (⟨#[126]⟩ : ByteArray)] : List ByteArray) (by decide) (by decide)
      have : s.size ≤ 5 := by
        simp only [List.mem_cons, List.mem_nil_iff, or_false] at hs
        rcases hs with rfl | rfl | rfl | rfl | rfl <;> decide
      refine exp_let e2 ?_
      simp only
      exact exp_pos (by omega) (tail _ _ (by rw [ByteArray.size_append]; omega) (by omega) (by omega))
theorem draw_ok (l : List Int) (h : ∀ z ∈ l, (Lit.int .u8 z).wf = true) : ExP (fun k => spec_DrawPlantWords.f k l) (fun q => q.size ≤ 100000) := by
  unfold spec_DrawPlantWords.f
  obtain ⟨b, hb, e⟩ := open_ok l (bytes_of h)
  refine exp_let e ?_
  obtain ⟨v, ⟨v0, v1, _⟩, e2⟩ := pick_ok hb 0 19 (by omega) (by omega) (by omega)
  have v1 := v1 (by omega)
  refine exp_let e2 ?_
  simp only
  obtain ⟨n, rfl⟩ : ∃ n : Nat, v = (n : Int) := ⟨v.toNat, by omega⟩
  exact drawLoop hb l n n _ _ (Nat.le_refl _) (by omega) (by omega) (by omega) (by show 0 + _ ≤ _; omega)
/-! ### words, written and cut again -/
def goodW (w : List UInt8) : Prop := w ≠ [] ∧ w.length ≤ 24 ∧ ∀ b ∈ w, (33 ≤ b.toNat ∧ b.toNat ≤ 126) ∧ b ≠ 35
theorem bareL_no (c : UInt8) : ∀ l : List UInt8, ∀ b ∈ bareL c l, b ≠ c
  | [], b, h => by simp [bareL] at h
  | a :: l, b, h => by
    unfold bareL at h
    split at h
    · simp at h
    · rename_i hne
      rcases List.mem_cons.1 h with rfl | h
      · exact hne
      · exact bareL_no c l b h
theorem wsp_good : ∀ (bs cur : List UInt8) (out o : List ByteArray), (∀ b ∈ bs, b ≠ 35) → (cur = [] ∨ goodW cur) → (∀ w ∈ out, goodW w.data.toList) → wsp bs cur out = some o → ∀ w ∈ o, goodW w.data.toList
  | [], cur, out, o, _, _, ho, h => by injection h with h; subst h; exact ho
  | b :: l, cur, out, o, hb, hc, ho, h => by
    rw [wsp] at h
    have hb' : ∀ x ∈ l, x ≠ 35 := fun x hx => hb x (List.mem_cons_of_mem _ hx)
    split at h
    · split at h
      · exact wsp_good l cur out o hb' hc ho h
      · rename_i hne
        refine wsp_good l [] _ o hb' (.inl rfl) (fun w hw => ?_) h
        rcases List.mem_append.1 hw with hw | hw
        · exact ho w hw
        · rw [List.mem_singleton] at hw
          subst hw
          rw [data_mkB]
          exact hc.resolve_left hne
    · split at h
      · rename_i hv
        refine wsp_good l _ out o hb' (.inr ⟨by simp, by simp; omega, fun x hx => ?_⟩) ho h
        rcases List.mem_append.1 hx with hx | hx
        · rcases hc with hc | hc
          · subst hc; cases hx
          · exact hc.2.2 x hx
        · rw [List.mem_singleton] at hx
          subst hx
          exact ⟨hv.1, hb _ (List.mem_cons_self ..)⟩
      · cases h
theorem wsp_word : ∀ (w rest cur : List UInt8) (out : List ByteArray), (∀ b ∈ w, 33 ≤ b.toNat ∧ b.toNat ≤ 126) → cur.length + w.length ≤ 24 → wsp (w ++ rest) cur out = wsp rest (cur ++ w) out
  | [], rest, cur, out, _, _ => by simp
  | b :: w, rest, cur, out, h, hl => by
    have hb := h b (List.mem_cons_self ..)
    simp only [List.length_cons] at hl
    rw [List.cons_append, wsp, if_neg (fun e => by rw [u8_32] at e; omega), if_pos ⟨hb, by omega⟩, wsp_word w rest (cur ++ [b]) out (fun x hx => h x (List.mem_cons_of_mem _ hx)) (by simp; omega)]
    simp
def spc : List ByteArray → List UInt8
  | [] => []
  | w :: r => 32 :: (w.data.toList ++ spc r)
theorem wsp_spc : ∀ (ws : List ByteArray) (cur : List UInt8) (out : List ByteArray), (∀ w ∈ ws, goodW w.data.toList) → wsp (spc ws ++ [32, 32]) cur out = some ((if cur = [] then out else out ++ [mkB cur]) ++ ws)
  | [], cur, out, _ => by
    by_cases h : cur = [] <;> simp [spc, wsp, h]
  | w :: r, cur, out, h => by
    obtain ⟨g1, g2, g3⟩ := h w (List.mem_cons_self ..)
    have ih := wsp_spc r w.data.toList (if cur = [] then out else out ++ [mkB cur]) (fun x hx => h x (List.mem_cons_of_mem _ hx))
    rw [if_neg g1, mkB_data] at ih
    have key : ∀ o : List ByteArray, wsp (w.data.toList ++ (spc r ++ [32, 32])) [] o = wsp (spc r ++ [32, 32]) w.data.toList o := fun o => by
      have := wsp_word w.data.toList (spc r ++ [32, 32]) [] o (fun b hb => (g3 b hb).1) (by simpa using g2)
      simpa using this
    rw [spc, List.cons_append, wsp, if_pos rfl, List.append_assoc]
    by_cases hc : cur = []
    · subst hc
      rw [if_pos rfl, key]
      simpa using ih
    · rw [if_neg hc, key]
      simp only [if_neg hc] at ih ⊢
      simpa using ih
theorem bareL_app : ∀ (a b : List UInt8) (c : UInt8), (∀ x ∈ a, x ≠ c) → bareL c (a ++ c :: b) = a
  | [], b, c, _ => by simp [bareL]
  | x :: a, b, c, h => by
    rw [List.cons_append, bareL, if_neg (h x (List.mem_cons_self ..)), bareL_app a b c (fun y hy => h y (List.mem_cons_of_mem _ hy))]
theorem spc_no : ∀ ws : List ByteArray, (∀ w ∈ ws, goodW w.data.toList) → ∀ x ∈ spc ws, x ≠ 35
  | [], _, x, hx => by simp [spc] at hx
  | w :: r, h, x, hx => by
    rw [spc] at hx
    rcases List.mem_cons.1 hx with rfl | hx
    · decide
    · rcases List.mem_append.1 hx with hx | hx
      · exact ((h w (List.mem_cons_self ..)).2.2 x hx).2
      · exact spc_no r (fun y hy => h y (List.mem_cons_of_mem _ hy)) x hx
theorem spc_len : ∀ ws : List ByteArray, (∀ w ∈ ws, goodW w.data.toList) → (spc ws).length ≤ 25 * ws.length
  | [], _ => by simp [spc]
  | w :: r, h => by
    have h1 := (h w (List.mem_cons_self ..)).2.1
    have h2 := spc_len r (fun y hy => h y (List.mem_cons_of_mem _ hy))
    simp only [spc, List.length_cons, List.length_append]; omega
theorem wpTexts_ev (l : List ByteArray) (hl : l.length ≤ 140737488351232) : Ev (fun k => laws_wpTexts.f k l l) true := by
  unfold laws_wpTexts.f
  refine ev_pos rfl ?_
  refine loopL ByteArray.empty l (P := fun i r => Ev (fun k => laws_wpTexts.l0 k l l (i : Int)) true)
    (by refine Ev.step (fun k => by rw [laws_wpTexts.l0]) ?_; exact ev_neg (by omega) (ev_ret rfl)) (fun i x r hi hx hm _ ih => ?_)
  refine Ev.step (fun k => by rw [laws_wpTexts.l0]) (ev_pos (by omega) (ev_pos (by omega) (ev_pos (by omega) (ev_pos rfl ?_))))
  rw [wsucc hi (by omega)]
  exact ih
theorem FnPlantWords : ∀ (x0 : List Int), ((x0.length ≤ 9223372036854775807 ∧ x0.length * 1 ≤ 140737488351232) ∧ ∀ z ∈ x0, (Lit.int .u8 z).wf = true) → ∃ k, laws_FnPlantWords.f k x0 = some true := by
  intro x hx
  obtain ⟨⟨_, _⟩, xk⟩ := hx
  obtain ⟨line, hd, hls⟩ := draw_ok x xk
  have eS := specWords_ev line (by omega)
  have eI := implWords_ev line (by omega)
  have hl := finW_len (wsp (bareL 35 line.data.toList ++ [32]) [] [])
  have hgood : ∀ w ∈ (finW (wsp (bareL 35 line.data.toList ++ [32]) [] [])).1, goodW w.data.toList := by
    have h0 : ∀ b ∈ bareL 35 line.data.toList ++ [32], b ≠ 35 := fun b hb => by
      rcases List.mem_append.1 hb with hb | hb
      · exact bareL_no 35 _ b hb
      · rw [List.mem_singleton] at hb; subst hb; decide
    cases ho : wsp (bareL 35 line.data.toList ++ [32]) [] [] with
    | none => intro w hw; simp [finW] at hw
    | some o =>
      have hg := wsp_good _ [] [] o h0 (.inl rfl) (fun w hw => by cases hw) ho
      intro w hw
      unfold finW at hw
      simp only at hw
      split at hw
      · simp at hw
      · exact hg w hw
  generalize finW (wsp (bareL 35 line.data.toList ++ [32]) [] []) = R at *
  have e2 := wpTexts_ev R.1 (by omega)
  have e5 : ¬ (R.2 != R.2) = true := by simp
  have hsl := spc_len R.1 hgood
  -- the words again
  have eA : ∀ s : ByteArray, s.data.toList = spc R.1 → Ev (fun k => impl_PlantWords.f k ((s ++ (⟨#[32, 35, 32]⟩ : ByteArray)) ++ line)) (R.1, true) := fun s hs => by
    have hss : s.size = (spc R.1).length := by rw [← hs, ba_len]
    have z3 : (⟨#[32, 35, 32]⟩ : ByteArray).size = 3 := rfl
    refine ev_eq (implWords_ev _ (by simp only [ByteArray.size_append, z3]; omega)) ?_
    have hdata : ((s ++ (⟨#[32, 35, 32]⟩ : ByteArray)) ++ line).data.toList = (spc R.1 ++ [32]) ++ 35 :: (32 :: line.data.toList) := by
      simp [ByteArray.data_append, hs]
    rw [hdata, bareL_app _ _ _ (fun y hy => by
      rcases List.mem_append.1 hy with hy | hy
      · exact spc_no R.1 hgood y hy
      · rw [List.mem_singleton] at hy; subst hy; decide)]
    have hw := wsp_spc R.1 [] [] hgood
    rw [List.append_assoc]
    show finW (wsp (spc R.1 ++ [32, 32]) [] []) = _
    rw [hw]
    unfold finW
    simp only [if_true, List.nil_append]
    rw [if_neg (by omega)]
  have L := loopL ByteArray.empty R.1 (P := fun i r => ∀ s : ByteArray, s.data.toList ++ spc r = spc R.1 → Ev (fun k => laws_FnPlantWords.l0 k x s (i : Int) line R) true)
    (fun s hs => by
      have hs' : s.data.toList = spc R.1 := by simpa [spc] using hs
      have hss : s.size = (spc R.1).length := by rw [← hs', ba_len]
      have z3 : (⟨#[32, 35, 32]⟩ : ByteArray).size = 3 := rfl
      refine Ev.step (fun k => by rw [laws_FnPlantWords.l0]) ?_
      refine ev_neg (by omega) (ev_pos (by omega) (ev_pos (by simp only [ByteArray.size_append, z3]; omega) (Ev.bind (eA s hs') (ev_pos rfl (Ev.bind e2 (ev_ret rfl)))))))
    (fun i w r hi hw hm _ ih s hs => by
      have z1 : (⟨#[32]⟩ : ByteArray).size = 1 := rfl
      have hlen := congrArg List.length hs
      rw [spc, List.length_append, List.length_cons, List.length_append, ba_len, ba_len] at hlen
      refine Ev.step (fun k => by rw [laws_FnPlantWords.l0]) ?_
      refine ev_pos (by omega) (ev_pos (by omega) (ev_pos (by omega) ?_))
      rw [rdOf_nat, hw, wsucc hi (by omega)]
      refine ev_pos (by simp only [ByteArray.size_append, z1]; omega) (ih _ ?_)
      rw [← hs]
      simp [spc, ByteArray.data_append])
  refine Ev.rounds ?_
  unfold laws_FnPlantWords.f
  refine ev_split (fun _ => ev_ret rfl) (fun _ => Ev.bind hd (Ev.bind eI (Ev.bind eS (ev_neg e5 (Ev.bind e2 (ev_pos rfl ?_))))))
  exact L (⟨#[]⟩ : ByteArray) (by simp)
end Go.Proofs.YteflhnpcgoijfaaDoor.Pure
set_option linter.unusedVariables false
set_option linter.unusedSimpArgs false
namespace Go.Proofs.YteflhnpcgoijfaaDoor.FW
open Go Go.Aw Go.RowKit Go.Proofs
set_option maxRecDepth 100000
set_option maxHeartbeats 40000000
variable {G : Nat → Option Obj}
def tab : List (TypeId × TI) := [(2, ⟨1, 8, false, 0, 0, [], [.int .i64 0], some .i64, false, false, false, [], [0], []⟩),
  (3, ⟨1, 8, false, 0, 0, [], [.int .i64 0], some .i64, false, false, false, [], [0], []⟩),
  (4, ⟨1, 1, false, 0, 0, [], [.bool false], none, false, false, true, [], [0], []⟩),
  (5, ⟨1, 1, false, 0, 0, [], [.int .u8 0], some .u8, false, false, false, [], [0], []⟩),
  (6, ⟨1, 1, false, 0, 0, [], [.int .u8 0], some .u8, false, false, false, [], [0], []⟩),
  (7, ⟨4, 24, true, 0, 0, [(0, 2), (1, 3), (2, 4), (3, 6)], [.int .i64 0, .int .i64 0, .bool false, .int .u8 0], none, false, false, false, [(0, 1), (1, 1), (2, 1), (3, 1)], [0, 0, 0, 0], []⟩),
  (8, ⟨4, 24, true, 0, 0, [(0, 2), (1, 3), (2, 4), (3, 6)], [.int .i64 0, .int .i64 0, .bool false, .int .u8 0], none, false, false, false, [(0, 1), (1, 1), (2, 1), (3, 1)], [0, 0, 0, 0], []⟩),
  (9, ⟨1, 16, false, 0, 0, [], [.str ⟨#[]⟩], none, true, false, false, [], [0], []⟩),
  (10, ⟨1, 16, false, 0, 0, [], [.str ⟨#[]⟩], none, true, false, false, [], [0], []⟩),
  (11, ⟨1, 16, false, 0, 0, [], [.str ⟨#[]⟩], none, true, false, false, [], [0], []⟩),
  (12, ⟨1, 8, false, 0, 0, [], [.int .u64 0], some .u64, false, false, false, [], [0], []⟩),
  (13, ⟨2, 24, true, 0, 0, [(0, 9), (1, 12)], [.str ⟨#[]⟩, .int .u64 0], none, false, false, false, [(0, 1), (1, 1)], [0, 0], []⟩),
  (14, ⟨2, 24, true, 0, 0, [(0, 9), (1, 12)], [.str ⟨#[]⟩, .int .u64 0], none, false, false, false, [(0, 1), (1, 1)], [0, 0], []⟩),
  (21, ⟨1, 4, false, 0, 0, [], [.int .i32 0], some .i32, false, false, false, [], [0], []⟩),
  (22, ⟨1, 24, false, 9, 0, [], [.nil], none, false, true, false, [], [1], []⟩),
  (28, ⟨1, 24, false, 5, 0, [], [.nil], none, false, true, false, [], [1], []⟩),
  (31, ⟨1, 24, false, 72, 0, [], [.nil], none, false, true, false, [], [8], []⟩),
  (34, ⟨1, 24, false, 73, 0, [], [.nil], none, false, true, false, [], [8], []⟩),
  (38, ⟨1, 24, false, 112, 0, [], [.nil], none, false, true, false, [], [2], []⟩),
  (39, ⟨1, 24, false, 114, 0, [], [.nil], none, false, true, false, [], [3], []⟩),
  (40, ⟨1, 24, false, 116, 0, [], [.nil], none, false, true, false, [], [4], []⟩),
  (41, ⟨4, 96, true, 0, 0, [(0, 22), (1, 38), (2, 39), (3, 40)], [.nil, .nil, .nil, .nil], none, false, false, false, [(0, 1), (1, 1), (2, 1), (3, 1)], [1, 2, 3, 4], []⟩),
  (42, ⟨4, 96, true, 0, 0, [(0, 22), (1, 38), (2, 39), (3, 40)], [.nil, .nil, .nil, .nil], none, false, false, false, [(0, 1), (1, 1), (2, 1), (3, 1)], [1, 2, 3, 4], []⟩),
  (45, ⟨1, 24, false, 81, 0, [], [.nil], none, false, true, false, [], [2], []⟩),
  (46, ⟨1, 24, false, 83, 0, [], [.nil], none, false, true, false, [], [3], []⟩),
  (47, ⟨1, 24, false, 85, 0, [], [.nil], none, false, true, false, [], [4], []⟩),
  (48, ⟨4, 96, true, 0, 0, [(0, 22), (1, 45), (2, 46), (3, 47)], [.nil, .nil, .nil, .nil], none, false, false, false, [(0, 1), (1, 1), (2, 1), (3, 1)], [1, 2, 3, 4], []⟩),
  (49, ⟨4, 96, true, 0, 0, [(0, 22), (1, 45), (2, 46), (3, 47)], [.nil, .nil, .nil, .nil], none, false, false, false, [(0, 1), (1, 1), (2, 1), (3, 1)], [1, 2, 3, 4], []⟩),
  (53, ⟨2, 16, true, 0, 0, [(0, 3), (1, 3)], [.int .i64 0, .int .i64 0], none, false, false, false, [(0, 1), (1, 1)], [0, 0], []⟩),
  (54, ⟨2, 16, true, 0, 0, [(0, 3), (1, 3)], [.int .i64 0, .int .i64 0], none, false, false, false, [(0, 1), (1, 1)], [0, 0], [1, 1]⟩),
  (71, ⟨8, 104, true, 0, 0, [(0, 9), (1, 3), (2, 9), (3, 9), (4, 3), (5, 3), (6, 9), (7, 9)], [.str ⟨#[]⟩, .int .i64 0, .str ⟨#[]⟩, .str ⟨#[]⟩, .int .i64 0, .int .i64 0, .str ⟨#[]⟩, .str ⟨#[]⟩], none, false, false, false, [(0, 1), (1, 1), (2, 1), (3, 1), (4, 1), (5, 1), (6, 1), (7, 1)], [0, 0, 0, 0, 0, 0, 0, 0], []⟩),
  (72, ⟨8, 104, true, 0, 0, [(0, 9), (1, 3), (2, 9), (3, 9), (4, 3), (5, 3), (6, 9), (7, 9)], [.str ⟨#[]⟩, .int .i64 0, .str ⟨#[]⟩, .str ⟨#[]⟩, .int .i64 0, .int .i64 0, .str ⟨#[]⟩, .str ⟨#[]⟩], none, false, false, false, [(0, 1), (1, 1), (2, 1), (3, 1), (4, 1), (5, 1), (6, 1), (7, 1)], [0, 0, 0, 0, 0, 0, 0, 0], [2, 1, 2, 2, 1, 1, 2, 2]⟩),
  (73, ⟨8, 104, true, 0, 0, [(0, 9), (1, 3), (2, 9), (3, 9), (4, 3), (5, 3), (6, 9), (7, 9)], [.str ⟨#[]⟩, .int .i64 0, .str ⟨#[]⟩, .str ⟨#[]⟩, .int .i64 0, .int .i64 0, .str ⟨#[]⟩, .str ⟨#[]⟩], none, false, false, false, [(0, 1), (1, 1), (2, 1), (3, 1), (4, 1), (5, 1), (6, 1), (7, 1)], [0, 0, 0, 0, 0, 0, 0, 0], [2, 1, 2, 2, 1, 1, 2, 2]⟩),
  (80, ⟨2, 32, true, 0, 0, [(0, 9), (1, 9)], [.str ⟨#[]⟩, .str ⟨#[]⟩], none, false, false, false, [(0, 1), (1, 1)], [0, 0], []⟩),
  (81, ⟨2, 32, true, 0, 0, [(0, 9), (1, 9)], [.str ⟨#[]⟩, .str ⟨#[]⟩], none, false, false, false, [(0, 1), (1, 1)], [0, 0], [2, 2]⟩),
  (82, ⟨3, 40, true, 0, 0, [(0, 9), (1, 3), (2, 9)], [.str ⟨#[]⟩, .int .i64 0, .str ⟨#[]⟩], none, false, false, false, [(0, 1), (1, 1), (2, 1)], [0, 0, 0], []⟩),
  (83, ⟨3, 40, true, 0, 0, [(0, 9), (1, 3), (2, 9)], [.str ⟨#[]⟩, .int .i64 0, .str ⟨#[]⟩], none, false, false, false, [(0, 1), (1, 1), (2, 1)], [0, 0, 0], [2, 1, 2]⟩),
  (84, ⟨4, 64, true, 0, 0, [(0, 9), (1, 9), (2, 9), (3, 9)], [.str ⟨#[]⟩, .str ⟨#[]⟩, .str ⟨#[]⟩, .str ⟨#[]⟩], none, false, false, false, [(0, 1), (1, 1), (2, 1), (3, 1)], [0, 0, 0, 0], []⟩),
  (85, ⟨4, 64, true, 0, 0, [(0, 9), (1, 9), (2, 9), (3, 9)], [.str ⟨#[]⟩, .str ⟨#[]⟩, .str ⟨#[]⟩, .str ⟨#[]⟩], none, false, false, false, [(0, 1), (1, 1), (2, 1), (3, 1)], [0, 0, 0, 0], [2, 2, 2, 2]⟩),
  (94, ⟨1, 24, false, 3, 0, [], [.nil], none, false, true, false, [], [1], []⟩),
  (109, ⟨2, 32, true, 0, 0, [(0, 28), (1, 3)], [.nil, .int .i64 0], none, false, false, false, [(0, 1), (1, 1)], [1, 0], []⟩),
  (110, ⟨2, 32, true, 0, 0, [(0, 28), (1, 3)], [.nil, .int .i64 0], none, false, false, false, [(0, 1), (1, 1)], [1, 0], []⟩),
  (112, ⟨2, 32, true, 0, 0, [(0, 9), (1, 9)], [.str ⟨#[]⟩, .str ⟨#[]⟩], none, false, false, false, [(0, 1), (1, 1)], [0, 0], [2, 2]⟩),
  (114, ⟨3, 40, true, 0, 0, [(0, 9), (1, 3), (2, 9)], [.str ⟨#[]⟩, .int .i64 0, .str ⟨#[]⟩], none, false, false, false, [(0, 1), (1, 1), (2, 1)], [0, 0, 0], [2, 1, 2]⟩),
  (116, ⟨4, 64, true, 0, 0, [(0, 9), (1, 9), (2, 9), (3, 9)], [.str ⟨#[]⟩, .str ⟨#[]⟩, .str ⟨#[]⟩, .str ⟨#[]⟩], none, false, false, false, [(0, 1), (1, 1), (2, 1), (3, 1)], [0, 0, 0, 0], [2, 2, 2, 2]⟩),
  (122, ⟨1, 24, false, 139, 0, [], [.nil], none, false, true, false, [], [2], []⟩),
  (134, ⟨2, 32, true, 0, 0, [(0, 28), (1, 3)], [.nil, .int .i64 0], none, false, false, false, [(0, 1), (1, 1)], [1, 0], []⟩),
  (139, ⟨2, 32, true, 9, 2, [], [.str ⟨#[]⟩, .str ⟨#[]⟩], none, false, false, false, [(0, 1), (1, 1)], [0, 0], [2, 2]⟩),
  (145, ⟨24, 24, true, 5, 24, [], [.int .u8 0, .int .u8 0, .int .u8 0, .int .u8 0, .int .u8 0, .int .u8 0, .int .u8 0, .int .u8 0, .int .u8 0, .int .u8 0, .int .u8 0, .int .u8 0, .int .u8 0, .int .u8 0, .int .u8 0, .int .u8 0, .int .u8 0, .int .u8 0, .int .u8 0, .int .u8 0, .int .u8 0, .int .u8 0, .int .u8 0, .int .u8 0], none, false, false, false, [(0, 1), (1, 1), (2, 1), (3, 1), (4, 1), (5, 1), (6, 1), (7, 1), (8, 1), (9, 1), (10, 1), (11, 1), (12, 1), (13, 1), (14, 1), (15, 1), (16, 1), (17, 1), (18, 1), (19, 1), (20, 1), (21, 1), (22, 1), (23, 1)], [0, 0, 0, 0, 0, 0, 0, 0, 0, 0, 0, 0, 0, 0, 0, 0, 0, 0, 0, 0, 0, 0, 0, 0], [1, 1, 1, 1, 1, 1, 1, 1, 1, 1, 1, 1, 1, 1, 1, 1, 1, 1, 1, 1, 1, 1, 1, 1]⟩),
  (146, ⟨1, 8, false, 0, 0, [], [.int .u64 0], some .u64, false, false, false, [], [0], []⟩),
  (154, ⟨1, 8, false, 0, 0, [], [.int .u64 0], some .u64, false, false, false, [], [0], []⟩),
  (158, ⟨20, 160, true, 146, 20, [], [.int .u64 0, .int .u64 0, .int .u64 0, .int .u64 0, .int .u64 0, .int .u64 0, .int .u64 0, .int .u64 0, .int .u64 0, .int .u64 0, .int .u64 0, .int .u64 0, .int .u64 0, .int .u64 0, .int .u64 0, .int .u64 0, .int .u64 0, .int .u64 0, .int .u64 0, .int .u64 0], none, false, false, false, [(0, 1), (1, 1), (2, 1), (3, 1), (4, 1), (5, 1), (6, 1), (7, 1), (8, 1), (9, 1), (10, 1), (11, 1), (12, 1), (13, 1), (14, 1), (15, 1), (16, 1), (17, 1), (18, 1), (19, 1)], [0, 0, 0, 0, 0, 0, 0, 0, 0, 0, 0, 0, 0, 0, 0, 0, 0, 0, 0, 0], [1, 1, 1, 1, 1, 1, 1, 1, 1, 1, 1, 1, 1, 1, 1, 1, 1, 1, 1, 1]⟩),
  (159, ⟨1, 4, false, 0, 0, [], [.int .u32 0], some .u32, false, false, false, [], [0], []⟩),
  (160, ⟨65, 65, true, 5, 65, [], [.int .u8 0, .int .u8 0, .int .u8 0, .int .u8 0, .int .u8 0, .int .u8 0, .int .u8 0, .int .u8 0, .int .u8 0, .int .u8 0, .int .u8 0, .int .u8 0, .int .u8 0, .int .u8 0, .int .u8 0, .int .u8 0, .int .u8 0, .int .u8 0, .int .u8 0, .int .u8 0, .int .u8 0, .int .u8 0, .int .u8 0, .int .u8 0, .int .u8 0, .int .u8 0, .int .u8 0, .int .u8 0, .int .u8 0, .int .u8 0, .int .u8 0, .int .u8 0, .int .u8 0, .int .u8 0, .int .u8 0, .int .u8 0, .int .u8 0, .int .u8 0, .int .u8 0, .int .u8 0, .int .u8 0, .int .u8 0, .int .u8 0, .int .u8 0, .int .u8 0, .int .u8 0, .int .u8 0, .int .u8 0, .int .u8 0, .int .u8 0, .int .u8 0, .int .u8 0, .int .u8 0, .int .u8 0, .int .u8 0, .int .u8 0, .int .u8 0, .int .u8 0, .int .u8 0, .int .u8 0, .int .u8 0, .int .u8 0, .int .u8 0, .int .u8 0, .int .u8 0], none, false, false, false, [(0, 1), (1, 1), (2, 1), (3, 1), (4, 1), (5, 1), (6, 1), (7, 1), (8, 1), (9, 1), (10, 1), (11, 1), (12, 1), (13, 1), (14, 1), (15, 1), (16, 1), (17, 1), (18, 1), (19, 1), (20, 1), (21, 1), (22, 1), (23, 1), (24, 1), (25, 1), (26, 1), (27, 1), (28, 1), (29, 1), (30, 1), (31, 1), (32, 1), (33, 1), (34, 1), (35, 1), (36, 1), (37, 1), (38, 1), (39, 1), (40, 1), (41, 1), (42, 1), (43, 1), (44, 1), (45, 1), (46, 1), (47, 1), (48, 1), (49, 1), (50, 1), (51, 1), (52, 1), (53, 1), (54, 1), (55, 1), (56, 1), (57, 1), (58, 1), (59, 1), (60, 1), (61, 1), (62, 1), (63, 1), (64, 1)], [0, 0, 0, 0, 0, 0, 0, 0, 0, 0, 0, 0, 0, 0, 0, 0, 0, 0, 0, 0, 0, 0, 0, 0, 0, 0, 0, 0, 0, 0, 0, 0, 0, 0, 0, 0, 0, 0, 0, 0, 0, 0, 0, 0, 0, 0, 0, 0, 0, 0, 0, 0, 0, 0, 0, 0, 0, 0, 0, 0, 0, 0, 0, 0, 0], []⟩),
  (166, ⟨256, 256, true, 5, 256, [], [.int .u8 0, .int .u8 0, .int .u8 0, .int .u8 0, .int .u8 0, .int .u8 0, .int .u8 0, .int .u8 0, .int .u8 0, .int .u8 0, .int .u8 0, .int .u8 0, .int .u8 0, .int .u8 0, .int .u8 0, .int .u8 0, .int .u8 0, .int .u8 0, .int .u8 0, .int .u8 0, .int .u8 0, .int .u8 0, .int .u8 0, .int .u8 0, .int .u8 0, .int .u8 0, .int .u8 0, .int .u8 0, .int .u8 0, .int .u8 0, .int .u8 0, .int .u8 0, .int .u8 0, .int .u8 0, .int .u8 0, .int .u8 0, .int .u8 0, .int .u8 0, .int .u8 0, .int .u8 0, .int .u8 0, .int .u8 0, .int .u8 0, .int .u8 0, .int .u8 0, .int .u8 0, .int .u8 0, .int .u8 0, .int .u8 0, .int .u8 0, .int .u8 0, .int .u8 0, .int .u8 0, .int .u8 0, .int .u8 0, .int .u8 0, .int .u8 0, .int .u8 0, .int .u8 0, .int .u8 0, .int .u8 0, .int .u8 0, .int .u8 0, .int .u8 0, .int .u8 0, .int .u8 0, .int .u8 0, .int .u8 0, .int .u8 0, .int .u8 0, .int .u8 0, .int .u8 0, .int .u8 0, .int .u8 0, .int .u8 0, .int .u8 0, .int .u8 0, .int .u8 0, .int .u8 0, .int .u8 0, .int .u8 0, .int .u8 0, .int .u8 0, .int .u8 0, .int .u8 0, .int .u8 0, .int .u8 0, .int .u8 0, .int .u8 0, .int .u8 0, .int .u8 0, .int .u8 0, .int .u8 0, .int .u8 0, .int .u8 0, .int .u8 0, .int .u8 0, .int .u8 0, .int .u8 0, .int .u8 0, .int .u8 0, .int .u8 0, .int .u8 0, .int .u8 0, .int .u8 0, .int .u8 0, .int .u8 0, .int .u8 0, .int .u8 0, .int .u8 0, .int .u8 0, .int .u8 0, .int .u8 0, .int .u8 0, .int .u8 0, .int .u8 0, .int .u8 0, .int .u8 0, .int .u8 0, .int .u8 0, .int .u8 0, .int .u8 0, .int .u8 0, .int .u8 0, .int .u8 0, .int .u8 0, .int .u8 0, .int .u8 0, .int .u8 0, .int .u8 0, .int .u8 0, .int .u8 0, .int .u8 0, .int .u8 0, .int .u8 0, .int .u8 0, .int .u8 0, .int .u8 0, .int .u8 0, .int .u8 0, .int .u8 0, .int .u8 0, .int .u8 0, .int .u8 0, .int .u8 0, .int .u8 0, .int .u8 0, .int .u8 0, .int .u8 0, .int .u8 0, .int .u8 0, .int .u8 0, .int .u8 0, .int .u8 0, .int .u8 0, .int .u8 0, .int .u8 0, .int .u8 0, .int .u8 0, .int .u8 0, .int .u8 0, .int .u8 0, .int .u8 0, .int .u8 0, .int .u8 0, .int .u8 0, .int .u8 0, .int .u8 0, .int .u8 0, .int .u8 0, .int .u8 0, .int .u8 0, .int .u8 0, .int .u8 0, .int .u8 0, .int .u8 0, .int .u8 0, .int .u8 0, .int .u8 0, .int .u8 0, .int .u8 0, .int .u8 0, .int .u8 0, .int .u8 0, .int .u8 0, .int .u8 0, .int .u8 0, .int .u8 0, .int .u8 0, .int .u8 0, .int .u8 0, .int .u8 0, .int .u8 0, .int .u8 0, .int .u8 0, .int .u8 0, .int .u8 0, .int .u8 0, .int .u8 0, .int .u8 0, .int .u8 0, .int .u8 0, .int .u8 0, .int .u8 0, .int .u8 0, .int .u8 0, .int .u8 0, .int .u8 0, .int .u8 0, .int .u8 0, .int .u8 0, .int .u8 0, .int .u8 0, .int .u8 0, .int .u8 0, .int .u8 0, .int .u8 0, .int .u8 0, .int .u8 0, .int .u8 0, .int .u8 0, .int .u8 0, .int .u8 0, .int .u8 0, .int .u8 0, .int .u8 0, .int .u8 0, .int .u8 0, .int .u8 0, .int .u8 0, .int .u8 0, .int .u8 0, .int .u8 0, .int .u8 0, .int .u8 0, .int .u8 0, .int .u8 0, .int .u8 0, .int .u8 0, .int .u8 0, .int .u8 0, .int .u8 0, .int .u8 0, .int .u8 0, .int .u8 0, .int .u8 0, .int .u8 0, .int .u8 0, .int .u8 0, .int .u8 0, .int .u8 0, .int .u8 0, .int .u8 0, .int .u8 0, .int .u8 0, .int .u8 0], none, false, false, false, [(0, 1), (1, 1), (2, 1), (3, 1), (4, 1), (5, 1), (6, 1), (7, 1), (8, 1), (9, 1), (10, 1), (11, 1), (12, 1), (13, 1), (14, 1), (15, 1), (16, 1), (17, 1), (18, 1), (19, 1), (20, 1), (21, 1), (22, 1), (23, 1), (24, 1), (25, 1), (26, 1), (27, 1), (28, 1), (29, 1), (30, 1), (31, 1), (32, 1), (33, 1), (34, 1), (35, 1), (36, 1), (37, 1), (38, 1), (39, 1), (40, 1), (41, 1), (42, 1), (43, 1), (44, 1), (45, 1), (46, 1), (47, 1), (48, 1), (49, 1), (50, 1), (51, 1), (52, 1), (53, 1), (54, 1), (55, 1), (56, 1), (57, 1), (58, 1), (59, 1), (60, 1), (61, 1), (62, 1), (63, 1), (64, 1), (65, 1), (66, 1), (67, 1), (68, 1), (69, 1), (70, 1), (71, 1), (72, 1), (73, 1), (74, 1), (75, 1), (76, 1), (77, 1), (78, 1), (79, 1), (80, 1), (81, 1), (82, 1), (83, 1), (84, 1), (85, 1), (86, 1), (87, 1), (88, 1), (89, 1), (90, 1), (91, 1), (92, 1), (93, 1), (94, 1), (95, 1), (96, 1), (97, 1), (98, 1), (99, 1), (100, 1), (101, 1), (102, 1), (103, 1), (104, 1), (105, 1), (106, 1), (107, 1), (108, 1), (109, 1), (110, 1), (111, 1), (112, 1), (113, 1), (114, 1), (115, 1), (116, 1), (117, 1), (118, 1), (119, 1), (120, 1), (121, 1), (122, 1), (123, 1), (124, 1), (125, 1), (126, 1), (127, 1), (128, 1), (129, 1), (130, 1), (131, 1), (132, 1), (133, 1), (134, 1), (135, 1), (136, 1), (137, 1), (138, 1), (139, 1), (140, 1), (141, 1), (142, 1), (143, 1), (144, 1), (145, 1), (146, 1), (147, 1), (148, 1), (149, 1), (150, 1), (151, 1), (152, 1), (153, 1), (154, 1), (155, 1), (156, 1), (157, 1), (158, 1), (159, 1), (160, 1), (161, 1), (162, 1), (163, 1), (164, 1), (165, 1), (166, 1), (167, 1), (168, 1), (169, 1), (170, 1), (171, 1), (172, 1), (173, 1), (174, 1), (175, 1), (176, 1), (177, 1), (178, 1), (179, 1), (180, 1), (181, 1), (182, 1), (183, 1), (184, 1), (185, 1), (186, 1), (187, 1), (188, 1), (189, 1), (190, 1), (191, 1), (192, 1), (193, 1), (194, 1), (195, 1), (196, 1), (197, 1), (198, 1), (199, 1), (200, 1), (201, 1), (202, 1), (203, 1), (204, 1), (205, 1), (206, 1), (207, 1), (208, 1), (209, 1), (210, 1), (211, 1), (212, 1), (213, 1), (214, 1), (215, 1), (216, 1), (217, 1), (218, 1), (219, 1), (220, 1), (221, 1), (222, 1), (223, 1), (224, 1), (225, 1), (226, 1), (227, 1), (228, 1), (229, 1), (230, 1), (231, 1), (232, 1), (233, 1), (234, 1), (235, 1), (236, 1), (237, 1), (238, 1), (239, 1), (240, 1), (241, 1), (242, 1), (243, 1), (244, 1), (245, 1), (246, 1), (247, 1), (248, 1), (249, 1), (250, 1), (251, 1), (252, 1), (253, 1), (254, 1), (255, 1)], [0, 0, 0, 0, 0, 0, 0, 0, 0, 0, 0, 0, 0, 0, 0, 0, 0, 0, 0, 0, 0, 0, 0, 0, 0, 0, 0, 0, 0, 0, 0, 0, 0, 0, 0, 0, 0, 0, 0, 0, 0, 0, 0, 0, 0, 0, 0, 0, 0, 0, 0, 0, 0, 0, 0, 0, 0, 0, 0, 0, 0, 0, 0, 0, 0, 0, 0, 0, 0, 0, 0, 0, 0, 0, 0, 0, 0, 0, 0, 0, 0, 0, 0, 0, 0, 0, 0, 0, 0, 0, 0, 0, 0, 0, 0, 0, 0, 0, 0, 0, 0, 0, 0, 0, 0, 0, 0, 0, 0, 0, 0, 0, 0, 0, 0, 0, 0, 0, 0, 0, 0, 0, 0, 0, 0, 0, 0, 0, 0, 0, 0, 0, 0, 0, 0, 0, 0, 0, 0, 0, 0, 0, 0, 0, 0, 0, 0, 0, 0, 0, 0, 0, 0, 0, 0, 0, 0, 0, 0, 0, 0, 0, 0, 0, 0, 0, 0, 0, 0, 0, 0, 0, 0, 0, 0, 0, 0, 0, 0, 0, 0, 0, 0, 0, 0, 0, 0, 0, 0, 0, 0, 0, 0, 0, 0, 0, 0, 0, 0, 0, 0, 0, 0, 0, 0, 0, 0, 0, 0, 0, 0, 0, 0, 0, 0, 0, 0, 0, 0, 0, 0, 0, 0, 0, 0, 0, 0, 0, 0, 0, 0, 0, 0, 0, 0, 0, 0, 0, 0, 0, 0, 0, 0, 0, 0, 0, 0, 0, 0, 0, 0, 0, 0, 0, 0, 0], []⟩),
  (167, ⟨2, 2, true, 0, 0, [(0, 5), (1, 5)], [.int .u8 0, .int .u8 0], none, false, false, false, [(0, 1), (1, 1)], [0, 0], []⟩),
  (168, ⟨2, 2, true, 0, 0, [(0, 5), (1, 5)], [.int .u8 0, .int .u8 0], none, false, false, false, [(0, 1), (1, 1)], [0, 0], []⟩),
  (169, ⟨32, 32, true, 168, 16, [], [.int .u8 0, .int .u8 0, .int .u8 0, .int .u8 0, .int .u8 0, .int .u8 0, .int .u8 0, .int .u8 0, .int .u8 0, .int .u8 0, .int .u8 0, .int .u8 0, .int .u8 0, .int .u8 0, .int .u8 0, .int .u8 0, .int .u8 0, .int .u8 0, .int .u8 0, .int .u8 0, .int .u8 0, .int .u8 0, .int .u8 0, .int .u8 0, .int .u8 0, .int .u8 0, .int .u8 0, .int .u8 0, .int .u8 0, .int .u8 0, .int .u8 0, .int .u8 0], none, false, false, false, [(0, 2), (2, 2), (4, 2), (6, 2), (8, 2), (10, 2), (12, 2), (14, 2), (16, 2), (18, 2), (20, 2), (22, 2), (24, 2), (26, 2), (28, 2), (30, 2)], [0, 0, 0, 0, 0, 0, 0, 0, 0, 0, 0, 0, 0, 0, 0, 0, 0, 0, 0, 0, 0, 0, 0, 0, 0, 0, 0, 0, 0, 0, 0, 0], []⟩),
  (170, ⟨32, 32, true, 5, 32, [], [.int .u8 0, .int .u8 0, .int .u8 0, .int .u8 0, .int .u8 0, .int .u8 0, .int .u8 0, .int .u8 0, .int .u8 0, .int .u8 0, .int .u8 0, .int .u8 0, .int .u8 0, .int .u8 0, .int .u8 0, .int .u8 0, .int .u8 0, .int .u8 0, .int .u8 0, .int .u8 0, .int .u8 0, .int .u8 0, .int .u8 0, .int .u8 0, .int .u8 0, .int .u8 0, .int .u8 0, .int .u8 0, .int .u8 0, .int .u8 0, .int .u8 0, .int .u8 0], none, false, false, false, [(0, 1), (1, 1), (2, 1), (3, 1), (4, 1), (5, 1), (6, 1), (7, 1), (8, 1), (9, 1), (10, 1), (11, 1), (12, 1), (13, 1), (14, 1), (15, 1), (16, 1), (17, 1), (18, 1), (19, 1), (20, 1), (21, 1), (22, 1), (23, 1), (24, 1), (25, 1), (26, 1), (27, 1), (28, 1), (29, 1), (30, 1), (31, 1)], [0, 0, 0, 0, 0, 0, 0, 0, 0, 0, 0, 0, 0, 0, 0, 0, 0, 0, 0, 0, 0, 0, 0, 0, 0, 0, 0, 0, 0, 0, 0, 0], [1, 1, 1, 1, 1, 1, 1, 1, 1, 1, 1, 1, 1, 1, 1, 1, 1, 1, 1, 1, 1, 1, 1, 1, 1, 1, 1, 1, 1, 1, 1, 1]⟩),
  (171, ⟨64, 64, true, 5, 64, [], [.int .u8 0, .int .u8 0, .int .u8 0, .int .u8 0, .int .u8 0, .int .u8 0, .int .u8 0, .int .u8 0, .int .u8 0, .int .u8 0, .int .u8 0, .int .u8 0, .int .u8 0, .int .u8 0, .int .u8 0, .int .u8 0, .int .u8 0, .int .u8 0, .int .u8 0, .int .u8 0, .int .u8 0, .int .u8 0, .int .u8 0, .int .u8 0, .int .u8 0, .int .u8 0, .int .u8 0, .int .u8 0, .int .u8 0, .int .u8 0, .int .u8 0, .int .u8 0, .int .u8 0, .int .u8 0, .int .u8 0, .int .u8 0, .int .u8 0, .int .u8 0, .int .u8 0, .int .u8 0, .int .u8 0, .int .u8 0, .int .u8 0, .int .u8 0, .int .u8 0, .int .u8 0, .int .u8 0, .int .u8 0, .int .u8 0, .int .u8 0, .int .u8 0, .int .u8 0, .int .u8 0, .int .u8 0, .int .u8 0, .int .u8 0, .int .u8 0, .int .u8 0, .int .u8 0, .int .u8 0, .int .u8 0, .int .u8 0, .int .u8 0, .int .u8 0], none, false, false, false, [(0, 1), (1, 1), (2, 1), (3, 1), (4, 1), (5, 1), (6, 1), (7, 1), (8, 1), (9, 1), (10, 1), (11, 1), (12, 1), (13, 1), (14, 1), (15, 1), (16, 1), (17, 1), (18, 1), (19, 1), (20, 1), (21, 1), (22, 1), (23, 1), (24, 1), (25, 1), (26, 1), (27, 1), (28, 1), (29, 1), (30, 1), (31, 1), (32, 1), (33, 1), (34, 1), (35, 1), (36, 1), (37, 1), (38, 1), (39, 1), (40, 1), (41, 1), (42, 1), (43, 1), (44, 1), (45, 1), (46, 1), (47, 1), (48, 1), (49, 1), (50, 1), (51, 1), (52, 1), (53, 1), (54, 1), (55, 1), (56, 1), (57, 1), (58, 1), (59, 1), (60, 1), (61, 1), (62, 1), (63, 1)], [0, 0, 0, 0, 0, 0, 0, 0, 0, 0, 0, 0, 0, 0, 0, 0, 0, 0, 0, 0, 0, 0, 0, 0, 0, 0, 0, 0, 0, 0, 0, 0, 0, 0, 0, 0, 0, 0, 0, 0, 0, 0, 0, 0, 0, 0, 0, 0, 0, 0, 0, 0, 0, 0, 0, 0, 0, 0, 0, 0, 0, 0, 0, 0], []⟩),
  (178, ⟨1, 1, false, 0, 0, [], [.int .u8 0], some .u8, false, false, false, [], [0], []⟩),
  (179, ⟨1, 1, false, 0, 0, [], [.int .u8 0], some .u8, false, false, false, [], [0], []⟩),
  (182, ⟨1, 4, false, 0, 0, [], [.int .i32 0], some .i32, false, false, false, [], [0], []⟩),
  (183, ⟨1, 4, false, 0, 0, [], [.int .i32 0], some .i32, false, false, false, [], [0], []⟩)]
theorem tok : TOk Tryd.prog (lk tab) := tok_of tab (by kernel_rfl)
theorem hP : Tryd.prog.follows .mixedOrders = true := by kernel_rfl
def en_str (x : ByteArray) : List V := [.str x]
def sv_str (l : List ByteArray) : V := .sl 1 l.length (l.map en_str)
def ob_str (l : List ByteArray) : Ob := .arr 9 1 (l.map en_str)
theorem bare_en_str (x : ByteArray) : (en_str x).all V.bare = true := rfl
theorem rdm_en_str (l : List ByteArray) (i : Int) (h0 : 0 ≤ i) (h1 : i < (l.length : Int)) : (l.map en_str)[i.toNat]? = some (en_str (rdOf ByteArray.empty l i)) := by
  have : i.toNat < l.length := by omega
  simp [rdOf, this]
def en_u8 (x : Int) : List V := [.int .u8 x]
def sv_u8 (l : List Int) : V := .sl 1 l.length (l.map en_u8)
def ob_u8 (l : List Int) : Ob := .arr 5 1 (l.map en_u8)
theorem bare_en_u8 (x : Int) : (en_u8 x).all V.bare = true := rfl
theorem rdm_en_u8 (l : List Int) (i : Int) (h0 : 0 ≤ i) (h1 : i < (l.length : Int)) : (l.map en_u8)[i.toNat]? = some (en_u8 (rd l i)) := by
  have : i.toNat < l.length := by omega
  simp [rd, this]
def en_L_u8 (x : List Int) : List V := [(sv_u8 x)]
def sv_L_u8 (l : List (List Int)) : V := .sl 1 l.length (l.map en_L_u8)
def ob_L_u8 (l : List (List Int)) : Ob := .arr 28 1 (l.map en_L_u8)
theorem rdm_en_L_u8 (l : List (List Int)) (i : Int) (h0 : 0 ≤ i) (h1 : i < (l.length : Int)) : (l.map en_L_u8)[i.toNat]? = some (en_L_u8 (rdOf ([] : List Int) l i)) := by
  have : i.toNat < l.length := by omega
  simp [rdOf, this]
attribute [local irreducible] callE Lp Sq Cut RetOk Fits

theorem spec_l1Open.ac {l0 : List Int} {r : (List Int) × Int} (H : spec_l1Open.f l0 = some r) : ACalls Tryd.prog G 40 [] [(sv_u8 l0)] [.box [(sv_u8 r.1), .int .i64 r.2]] (.bp 0 0) := by
  refine acalls_of tok hP Tryd.func40 rfl (by kernel_rfl) [.tmp 2] rfl (by kernel_rfl) (Nat.le_of_ble_eq_true rfl) (.l .n (.l .n (.c .n .n))) rfl ?_
  unfold spec_l1Open.f at H
  conv => whnf
  refine br_d H (fun c H => ?_) (fun c H => ?_)
  conv => whnf
  refine Nd.mk (by decide) ?_
  conv => whnf
  refine nd_ H (fun c H => ?_)
  conv => whnf
  refine cut_ 88 [(2, .bp 72 0)] [(72, .box [.sl 1 ((2000 : Int).toNat) ((l0.take (2000 : Int).toNat).map en_u8), .int .i64 0])] rfl ⟨.inl rfl, trivial⟩ ⟨bx_eq rfl ⟨sl_e rfl lm_ lm_, ⟨rfl, trivial⟩⟩, trivial⟩ ?_
  conv => whnf
  injection H with H; subst H
  exact ret_gen [some 72] [] ((rfl)) ⟨bx_eq rfl ⟨sl_e rfl lm_ lm_, ⟨rfl, trivial⟩⟩, trivial⟩ rfl
  conv => whnf
  refine cut_ 64 [(2, .bp 48 0)] [(48, .box [(sv_u8 l0), .int .i64 0])] rfl ⟨.inl rfl, trivial⟩ ⟨rfl, trivial⟩ ?_
  conv => whnf
  injection H with H; subst H
  exact ret_gen [some 48] [] ((rfl)) ⟨rfl, trivial⟩ rfl
theorem spec_l1Rd_pick.ac {a0_0 : List Int} {a0_1 : Int} {a1 : Int} {r : Int × (List Int) × Int} (H : spec_l1Rd_pick.f a0_0 a0_1 a1 = some r) : ACalls Tryd.prog G 41 [.box [(sv_u8 a0_0), .int .i64 a0_1]] [.bp 0 0, .int .i64 a1] [.box [(sv_u8 r.2.1), .int .i64 r.2.2]] (.int .i64 r.1) := by
  refine acalls_of tok hP Tryd.func41 rfl (by kernel_rfl) [.tmp 4] rfl (by kernel_rfl) (Nat.le_of_ble_eq_true rfl) (.l .n (.l .n (.l (.c .n (.l (.c .n .n) .n)) (.l .n (.l (.c .n (.l (.c .n .n) .n)) (.c .n .n)))))) rfl ?_
  unfold spec_l1Rd_pick.f at H
  conv => whnf
  refine br_d H (fun c H => ?_) (fun c H => ?_)
  conv => whnf
  refine Br.t ft_ ?_
  conv => whnf
  refine Br.t ft_ ?_
  conv => whnf
  refine Br.t ft_ ?_
  conv => whnf
  refine Br.t ft_ ?_
  conv => whnf
  refine Br.t ft_ ?_
  conv => whnf
  refine Br.t ft_ ?_
  conv => whnf
  refine cut_ 161 [(0, .bp 0 0), (1, .int .i64 a1), (24, .bool true)] [(0, .box [(sv_u8 a0_0), .int .i64 (wrap64 (a0_1 + 1))])] rfl ⟨.inl rfl, ⟨.inl rfl, ⟨.inl rfl, trivial⟩⟩⟩ ⟨rfl, trivial⟩ ?_
  conv => whnf
  refine Br.t rfl ?_
  conv => whnf
  refine cut_ 169 [(4, .int .i64 0)] [(0, .box [(sv_u8 a0_0), .int .i64 (wrap64 (a0_1 + 1))])] rfl ⟨.inl rfl, trivial⟩ ⟨rfl, trivial⟩ ?_
  conv => whnf
  injection H with H; subst H
  exact ret_gen [some 0] [] ((rtA_eq rfl)) ⟨rfl, trivial⟩ rfl
  conv => whnf
  refine Br.f ff_ ?_
  conv => whnf
  refine Br.f ff_ ?_
  conv => whnf
  refine Br.f ff_ ?_
  conv => whnf
  refine Br.f ff_ ?_
  conv => whnf
  refine Br.f ff_ ?_
  conv => whnf
  refine Br.f ff_ ?_
  conv => whnf
  refine cut_ 161 [(0, .bp 0 0), (1, .int .i64 a1), (24, .bool (decide ((a0_0.length : Int) = 0)))] [(0, .box [(sv_u8 a0_0), .int .i64 (wrap64 (a0_1 + 1))])] rfl ⟨.inl rfl, ⟨.inl rfl, ⟨.inl rfl, trivial⟩⟩⟩ ⟨rfl, trivial⟩ ?_
  conv => whnf
  refine br_d H (fun c H => ?_) (fun c H => ?_)
  conv => whnf
  refine cut_ 169 [(4, .int .i64 0)] [(0, .box [(sv_u8 a0_0), .int .i64 (wrap64 (a0_1 + 1))])] rfl ⟨.inl rfl, trivial⟩ ⟨rfl, trivial⟩ ?_
  conv => whnf
  injection H with H; subst H
  exact ret_gen [some 0] [] ((rtA_eq rfl)) ⟨rfl, trivial⟩ rfl
  conv => whnf
  refine cut_ 265 [(0, .bp 0 0), (1, .int .i64 a1), (5, .int .i64 (wrap64 ((wrap64 (a0_1 + 1)) - 1))), (36, .bool (decide ((wrap64 ((wrap64 (a0_1 + 1)) - 1)) < (a0_0.length : Int))))] [(0, .box [(sv_u8 a0_0), .int .i64 (wrap64 (a0_1 + 1))])] rfl ⟨.inl rfl, ⟨.inl rfl, ⟨.inl rfl, ⟨.inl rfl, trivial⟩⟩⟩⟩ ⟨rfl, trivial⟩ ?_
  conv => whnf
  refine br_d H (fun c H => ?_) (fun c H => ?_)
  conv => whnf
  refine nd_ H (fun c H => ?_)
  conv => whnf
  refine Nd.mk nf_ ?_
  conv => whnf
  refine El.mk (rdm_en_u8 _ _ nf_ nf_) ?_
  conv => whnf
  refine nd_ H (fun c H => ?_)
  conv => whnf
  refine cut_ 353 [(4, .int .i64 (Int.tmod (wrap64 (rd a0_0 (wrap64 ((wrap64 (a0_1 + 1)) - 1)))) a1))] [(0, .box [(sv_u8 a0_0), .int .i64 (wrap64 (a0_1 + 1))])] rfl ⟨.inl rfl, trivial⟩ ⟨rfl, trivial⟩ ?_
  conv => whnf
  injection H with H; subst H
  exact ret_gen [some 0] [] ((rtA_eq rfl)) ⟨rfl, trivial⟩ rfl
  conv => whnf
  refine nd_ H (fun c H => ?_)
  conv => whnf
  refine nd_ H (fun c H => ?_)
  conv => whnf
  refine nd_ H (fun c H => ?_)
  conv => whnf
  refine El.mk (rdm_en_u8 _ _ nf_ nf_) ?_
  conv => whnf
  refine Nd.mk nf_ ?_
  conv => whnf
  refine nd_ H (fun c H => ?_)
  conv => whnf
  refine nd_ H (fun c H => ?_)
  conv => whnf
  refine El.mk (rdm_en_u8 _ _ nf_ nf_) ?_
  conv => whnf
  refine Nd.mk nf_ ?_
  conv => whnf
  refine cut_ 633 [(1, .int .i64 a1), (6, .int .i64 (wrap64 ((wrap64 ((wrap64 ((wrap64 ((wrap64 (rd a0_0 (Int.tmod (wrap64 ((wrap64 (a0_1 + 1)) - 1)) (a0_0.length : Int)))) * 131)) + (wrap64 ((wrap64 (rd a0_0 (Int.tmod (wrap64 ((wrap64 ((wrap64 ((wrap64 (a0_1 + 1)) - 1)) * 7)) + 3)) (a0_0.length : Int)))) * 1117)))) + (wrap64 ((wrap64 ((wrap64 (a0_1 + 1)) - 1)) * 29)))) + (wrap64 ((wrap64 (Int.tdiv (wrap64 ((wrap64 (a0_1 + 1)) - 1)) (a0_0.length : Int))) * 53)))))] [(0, .box [(sv_u8 a0_0), .int .i64 (wrap64 (a0_1 + 1))])] rfl ⟨.inl rfl, ⟨.inl rfl, trivial⟩⟩ ⟨rfl, trivial⟩ ?_
  conv => whnf
  refine Nd.mk (by decide) ?_
  conv => whnf
  refine nd_ H (fun c H => ?_)
  conv => whnf
  injection H with H; subst H
  exact ret_gen [some 0] [] ((rtA_eq rfl)) ⟨rfl, trivial⟩ rfl
theorem spec_l1Rd_of.ac {a0_0 : List Int} {a0_1 : Int} {l1 : List ByteArray} {r : ByteArray × (List Int) × Int} (H : spec_l1Rd_of.f a0_0 a0_1 l1 = some r) : ACalls Tryd.prog G 42 [.box [(sv_u8 a0_0), .int .i64 a0_1]] [.bp 0 0, (sv_str l1)] [.box [(sv_u8 r.2.1), .int .i64 r.2.2]] (.str r.1) := by
  refine acalls_of tok hP Tryd.func42 rfl (by kernel_rfl) [.tmp 4] rfl (by kernel_rfl) (Nat.le_of_ble_eq_true rfl) .n rfl ?_
  unfold spec_l1Rd_of.f at H
  conv => whnf
  revert H; refine bind_elim (fun t11 A H => ?_)
  refine call_mk2 [0] (spec_l1Rd_pick.ac A) ⟨rfl, trivial⟩ rfl rfl rfl rfl rfl rfl rfl rfl ?_
  conv => whnf
  refine nd_ H (fun c H => ?_)
  conv => whnf
  refine nd_ H (fun c H => ?_)
  conv => whnf
  refine El.mk (rdm_en_str _ _ nf_ nf_) ?_
  conv => whnf
  injection H with H; subst H
  exact ret_gen [some 0] [] ((rtA_eq rfl)) ⟨rfl, trivial⟩ rfl
theorem spec_l1Many.l0_lp {F : (Exit → St → Prop) → St → Prop} {hv : List Tmp} {Q : Exit → St → Prop} {σ : St} {r : ByteArray} {k : Nat} {x0 : ByteArray} {x1 : Int} {x5 : ByteArray} (H : spec_l1Many.l0 k x0 x1 x5 = some r) (rn : List (Option Nat)) (h1 : Fits σ σ [] [(0, .str x0), (1, .int .i64 x1), (5, .str x5)] [] [] rn)
    (h2 : ∀ (k0 : Nat) (x0 : ByteArray) (x1 : Int) (x5 : ByteArray), k0 < k + 1 → spec_l1Many.l0 k0 x0 x1 x5 = some r → headN σ hv [] [(0, .str x0), (1, .int .i64 x1), (5, .str x5)] [] [] (F (fun e σ' => match e with | .normal => ∃ (y : Nat × ByteArray × Int × ByteArray) (rn : List (Option Nat)), (spec_l1Many.l0 y.1 y.2.1 y.2.2.1 y.2.2.2 = some r ∧ y.1 < k + 1) ∧ y.1 < k0 ∧ Fits σ σ' [] [(0, .str y.2.1), (1, .int .i64 y.2.2.1), (5, .str y.2.2.2)] [] [] rn | e => Q e σ'))) : Lp F hv Q σ := by
  unfold Lp
  refine ⟨Nat × ByteArray × Int × ByteArray, fun x => spec_l1Many.l0 x.1 x.2.1 x.2.2.1 x.2.2.2 = some r ∧ x.1 < k + 1, fun x => x.1, [], fun x => [(0, .str x.2.1), (1, .int .i64 x.2.2.1), (5, .str x.2.2.2)], fun x => [], fun x => [], ⟨(k, x0, x1, x5), rn, ⟨H, Nat.lt_succ_self _⟩, h1⟩, ?_⟩
  rintro ⟨k, x0, x1, x5⟩ ⟨H, hk⟩
  exact h2 k x0 x1 x5 hk H
theorem spec_l1Many.ac {k : Nat} {a0 : ByteArray} {a1 : Int} {r : ByteArray} (H : spec_l1Many.f k a0 a1 = some r) : ACalls Tryd.prog G 43 [] [.str a0, .int .i64 a1] [] (.str r) := by
  refine acalls_of tok hP Tryd.func43 rfl (by kernel_rfl) [.tmp 4] rfl (by kernel_rfl) (Nat.le_of_ble_eq_true rfl) (.l .n (.l .n (.l (.l .n (.c .n (.c .n .n))) .n))) rfl ?_
  unfold spec_l1Many.f at H
  conv => whnf
  refine spec_l1Many.l0_lp (k := k) H [] (fits_of ⟨.inl ⟨rfl, rfl⟩, ⟨.inl ⟨rfl, rfl⟩, ⟨.inl ⟨rfl, rfl⟩, trivial⟩⟩⟩ trivial fi_ trivial rfl) ?_
  intro k x0 x1 x5 hk H; rcases k with _ | k; exact none_elim H; rw [spec_l1Many.l0] at H; conv => whnf
  refine br_d H (fun c H => ?_) (fun c H => ?_)
  conv => whnf
  refine Nd.mk (by decide) ?_
  conv => whnf
  refine br_d H (fun c H => ?_) (fun c H => ?_)
  conv => whnf
  refine nd_ H (fun c H => ?_)
  conv => whnf
  refine cut_ 88 [(0, .str x0), (1, .int .i64 x1), (5, .str (x5 ++ x0))] [] rfl ⟨.inl rfl, ⟨.inl rfl, ⟨.inl rfl, trivial⟩⟩⟩ trivial ?_
  conv => whnf
  refine nd_ H (fun c H => ?_)
  conv => whnf
  refine cut_ 120 [(0, .str (x0 ++ x0)), (1, .int .i64 x1), (5, .str (x5 ++ x0))] [] rfl ⟨.inl rfl, ⟨.inl rfl, ⟨.inl rfl, trivial⟩⟩⟩ trivial ?_
  conv => whnf
  refine Nd.mk (by decide) ?_
  conv => whnf
  exact ⟨(k, x0 ++ x0, wrap64 (Int.tdiv x1 2), x5 ++ x0), [], ⟨H, lt_⟩, lt_, (fits_of ⟨.inl ⟨rfl, rfl⟩, ⟨.inl ⟨rfl, rfl⟩, ⟨.inl ⟨rfl, rfl⟩, trivial⟩⟩⟩ trivial fi_ trivial rfl)⟩
  conv => whnf
  refine cut_ 56 [(0, .str x0), (1, .int .i64 x1), (5, .str x5)] [] rfl ⟨.inl rfl, ⟨.inl rfl, ⟨.inl rfl, trivial⟩⟩⟩ trivial ?_
  conv => whnf
  refine nd_ H (fun c H => ?_)
  conv => whnf
  refine cut_ 88 [(0, .str (x0 ++ x0)), (1, .int .i64 x1), (5, .str x5)] [] rfl ⟨.inl rfl, ⟨.inl rfl, ⟨.inl rfl, trivial⟩⟩⟩ trivial ?_
  conv => whnf
  refine Nd.mk (by decide) ?_
  conv => whnf
  exact ⟨(k, x0 ++ x0, wrap64 (Int.tdiv x1 2), _), [], ⟨H, lt_⟩, lt_, (fits_of ⟨.inl ⟨rfl, rfl⟩, ⟨.inl ⟨rfl, rfl⟩, ⟨.inl ⟨rfl, rfl⟩, trivial⟩⟩⟩ trivial fi_ trivial rfl)⟩
  conv => whnf
  injection H with H; subst H
  exact ret_fz [] (rtA_eq rfl)
theorem spec_DrawPlantWords.j0_sq {F : (Exit → St → Prop) → St → Prop} {hv : List Tmp} {K : St → Prop} {Q : Exit → St → Prop} {σ : St} {r : ByteArray} {KK : Nat} {l0 : List Int} {x5 : Int}
    (h1 : F (fun e σ' => match e with | .normal => ∃ (y : Nat × (List Int) × Int × ByteArray) (rn : List (Option Nat)), (spec_DrawPlantWords.j0 y.1 l0 y.2.2.2 x5 y.2.1 y.2.2.1 = some r ∧ y.1 < KK) ∧ Fits σ σ' [16] [(4, .str y.2.2.2)] [(16, .box [(sv_u8 y.2.1), .int .i64 y.2.2.1])] [] rn | e => Q e σ') σ)
    (h2 : ∀ (k : Nat) (x1016000_1 : List Int) (x1016001_1 : Int) (x4_1 : ByteArray), k < KK → spec_DrawPlantWords.j0 k l0 x4_1 x5 x1016000_1 x1016001_1 = some r → headN σ hv [16] [(4, .str x4_1)] [(16, .box [(sv_u8 x1016000_1), .int .i64 x1016001_1])] [] K) : Sq F hv K Q σ := by
  unfold Sq
  refine ⟨Nat × (List Int) × Int × ByteArray, fun x => spec_DrawPlantWords.j0 x.1 l0 x.2.2.2 x5 x.2.1 x.2.2.1 = some r ∧ x.1 < KK, [16], fun x => [(4, .str x.2.2.2)], fun x => [(16, .box [(sv_u8 x.2.1), .int .i64 x.2.2.1])], fun x => [], h1, ?_⟩
  rintro ⟨k, x1016000_1, x1016001_1, x4_1⟩ ⟨H, hk⟩
  exact h2 k x1016000_1 x1016001_1 x4_1 hk H
theorem spec_DrawPlantWords.l0_lp {F : (Exit → St → Prop) → St → Prop} {hv : List Tmp} {Q : Exit → St → Prop} {σ : St} {r : ByteArray} {k : Nat} {l0 : List Int} {x4 : ByteArray} {x5 : Int} {x1016000 : List Int} {x1016001 : Int} (H : spec_DrawPlantWords.l0 k l0 x4 x5 x1016000 x1016001 = some r) (rn : List (Option Nat)) (h1 : Fits σ σ [16] [(4, .str x4), (5, .int .i64 x5)] [(16, .box [(sv_u8 x1016000), .int .i64 x1016001])] [] rn)
    (h2 : ∀ (k0 : Nat) (x4 : ByteArray) (x5 : Int) (x1016000 : List Int) (x1016001 : Int), k0 < k + 1 → spec_DrawPlantWords.l0 k0 l0 x4 x5 x1016000 x1016001 = some r → headN σ hv [16] [(4, .str x4), (5, .int .i64 x5)] [(16, .box [(sv_u8 x1016000), .int .i64 x1016001])] [] (F (fun e σ' => match e with | .normal => ∃ (y : Nat × ByteArray × Int × (List Int) × Int) (rn : List (Option Nat)), (spec_DrawPlantWords.l0 y.1 l0 y.2.1 y.2.2.1 y.2.2.2.1 y.2.2.2.2 = some r ∧ y.1 < k + 1) ∧ y.1 < k0 ∧ Fits σ σ' [16] [(4, .str y.2.1), (5, .int .i64 y.2.2.1)] [(16, .box [(sv_u8 y.2.2.2.1), .int .i64 y.2.2.2.2])] [] rn | e => Q e σ'))) : Lp F hv Q σ := by
  unfold Lp
  refine ⟨Nat × ByteArray × Int × (List Int) × Int, fun x => spec_DrawPlantWords.l0 x.1 l0 x.2.1 x.2.2.1 x.2.2.2.1 x.2.2.2.2 = some r ∧ x.1 < k + 1, fun x => x.1, [16], fun x => [(4, .str x.2.1), (5, .int .i64 x.2.2.1)], fun x => [(16, .box [(sv_u8 x.2.2.2.1), .int .i64 x.2.2.2.2])], fun x => [], ⟨(k, x4, x5, x1016000, x1016001), rn, ⟨H, Nat.lt_succ_self _⟩, h1⟩, ?_⟩
  rintro ⟨k, x4, x5, x1016000, x1016001⟩ ⟨H, hk⟩
  exact h2 k x4 x5 x1016000 x1016001 hk H
theorem spec_DrawPlantWords.ac {k : Nat} {l0 : List Int} {r : ByteArray} (H : spec_DrawPlantWords.f k l0 = some r) : ACalls Tryd.prog G 14 [] [(sv_u8 l0)] [] (.str r) := by
  refine acalls_of tok hP Tryd.func14 rfl (by kernel_rfl) [.tmp 2] rfl (by kernel_rfl) (Nat.le_of_ble_eq_true rfl) (.l .n (.l .n (.l .n (.l (.l .n (.l (.c .n .n) (.l (.j .n .n) .n))) .n)))) rfl ?_
  unfold spec_DrawPlantWords.f at H
  conv => whnf
  revert H; refine bind_elim (fun t46 A H => ?_)
  refine call_mk (spec_l1Open.ac A) (avAL_cons (avA_shut' rfl) (avAL_nil)) (Or.inl rfl) rfl rfl (Nat.le_of_ble_eq_true rfl) ?_
  conv => whnf
  revert H; refine bind_elim (fun t98 A H => ?_)
  refine call_mk2 [16] (spec_l1Rd_pick.ac A) ⟨rfl, trivial⟩ rfl rfl rfl rfl rfl rfl rfl rfl ?_
  conv => whnf
  refine spec_DrawPlantWords.l0_lp (l0 := l0) (k := k) H [] (fits_of ⟨.inl ⟨rfl, rfl⟩, ⟨.inl ⟨rfl, rfl⟩, trivial⟩⟩ trivial fi_ ⟨⟨_, rfl⟩, ⟨_, rfl, ⟨.inl ⟨rfl, rfl⟩, ⟨.inl ⟨rfl, rfl⟩, trivial⟩⟩⟩, trivial⟩ rfl) ?_
  intro k x4 x5 x1016000 x1016001 hk H; rcases k with _ | k; exact none_elim H; rw [spec_DrawPlantWords.l0] at H; conv => whnf
  refine cut_ 80 [(3, .bp 16 0), (4, .str x4), (5, .int .i64 x5), (11, .bool (decide (x5 > 0)))] [(16, .box [(sv_u8 x1016000), .int .i64 x1016001])] rfl ⟨.inl rfl, ⟨.inl rfl, ⟨.inl rfl, ⟨.inl rfl, trivial⟩⟩⟩⟩ ⟨rfl, trivial⟩ ?_
  conv => whnf
  refine br_d H (fun c H => ?_) (fun c H => ?_)
  conv => whnf
  refine spec_DrawPlantWords.j0_sq (l0 := l0) (x5 := x5) (KK := k + 1) (r := r) ?_ ?_
  conv => whnf
  revert H; refine bind_elim (fun t116 A H => ?_)
  refine call_mk2 [16] (spec_l1Rd_pick.ac A) ⟨rfl, trivial⟩ rfl rfl rfl rfl rfl rfl rfl rfl ?_
  conv => whnf
  refine br_d H (fun c H => ?_) (fun c H => ?_)
  conv => whnf
  refine nd_ H (fun c H => ?_)
  conv => whnf
  exact ⟨(k, t116.2.1, t116.2.2, x4 ++ (⟨#[35]⟩ : ByteArray)), [], ⟨H, lt_⟩, (fits_of ⟨.inl ⟨rfl, rfl⟩, trivial⟩ trivial fi_ ⟨⟨_, rfl⟩, ⟨_, rfl, ⟨.inl ⟨rfl, rfl⟩, ⟨.inl ⟨rfl, rfl⟩, trivial⟩⟩⟩, trivial⟩ rfl)⟩
  conv => whnf
  refine br_d H (fun c H => ?_) (fun c H => ?_)
  conv => whnf
  refine Or.inr ?_
  conv => whnf
  revert H; refine bind_elim (fun t117 A H => ?_)
  refine call_mk2 [16] (spec_l1Rd_of.ac A) ⟨rfl, trivial⟩ rfl rfl rfl rfl rfl (le_eq ⟨rfl, ⟨sl_e rfl lm_ lm_, trivial⟩⟩) rfl rfl ?_
  conv => whnf
  refine nd_ H (fun c H => ?_)
  conv => whnf
  exact ⟨(k, t117.2.1, t117.2.2, x4 ++ t117.1), [], ⟨H, lt_⟩, (fits_of ⟨.inl ⟨rfl, rfl⟩, trivial⟩ trivial fi_ ⟨⟨_, rfl⟩, ⟨_, rfl, ⟨.inl ⟨rfl, rfl⟩, ⟨.inl ⟨rfl, rfl⟩, trivial⟩⟩⟩, trivial⟩ rfl)⟩
  conv => whnf
  refine br_d H (fun c H => ?_) (fun c H => ?_)
  conv => whnf
  revert H; refine bind_elim (fun t118 A H => ?_)
  refine call_mk2 [16] (spec_l1Rd_pick.ac A) ⟨rfl, trivial⟩ rfl rfl rfl rfl rfl rfl rfl rfl ?_
  conv => whnf
  revert H; refine bind_elim (fun t119 A H => ?_)
  refine call_mk (spec_l1Many.ac A) (avAL_cons (avA_shut' rfl) (avAL_cons (avA_shut' rfl) (avAL_nil))) (Or.inl rfl) rfl rfl (Nat.le_of_ble_eq_true rfl) ?_
  conv => whnf
  refine nd_ H (fun c H => ?_)
  conv => whnf
  exact ⟨(k, t118.2.1, t118.2.2, x4 ++ t119), [], ⟨H, lt_⟩, (fits_of ⟨.inl ⟨rfl, rfl⟩, trivial⟩ trivial fi_ ⟨⟨_, rfl⟩, ⟨_, rfl, ⟨.inl ⟨rfl, rfl⟩, ⟨.inl ⟨rfl, rfl⟩, trivial⟩⟩⟩, trivial⟩ rfl)⟩
  conv => whnf
  refine Or.inr ?_
  conv => whnf
  revert H; refine bind_elim (fun t120 A H => ?_)
  refine call_mk2 [16] (spec_l1Rd_of.ac A) ⟨rfl, trivial⟩ rfl rfl rfl rfl rfl (le_eq ⟨rfl, ⟨sl_e rfl lm_ lm_, trivial⟩⟩) rfl rfl ?_
  conv => whnf
  refine nd_ H (fun c H => ?_)
  conv => whnf
  exact ⟨(k, t120.2.1, t120.2.2, x4 ++ t120.1), [], ⟨H, lt_⟩, (fits_of ⟨.inl ⟨rfl, rfl⟩, trivial⟩ trivial fi_ ⟨⟨_, rfl⟩, ⟨_, rfl, ⟨.inl ⟨rfl, rfl⟩, ⟨.inl ⟨rfl, rfl⟩, trivial⟩⟩⟩, trivial⟩ rfl)⟩
  intro k x1016000_1 x1016001_1 x4_1 hk H; rcases k with _ | k; exact none_elim H; rw [spec_DrawPlantWords.j0] at H; conv => whnf
  revert H; refine bind_elim (fun t113 A H => ?_)
  refine call_mk2 [16] (spec_l1Rd_pick.ac A) ⟨rfl, trivial⟩ rfl rfl rfl rfl rfl rfl rfl rfl ?_
  conv => whnf
  revert H; refine bind_elim (fun t114 A H => ?_)
  refine call_mk2 [16] (spec_l1Rd_pick.ac A) ⟨rfl, trivial⟩ rfl rfl rfl rfl rfl rfl rfl rfl ?_
  conv => whnf
  revert H; refine bind_elim (fun t115 A H => ?_)
  refine call_mk (spec_l1Many.ac A) (avAL_cons (avA_shut' rfl) (avAL_cons (avA_shut' rfl) (avAL_nil))) (Or.inl rfl) rfl rfl (Nat.le_of_ble_eq_true rfl) ?_
  conv => whnf
  refine nd_ H (fun c H => ?_)
  conv => whnf
  exact ⟨(k, x4_1 ++ t115, wrap64 (x5 - 1), t114.2.1, t114.2.2), [], ⟨H, lt_⟩, lt_, (fits_of ⟨.inl ⟨rfl, rfl⟩, ⟨.inl ⟨rfl, rfl⟩, trivial⟩⟩ trivial fi_ ⟨⟨_, rfl⟩, ⟨_, rfl, ⟨.inl ⟨rfl, rfl⟩, ⟨.inl ⟨rfl, rfl⟩, trivial⟩⟩⟩, trivial⟩ rfl)⟩
  conv => whnf
  injection H with H; subst H
  exact ret_fz [] (rtA_eq rfl)
end Go.Proofs.YteflhnpcgoijfaaDoor.FW
namespace Go.Proofs
open Go.Shelf Go.Sort Go.RowKit in
shelf_lay LaysM.n145 Nm 145 at Tryd as Tryd.gx145
end Go.Proofs
namespace Go.Proofs.YteflhnpcgoijfaaDoor.FW
open Go Go.Aw Go.RowKit Go.Proofs
set_option maxRecDepth 100000
set_option maxHeartbeats 40000000
variable {G : Nat → Option Obj}
attribute [local irreducible] callE Lp Sq Cut RetOk Fits
/-- what the package variables hold -/
class GvOk (G : Nat → Option Obj) : Prop where
  i : GInt G 0
theorem strings_Cut.ac [GvOk G] {s0 s1 : ByteArray} {r : ByteArray × ByteArray × Bool} (H : strings_Cut.f s0 s1 = some r) : ACalls Tryd.prog G 84 [] [.str s0, .str s1] [] (.tup [.str r.1, .str r.2.1, .bool r.2.2]) := by
  exact cutS_ac Tryd.gx145 ⟨_, Tryd.func84, by kernel_rfl, by kernel_rfl⟩ GvOk.i rfl rfl H
end Go.Proofs.YteflhnpcgoijfaaDoor.FW
namespace Go.Proofs
open Go.Shelf Go.Sort Go.RowKit in
shelf_lay LaysM.n146 Nm 146 at Tryd as Tryd.gx146
end Go.Proofs
namespace Go.Proofs.YteflhnpcgoijfaaDoor.FW
open Go Go.Aw Go.RowKit Go.Proofs
set_option maxRecDepth 100000
set_option maxHeartbeats 40000000
variable {G : Nat → Option Obj}
attribute [local irreducible] callE Lp Sq Cut RetOk Fits
theorem strings_Split.ac [GvOk G] {s0 s1 : ByteArray} {r : List ByteArray} (H : strings_Split.f s0 s1 = some r) : ACalls Tryd.prog G 85 [] [.str s0, .str s1] [] (.sl 1 r.length (r.map en_str)) := by
  exact splitS_ac Tryd.gx146 ⟨_, Tryd.func85, by kernel_rfl, by kernel_rfl⟩ GvOk.i rfl rfl H (fun _ => rfl)
theorem impl_cutWords.l1_lp {F : (Exit → St → Prop) → St → Prop} {hv : List Tmp} {Q : Exit → St → Prop} {σ : St} {r : (List ByteArray) × Bool} {k : Nat} {t129 : List ByteArray} {x5 : List ByteArray} {x33 : Int} (H : impl_cutWords.l1 k x5 x33 t129 = some r) (rn : List (Option Nat)) (h1 : Fits σ σ [] [(5, .own 0 x5.length), (33, .int .i64 x33)] [] [.arr 9 1 (x5.map en_str)] rn)
    (h2 : ∀ (k0 : Nat) (x5 : List ByteArray) (x33 : Int), k0 < k + 1 → impl_cutWords.l1 k0 x5 x33 t129 = some r → headN σ hv [] [(5, .own 0 x5.length), (33, .int .i64 x33)] [] [.arr 9 1 (x5.map en_str)] (F (fun e σ' => match e with | .normal => ∃ (y : Nat × (List ByteArray) × Int) (rn : List (Option Nat)), (impl_cutWords.l1 y.1 y.2.1 y.2.2 t129 = some r ∧ y.1 < k + 1) ∧ y.1 < k0 ∧ Fits σ σ' [] [(5, .own 0 y.2.1.length), (33, .int .i64 y.2.2)] [] [.arr 9 1 (y.2.1.map en_str)] rn | e => Q e σ'))) : Lp F hv Q σ := by
  unfold Lp
  refine ⟨Nat × (List ByteArray) × Int, fun x => impl_cutWords.l1 x.1 x.2.1 x.2.2 t129 = some r ∧ x.1 < k + 1, fun x => x.1, [], fun x => [(5, .own 0 x.2.1.length), (33, .int .i64 x.2.2)], fun x => [], fun x => [.arr 9 1 (x.2.1.map en_str)], ⟨(k, x5, x33), rn, ⟨H, Nat.lt_succ_self _⟩, h1⟩, ?_⟩
  rintro ⟨k, x5, x33⟩ ⟨H, hk⟩
  exact h2 k x5 x33 hk H
theorem impl_cutWords.l0_lp {F : (Exit → St → Prop) → St → Prop} {hv : List Tmp} {Q : Exit → St → Prop} {σ : St} {r : (List ByteArray) × Bool} {k : Nat} {t126 : ByteArray × ByteArray × Bool} {x16 : Int} (H : impl_cutWords.l0 k x16 t126 = some r) (rn : List (Option Nat)) (h1 : Fits σ σ [] [(16, .int .i64 x16)] [] [] rn)
    (h2 : ∀ (k0 : Nat) (x16 : Int), k0 < k + 1 → impl_cutWords.l0 k0 x16 t126 = some r → headN σ hv [] [(16, .int .i64 x16)] [] [] (F (fun e σ' => match e with | .normal => ∃ (y : Nat × Int) (rn : List (Option Nat)), (impl_cutWords.l0 y.1 y.2 t126 = some r ∧ y.1 < k + 1) ∧ y.1 < k0 ∧ Fits σ σ' [] [(16, .int .i64 y.2)] [] [] rn | e => Q e σ'))) : Lp F hv Q σ := by
  unfold Lp
  refine ⟨Nat × Int, fun x => impl_cutWords.l0 x.1 x.2 t126 = some r ∧ x.1 < k + 1, fun x => x.1, [], fun x => [(16, .int .i64 x.2)], fun x => [], fun x => [], ⟨(k, x16), rn, ⟨H, Nat.lt_succ_self _⟩, h1⟩, ?_⟩
  rintro ⟨k, x16⟩ ⟨H, hk⟩
  exact h2 k x16 hk H
theorem impl_cutWords.ac [GvOk G] {k : Nat} {a0 : ByteArray} {r : (List ByteArray) × Bool} (H : impl_cutWords.f k a0 = some r) : ACalls Tryd.prog G 38 [] [.str a0] [] (.tup [(sv_str r.1), .bool r.2]) := by
  refine acalls_of tok hP Tryd.func38 rfl (by kernel_rfl) [.tmp 2, .tmp 3] rfl (by kernel_rfl) (Nat.le_of_ble_eq_true rfl) (.l .n (.l .n (.l (.c .n (.l .n (.l .n (.l (.l .n (.c .n (.l (.c .n .n) .n))) .n)))) (.l .n (.l (.l .n (.l .n (.l .n (.l (.c .n .n) .n)))) (.c .n .n)))))) rfl ?_
  unfold impl_cutWords.f at H
  conv => whnf
  revert H; refine bind_elim (fun t126 A H => ?_)
  refine call_mk (strings_Cut.ac A) (avAL_cons (avA_shut' rfl) (avAL_cons (avA_shut' rfl) (avAL_nil))) (Or.inl rfl) rfl rfl (Nat.le_of_ble_eq_true rfl) ?_
  conv => whnf
  refine cut_ 96 [(0, .str t126.1), (15, .int .i64 (t126.1.size : Int)), (16, .int .i64 0)] [] rfl ⟨.inl rfl, ⟨.inl rfl, ⟨.inl rfl, trivial⟩⟩⟩ trivial ?_
  conv => whnf
  refine impl_cutWords.l0_lp (t126 := t126) (k := k) H [] (fits_of ⟨.inl ⟨rfl, rfl⟩, trivial⟩ trivial fi_ trivial rfl) ?_
  intro k x16 hk H; rcases k with _ | k; exact none_elim H; rw [impl_cutWords.l0] at H; conv => whnf
  refine br_d H (fun c H => ?_) (fun c H => ?_)
  conv => whnf
  refine nd_ H (fun c H => ?_)
  conv => whnf
  refine Nd.mk nf_ ?_
  conv => whnf
  refine br_d H (fun c H => ?_) (fun c H => ?_)
  conv => whnf
  refine Br.t ft_ ?_
  conv => whnf
  refine Br.t ft_ ?_
  conv => whnf
  refine Br.t ft_ ?_
  conv => whnf
  refine Br.t ft_ ?_
  conv => whnf
  refine cut_ 200 [(0, .str t126.1), (15, .int .i64 (t126.1.size : Int)), (16, .int .i64 x16), (28, .bool true)] [] rfl ⟨.inl rfl, ⟨.inl rfl, ⟨.inl rfl, ⟨.inl rfl, trivial⟩⟩⟩⟩ trivial ?_
  conv => whnf
  refine Br.t rfl ?_
  conv => whnf
  refine cut_ 216 [(2, .nil), (3, .bool false)] [] rfl ⟨.inl rfl, ⟨.inl rfl, trivial⟩⟩ trivial ?_
  conv => whnf
  injection H with H; subst H
  exact ret_tup [] (rtAL_cons (rtA_nil) (rtAL_cons (rtA_eq rfl) (rtAL_nil)))
  conv => whnf
  refine Br.f ff_ ?_
  conv => whnf
  refine Br.f ff_ ?_
  conv => whnf
  refine Nd.mk nf_ ?_
  conv => whnf
  refine Nd.mk nf_ ?_
  conv => whnf
  refine Br.f ff_ ?_
  conv => whnf
  refine Br.f ff_ ?_
  conv => whnf
  refine cut_ 200 [(0, .str t126.1), (15, .int .i64 (t126.1.size : Int)), (16, .int .i64 x16), (28, .bool (decide ((bt t126.1 x16) > 126)))] [] rfl ⟨.inl rfl, ⟨.inl rfl, ⟨.inl rfl, ⟨.inl rfl, trivial⟩⟩⟩⟩ trivial ?_
  conv => whnf
  refine br_d H (fun c H => ?_) (fun c H => ?_)
  conv => whnf
  refine cut_ 216 [(2, .nil), (3, .bool false)] [] rfl ⟨.inl rfl, ⟨.inl rfl, trivial⟩⟩ trivial ?_
  conv => whnf
  injection H with H; subst H
  exact ret_tup [] (rtAL_cons (rtA_nil) (rtAL_cons (rtA_eq rfl) (rtAL_nil)))
  conv => whnf
  exact ⟨(k, wrap64 (x16 + 1)), [], ⟨H, lt_⟩, lt_, (fits_of ⟨.inl ⟨rfl, rfl⟩, trivial⟩ trivial fi_ trivial rfl)⟩
  conv => whnf
  revert H; refine bind_elim (fun t129 A H => ?_)
  refine call_mk (strings_Split.ac A) (avAL_cons (avA_shut' rfl) (avAL_cons (avA_shut' rfl) (avAL_nil))) (Or.inl rfl) rfl rfl (Nat.le_of_ble_eq_true rfl) ?_
  conv => whnf
  refine impl_cutWords.l1_lp (t129 := t129) (k := k) H [none] (fits_of ⟨⟨rfl, rfl⟩, ⟨.inl ⟨rfl, rfl⟩, trivial⟩⟩ ⟨⟨_, _, rfl⟩, trivial⟩ fi_ trivial rfl) ?_
  intro k x5 x33 hk H; rcases k with _ | k; exact none_elim H; rw [impl_cutWords.l1] at H; conv => whnf
  refine br_d H (fun c H => ?_) (fun c H => ?_)
  conv => whnf
  refine nd_ H (fun c H => ?_)
  conv => whnf
  refine Nd.mk nf_ ?_
  conv => whnf
  refine El.mk (rdm_en_str _ _ nf_ nf_) ?_
  conv => whnf
  refine cut_ 177 [(5, .own 144 x5.length), (7, .str (rdOf ByteArray.empty t129 x33)), (31, (sv_str t129)), (32, .int .i64 (t129.length : Int)), (33, .int .i64 x33)] [(144, .arr 9 1 (x5.map en_str))] rfl ⟨.inl rfl, ⟨.inl rfl, ⟨.inl rfl, ⟨.inl rfl, ⟨.inl rfl, trivial⟩⟩⟩⟩⟩ ⟨rfl, trivial⟩ ?_
  conv => whnf
  refine br_d H (fun c H => ?_) (fun c H => ?_)
  conv => whnf
  exact ⟨(k, x5, wrap64 (x33 + 1)), [some 144], ⟨H, lt_⟩, lt_, (fits_of ⟨rfl, ⟨.inl ⟨rfl, rfl⟩, trivial⟩⟩ ⟨rfl, trivial⟩ fi_ trivial rfl)⟩
  conv => whnf
  refine br_d H (fun c H => ?_) (fun c H => ?_)
  conv => whnf
  injection H with H; subst H
  exact ret_tup [] (rtAL_cons (rtA_nil) (rtAL_cons (rtA_eq rfl) (rtAL_nil)))
  conv => whnf
  refine Or.inl ?_
  conv => whnf
  refine nd_ H (fun c H => ?_)
  conv => whnf
  exact ⟨(k, (x5 ++ ([rdOf ByteArray.empty t129 x33] : List ByteArray)), wrap64 (x33 + 1)), [some 241], ⟨H, lt_⟩, lt_, (fits_of ⟨mt_own lm_, ⟨.inl ⟨rfl, rfl⟩, trivial⟩⟩ ⟨fm_, trivial⟩ fi_ trivial rfl)⟩
  conv => whnf
  refine cut_ 177 [(2, .own 144 x5.length), (3, .bool true)] [(144, .arr 9 1 (x5.map en_str))] rfl ⟨.inl rfl, ⟨.inl rfl, trivial⟩⟩ ⟨rfl, trivial⟩ ?_
  conv => whnf
  injection H with H; subst H
  exact ret_tup [144] (rtAL_cons (rtA_fz' rfl rfl) (rtAL_cons (rtA_eq rfl) (rtAL_nil)))
theorem impl_PlantWords.ac [GvOk G] {k : Nat} {a0 : ByteArray} {r : (List ByteArray) × Bool} (H : impl_PlantWords.f k a0 = some r) : ACalls Tryd.prog G 10 [] [.str a0] [] (.tup [(sv_str r.1), .bool r.2]) := by
  refine acalls_of tok hP Tryd.func10 rfl (by kernel_rfl) [.tmp 2, .tmp 3] rfl (by kernel_rfl) (Nat.le_of_ble_eq_true rfl) (.l .n (.l .n (.l (.c .n (.l (.c .n .n) .n)) (.c .n .n)))) rfl ?_
  unfold impl_PlantWords.f at H
  conv => whnf
  revert H; refine bind_elim (fun t131 A H => ?_)
  refine call_mk (impl_cutWords.ac A) (avAL_cons (avA_shut' rfl) (avAL_nil)) (Or.inl rfl) rfl rfl (Nat.le_of_ble_eq_true rfl) ?_
  conv => whnf
  refine br_nt H (fun c H => ?_) (fun c H => ?_)
  conv => whnf
  refine Br.f ff_ ?_
  conv => whnf
  refine Br.f ff_ ?_
  conv => whnf
  refine Br.f ff_ ?_
  conv => whnf
  refine cut_ 128 [(4, (sv_str t131.1)), (17, .bool (decide ((t131.1.length : Int) > 16)))] [] rfl ⟨.inl rfl, ⟨.inl rfl, trivial⟩⟩ trivial ?_
  conv => whnf
  refine br_d H (fun c H => ?_) (fun c H => ?_)
  conv => whnf
  refine cut_ 144 [(2, .nil), (3, .bool false)] [] rfl ⟨.inl rfl, ⟨.inl rfl, trivial⟩⟩ trivial ?_
  conv => whnf
  injection H with H; subst H
  exact ret_tup [] (rtAL_cons (rtA_nil) (rtAL_cons (rtA_eq rfl) (rtAL_nil)))
  conv => whnf
  refine cut_ 152 [(2, (sv_str t131.1)), (3, .bool true)] [] rfl ⟨.inl rfl, ⟨.inl rfl, trivial⟩⟩ trivial ?_
  conv => whnf
  injection H with H; subst H
  exact ret_tup [] (rtAL_cons (rtA_eq rfl) (rtAL_cons (rtA_eq rfl) (rtAL_nil)))
  conv => whnf
  refine Br.t ft_ ?_
  conv => whnf
  refine Br.t ft_ ?_
  conv => whnf
  refine Br.t ft_ ?_
  conv => whnf
  refine cut_ 128 [(4, (sv_str t131.1)), (17, .bool true)] [] rfl ⟨.inl rfl, ⟨.inl rfl, trivial⟩⟩ trivial ?_
  conv => whnf
  refine Br.t rfl ?_
  conv => whnf
  refine cut_ 144 [(2, .nil), (3, .bool false)] [] rfl ⟨.inl rfl, ⟨.inl rfl, trivial⟩⟩ trivial ?_
  conv => whnf
  injection H with H; subst H
  exact ret_tup [] (rtAL_cons (rtA_nil) (rtAL_cons (rtA_eq rfl) (rtAL_nil)))
theorem spec_l1Bare.l0_lp {F : (Exit → St → Prop) → St → Prop} {hv : List Tmp} {Q : Exit → St → Prop} {σ : St} {r : ByteArray} {k : Nat} {a0 : ByteArray} {x3 : Int} (H : spec_l1Bare.l0 k a0 x3 = some r) (rn : List (Option Nat)) (h1 : Fits σ σ [] [(3, .int .i64 x3)] [] [] rn)
    (h2 : ∀ (k0 : Nat) (x3 : Int), k0 < k + 1 → spec_l1Bare.l0 k0 a0 x3 = some r → headN σ hv [] [(3, .int .i64 x3)] [] [] (F (fun e σ' => match e with | .normal => ∃ (y : Nat × Int) (rn : List (Option Nat)), (spec_l1Bare.l0 y.1 a0 y.2 = some r ∧ y.1 < k + 1) ∧ y.1 < k0 ∧ Fits σ σ' [] [(3, .int .i64 y.2)] [] [] rn | e => Q e σ'))) : Lp F hv Q σ := by
  unfold Lp
  refine ⟨Nat × Int, fun x => spec_l1Bare.l0 x.1 a0 x.2 = some r ∧ x.1 < k + 1, fun x => x.1, [], fun x => [(3, .int .i64 x.2)], fun x => [], fun x => [], ⟨(k, x3), rn, ⟨H, Nat.lt_succ_self _⟩, h1⟩, ?_⟩
  rintro ⟨k, x3⟩ ⟨H, hk⟩
  exact h2 k x3 hk H
theorem spec_l1Bare.ac {k : Nat} {a0 : ByteArray} {r : ByteArray} (H : spec_l1Bare.f k a0 = some r) : ACalls Tryd.prog G 36 [] [.str a0] [] (.str r) := by
  refine acalls_of tok hP Tryd.func36 rfl (by kernel_rfl) [.tmp 2] rfl (by kernel_rfl) (Nat.le_of_ble_eq_true rfl) (.l .n (.l (.l .n (.l .n (.l (.c .n .n) .n))) .n)) rfl ?_
  unfold spec_l1Bare.f at H
  conv => whnf
  refine spec_l1Bare.l0_lp (a0 := a0) (k := k) H [] (fits_of ⟨.inl ⟨rfl, rfl⟩, trivial⟩ trivial fi_ trivial rfl) ?_
  intro k x3 hk H; rcases k with _ | k; exact none_elim H; rw [spec_l1Bare.l0] at H; conv => whnf
  refine br_d H (fun c H => ?_) (fun c H => ?_)
  conv => whnf
  refine nd_ H (fun c H => ?_)
  conv => whnf
  refine Nd.mk nf_ ?_
  conv => whnf
  refine cut_ 80 [(0, .str a0), (3, .int .i64 x3), (13, .bool (decide ((bt a0 x3) = 35)))] [] rfl ⟨.inl rfl, ⟨.inl rfl, ⟨.inl rfl, trivial⟩⟩⟩ trivial ?_
  conv => whnf
  refine br_d H (fun c H => ?_) (fun c H => ?_)
  conv => whnf
  refine Nd.mk nf_ ?_
  conv => whnf
  refine nd_ H (fun c H => ?_)
  conv => whnf
  injection H with H; subst H
  exact ret_fz [] (rtA_eq rfl)
  conv => whnf
  exact ⟨(k, wrap64 (x3 + 1)), [], ⟨H, lt_⟩, lt_, (fits_of ⟨.inl ⟨rfl, rfl⟩, trivial⟩ trivial fi_ trivial rfl)⟩
  conv => whnf
  injection H with H; subst H
  exact ret_fz [] (rtA_eq rfl)
theorem spec_l1In.ac {a0 : Int} {a1 : Int} {a2 : Int} {r : Bool} (H : spec_l1In.f a0 a1 a2 = some r) : ACalls Tryd.prog G 37 [] [.int .i64 a0, .int .i64 a1, .int .i64 a2] [] (.bool r) := by
  refine acalls_of tok hP Tryd.func37 rfl (by kernel_rfl) [.tmp 6] rfl (by kernel_rfl) (Nat.le_of_ble_eq_true rfl) (.l .n (.c .n .n)) rfl ?_
  unfold spec_l1In.f at H
  conv => whnf
  refine br_d H (fun c H => ?_) (fun c H => ?_)
  conv => whnf
  refine Br.t ft_ ?_
  conv => whnf
  refine Br.t ft_ ?_
  conv => whnf
  refine Br.t ft_ ?_
  conv => whnf
  refine cut_ 80 [(6, .bool (decide (a0 ≤ a2)))] [] rfl ⟨.inl rfl, trivial⟩ trivial ?_
  conv => whnf
  injection H with H; subst H
  exact ret_fz [] (rtA_eq rfl)
  conv => whnf
  refine Br.f ff_ ?_
  conv => whnf
  refine Br.f ff_ ?_
  conv => whnf
  refine Br.f ff_ ?_
  conv => whnf
  refine cut_ 80 [(6, .bool false)] [] rfl ⟨.inl rfl, trivial⟩ trivial ?_
  conv => whnf
  injection H with H; subst H
  exact ret_fz [] (rtA_eq rfl)
theorem spec_PlantWords.l0_lp {F : (Exit → St → Prop) → St → Prop} {hv : List Tmp} {Q : Exit → St → Prop} {σ : St} {r : (List ByteArray) × Bool} {k : Nat} {t147 : ByteArray} {x4 : List ByteArray} {x5 : ByteArray} {x7 : Int} (H : spec_PlantWords.l0 k x4 x5 x7 t147 = some r) (rn : List (Option Nat)) (h1 : Fits σ σ [16] [(4, .own 0 x4.length), (5, .str x5), (7, .int .i64 x7)] [] [.arr 9 1 (x4.map en_str)] rn)
    (h2 : ∀ (k0 : Nat) (x4 : List ByteArray) (x5 : ByteArray) (x7 : Int), k0 < k + 1 → spec_PlantWords.l0 k0 x4 x5 x7 t147 = some r → headN σ hv [16] [(4, .own 0 x4.length), (5, .str x5), (7, .int .i64 x7)] [] [.arr 9 1 (x4.map en_str)] (F (fun e σ' => match e with | .normal => ∃ (y : Nat × (List ByteArray) × ByteArray × Int) (rn : List (Option Nat)), (spec_PlantWords.l0 y.1 y.2.1 y.2.2.1 y.2.2.2 t147 = some r ∧ y.1 < k + 1) ∧ y.1 < k0 ∧ Fits σ σ' [16] [(4, .own 0 y.2.1.length), (5, .str y.2.2.1), (7, .int .i64 y.2.2.2)] [] [.arr 9 1 (y.2.1.map en_str)] rn | e => Q e σ'))) : Lp F hv Q σ := by
  unfold Lp
  refine ⟨Nat × (List ByteArray) × ByteArray × Int, fun x => spec_PlantWords.l0 x.1 x.2.1 x.2.2.1 x.2.2.2 t147 = some r ∧ x.1 < k + 1, fun x => x.1, [16], fun x => [(4, .own 0 x.2.1.length), (5, .str x.2.2.1), (7, .int .i64 x.2.2.2)], fun x => [], fun x => [.arr 9 1 (x.2.1.map en_str)], ⟨(k, x4, x5, x7), rn, ⟨H, Nat.lt_succ_self _⟩, h1⟩, ?_⟩
  rintro ⟨k, x4, x5, x7⟩ ⟨H, hk⟩
  exact h2 k x4 x5 x7 hk H
theorem spec_PlantWords.ac {k : Nat} {a0 : ByteArray} {r : (List ByteArray) × Bool} (H : spec_PlantWords.f k a0 = some r) : ACalls Tryd.prog G 9 [] [.str a0] [] (.tup [(sv_str r.1), .bool r.2]) := by
  refine acalls_of tok hP Tryd.func9 rfl (by kernel_rfl) [.tmp 2, .tmp 3] rfl (by kernel_rfl) (Nat.le_of_ble_eq_true rfl) (.l .n (.l .n (.l .n (.l .n (.l (.c .n (.l .n (.l (.l (.l .n (.l (.c .n (.l (.c .n (.l (.c .n .n) .n)) .n)) .n)) (.c .n .n)) .n))) (.l (.l .n (.l (.c .n .n) .n)) (.c .n .n))))))) rfl ?_
  unfold spec_PlantWords.f at H
  conv => whnf
  refine Or.inl ?_
  conv => whnf
  revert H; refine bind_elim (fun t147 A H => ?_)
  refine call_mk (spec_l1Bare.ac A) (avAL_cons (avA_shut' rfl) (avAL_nil)) (Or.inl rfl) rfl rfl (Nat.le_of_ble_eq_true rfl) ?_
  conv => whnf
  refine nd_ H (fun c H => ?_)
  conv => whnf
  refine cut_ 80 [(4, .own 16 0), (5, .str (⟨#[]⟩ : ByteArray)), (6, .str (t147 ++ (⟨#[32]⟩ : ByteArray))), (7, .int .i64 0)] [(16, .arr 9 1 (([] : List ByteArray).map en_str))] rfl ⟨.inl rfl, ⟨.inl rfl, ⟨.inl rfl, ⟨.inl rfl, trivial⟩⟩⟩⟩ ⟨fm_, trivial⟩ ?_
  conv => whnf
  refine spec_PlantWords.l0_lp (t147 := t147) (k := k) H [some 16] (fits_of ⟨mt_own lm_, ⟨.inl ⟨rfl, rfl⟩, ⟨.inl ⟨rfl, rfl⟩, trivial⟩⟩⟩ ⟨rfl, trivial⟩ fi_ trivial rfl) ?_
  intro k x4 x5 x7 hk H; rcases k with _ | k; exact none_elim H; rw [spec_PlantWords.l0] at H; conv => whnf
  refine br_d H (fun c H => ?_) (fun c H => ?_)
  conv => whnf
  refine nd_ H (fun c H => ?_)
  conv => whnf
  refine Nd.mk nf_ ?_
  conv => whnf
  refine br_nd H (fun c H => ?_) (fun c H => ?_)
  conv => whnf
  refine cut_ 161 [(4, .own 80 x4.length), (5, .str x5), (6, .str (t147 ++ (⟨#[32]⟩ : ByteArray))), (7, .int .i64 x7), (42, .bool (!(decide (x5.toList = (⟨#[]⟩ : ByteArray).toList))))] [(80, .arr 9 1 (x4.map en_str))] rfl ⟨.inl rfl, ⟨.inl rfl, ⟨.inl rfl, ⟨.inl rfl, ⟨.inl rfl, trivial⟩⟩⟩⟩⟩ ⟨rfl, trivial⟩ ?_
  conv => whnf
  refine br_nd H (fun c H => ?_) (fun c H => ?_)
  conv => whnf
  exact ⟨(k, x4, _, wrap64 (x7 + 1)), [some 80], ⟨H, lt_⟩, lt_, (fits_of ⟨rfl, ⟨.inl ⟨rfl, rfl⟩, ⟨.inl ⟨rfl, rfl⟩, trivial⟩⟩⟩ ⟨rfl, trivial⟩ fi_ trivial rfl)⟩
  conv => whnf
  refine Or.inl ?_
  conv => whnf
  refine nd_ H (fun c H => ?_)
  conv => whnf
  exact ⟨(k, (x4 ++ ([x5] : List ByteArray)), (⟨#[]⟩ : ByteArray), wrap64 (x7 + 1)), [some 185], ⟨H, lt_⟩, lt_, (fits_of ⟨mt_own lm_, ⟨.inl ⟨rfl, rfl⟩, ⟨.inl ⟨rfl, rfl⟩, trivial⟩⟩⟩ ⟨fm_, trivial⟩ fi_ trivial rfl)⟩
  conv => whnf
  refine Nd.mk nf_ ?_
  conv => whnf
  refine nd_ H (fun c H => ?_)
  conv => whnf
  refine nd_ H (fun c H => ?_)
  conv => whnf
  refine nd_ H (fun c H => ?_)
  conv => whnf
  refine cut_ 209 [(4, .own 80 x4.length), (5, .str (x5 ++ ((t147 ++ (⟨#[32]⟩ : ByteArray)).extract (x7).toNat (wrap64 (x7 + 1)).toNat))), (6, .str (t147 ++ (⟨#[32]⟩ : ByteArray))), (7, .int .i64 x7)] [(80, .arr 9 1 (x4.map en_str))] rfl ⟨.inl rfl, ⟨.inl rfl, ⟨.inl rfl, ⟨.inl rfl, trivial⟩⟩⟩⟩ ⟨rfl, trivial⟩ ?_
  conv => whnf
  refine Nd.mk nf_ ?_
  conv => whnf
  refine Nd.mk nf_ ?_
  conv => whnf
  revert H; refine bind_elim (fun t153 A H => ?_)
  refine call_mk (spec_l1In.ac A) (avAL_cons (avA_shut' rfl) (avAL_cons (avA_shut' rfl) (avAL_cons (avA_shut' rfl) (avAL_nil)))) (Or.inl rfl) rfl rfl (Nat.le_of_ble_eq_true rfl) ?_
  conv => whnf
  refine br_nt H (fun c H => ?_) (fun c H => ?_)
  conv => whnf
  refine Br.f ff_ ?_
  conv => whnf
  refine Br.f ff_ ?_
  conv => whnf
  refine Br.f ff_ ?_
  conv => whnf
  refine cut_ 297 [(4, .own 80 x4.length), (5, .str (x5 ++ ((t147 ++ (⟨#[32]⟩ : ByteArray)).extract (x7).toNat (wrap64 (x7 + 1)).toNat))), (6, .str (t147 ++ (⟨#[32]⟩ : ByteArray))), (7, .int .i64 x7), (39, .bool (decide (((x5 ++ ((t147 ++ (⟨#[32]⟩ : ByteArray)).extract (x7).toNat (wrap64 (x7 + 1)).toNat)).size : Int) > 24)))] [(80, .arr 9 1 (x4.map en_str))] rfl ⟨.inl rfl, ⟨.inl rfl, ⟨.inl rfl, ⟨.inl rfl, ⟨.inl rfl, trivial⟩⟩⟩⟩⟩ ⟨rfl, trivial⟩ ?_
  conv => whnf
  refine br_d H (fun c H => ?_) (fun c H => ?_)
  conv => whnf
  refine Or.inl ?_
  conv => whnf
  refine cut_ 321 [(2, .own 297 0), (3, .bool false)] [(297, .arr 9 1 (([] : List ByteArray).map en_str))] rfl ⟨.inl rfl, ⟨.inl rfl, trivial⟩⟩ ⟨fm_, trivial⟩ ?_
  conv => whnf
  injection H with H; subst H
  exact ret_tup [297] (rtAL_cons (rtA_fzD rfl lm_ lm_ rfl) (rtAL_cons (rtA_eq rfl) (rtAL_nil)))
  conv => whnf
  exact ⟨(k, x4, x5 ++ ((t147 ++ (⟨#[32]⟩ : ByteArray)).extract (x7).toNat (wrap64 (x7 + 1)).toNat), wrap64 (x7 + 1)), [some 80], ⟨H, lt_⟩, lt_, (fits_of ⟨rfl, ⟨.inl ⟨rfl, rfl⟩, ⟨.inl ⟨rfl, rfl⟩, trivial⟩⟩⟩ ⟨rfl, trivial⟩ fi_ trivial rfl)⟩
  conv => whnf
  refine Br.t ft_ ?_
  conv => whnf
  refine Br.t ft_ ?_
  conv => whnf
  refine Br.t ft_ ?_
  conv => whnf
  refine cut_ 297 [(4, .own 80 x4.length), (5, .str (x5 ++ ((t147 ++ (⟨#[32]⟩ : ByteArray)).extract (x7).toNat (wrap64 (x7 + 1)).toNat))), (6, .str (t147 ++ (⟨#[32]⟩ : ByteArray))), (7, .int .i64 x7), (39, .bool true)] [(80, .arr 9 1 (x4.map en_str))] rfl ⟨.inl rfl, ⟨.inl rfl, ⟨.inl rfl, ⟨.inl rfl, ⟨.inl rfl, trivial⟩⟩⟩⟩⟩ ⟨rfl, trivial⟩ ?_
  conv => whnf
  refine Br.t rfl ?_
  conv => whnf
  refine Or.inl ?_
  conv => whnf
  refine cut_ 321 [(2, .own 297 0), (3, .bool false)] [(297, .arr 9 1 (([] : List ByteArray).map en_str))] rfl ⟨.inl rfl, ⟨.inl rfl, trivial⟩⟩ ⟨fm_, trivial⟩ ?_
  conv => whnf
  injection H with H; subst H
  exact ret_tup [297] (rtAL_cons (rtA_fzD rfl lm_ lm_ rfl) (rtAL_cons (rtA_eq rfl) (rtAL_nil)))
  conv => whnf
  refine br_d H (fun c H => ?_) (fun c H => ?_)
  conv => whnf
  refine Or.inl ?_
  conv => whnf
  refine cut_ 161 [(2, .own 137 0), (3, .bool false)] [(137, .arr 9 1 (([] : List ByteArray).map en_str))] rfl ⟨.inl rfl, ⟨.inl rfl, trivial⟩⟩ ⟨fm_, trivial⟩ ?_
  conv => whnf
  injection H with H; subst H
  exact ret_tup [137] (rtAL_cons (rtA_fzD rfl lm_ lm_ rfl) (rtAL_cons (rtA_eq rfl) (rtAL_nil)))
  conv => whnf
  refine cut_ 161 [(2, .own 80 x4.length), (3, .bool true)] [(80, .arr 9 1 (x4.map en_str))] rfl ⟨.inl rfl, ⟨.inl rfl, trivial⟩⟩ ⟨rfl, trivial⟩ ?_
  conv => whnf
  injection H with H; subst H
  exact ret_tup [80] (rtAL_cons (rtA_fz' rfl rfl) (rtAL_cons (rtA_eq rfl) (rtAL_nil)))
theorem laws_wpTexts.l0_lp {F : (Exit → St → Prop) → St → Prop} {hv : List Tmp} {Q : Exit → St → Prop} {σ : St} {r : Bool} {k : Nat} {l0 : List ByteArray} {l1 : List ByteArray} {x5 : Int} (H : laws_wpTexts.l0 k l0 l1 x5 = some r) (rn : List (Option Nat)) (h1 : Fits σ σ [] [(5, .int .i64 x5)] [] [] rn)
    (h2 : ∀ (k0 : Nat) (x5 : Int), k0 < k + 1 → laws_wpTexts.l0 k0 l0 l1 x5 = some r → headN σ hv [] [(5, .int .i64 x5)] [] [] (F (fun e σ' => match e with | .normal => ∃ (y : Nat × Int) (rn : List (Option Nat)), (laws_wpTexts.l0 y.1 l0 l1 y.2 = some r ∧ y.1 < k + 1) ∧ y.1 < k0 ∧ Fits σ σ' [] [(5, .int .i64 y.2)] [] [] rn | e => Q e σ'))) : Lp F hv Q σ := by
  unfold Lp
  refine ⟨Nat × Int, fun x => laws_wpTexts.l0 x.1 l0 l1 x.2 = some r ∧ x.1 < k + 1, fun x => x.1, [], fun x => [(5, .int .i64 x.2)], fun x => [], fun x => [], ⟨(k, x5), rn, ⟨H, Nat.lt_succ_self _⟩, h1⟩, ?_⟩
  rintro ⟨k, x5⟩ ⟨H, hk⟩
  exact h2 k x5 hk H
theorem laws_wpTexts.ac {k : Nat} {l0 : List ByteArray} {l1 : List ByteArray} {r : Bool} (H : laws_wpTexts.f k l0 l1 = some r) : ACalls Tryd.prog G 15 [] [(sv_str l0), (sv_str l1)] [] (.bool r) := by
  refine acalls_of tok hP Tryd.func15 rfl (by kernel_rfl) [.tmp 4] rfl (by kernel_rfl) (Nat.le_of_ble_eq_true rfl) (.l .n (.l .n (.l (.l .n (.l (.c .n .n) (.l (.l .n (.l (.c .n .n) .n)) .n))) .n))) rfl ?_
  unfold laws_wpTexts.f at H
  conv => whnf
  refine br_nd H (fun c H => ?_) (fun c H => ?_)
  conv => whnf
  refine laws_wpTexts.l0_lp (l0 := l0) (l1 := l1) (k := k) H [] (fits_of ⟨.inl ⟨rfl, rfl⟩, trivial⟩ trivial fi_ trivial rfl) ?_
  intro k x5 hk H; rcases k with _ | k; exact none_elim H; rw [laws_wpTexts.l0] at H; conv => whnf
  refine cut_ 88 [(0, (sv_str l0)), (1, (sv_str l1)), (5, .int .i64 x5), (14, .bool (decide (x5 < (l0.length : Int))))] [] rfl ⟨.inl rfl, ⟨.inl rfl, ⟨.inl rfl, ⟨.inl rfl, trivial⟩⟩⟩⟩ trivial ?_
  conv => whnf
  refine br_d H (fun c H => ?_) (fun c H => ?_)
  conv => whnf
  refine nd_ H (fun c H => ?_)
  conv => whnf
  refine Nd.mk nf_ ?_
  conv => whnf
  refine El.mk (rdm_en_str _ _ nf_ nf_) ?_
  conv => whnf
  refine Nd.mk nf_ ?_
  conv => whnf
  refine nd_ H (fun c H => ?_)
  conv => whnf
  refine El.mk (rdm_en_str _ _ nf_ nf_) ?_
  conv => whnf
  refine br_nd H (fun c H => ?_) (fun c H => ?_)
  conv => whnf
  exact ⟨(k, wrap64 (x5 + 1)), [], ⟨H, lt_⟩, lt_, (fits_of ⟨.inl ⟨rfl, rfl⟩, trivial⟩ trivial fi_ trivial rfl)⟩
  conv => whnf
  refine cut_ 168 [(4, .bool false)] [] rfl ⟨.inl rfl, trivial⟩ trivial ?_
  conv => whnf
  injection H with H; subst H
  exact ret_fz [] (rtA_eq rfl)
  conv => whnf
  injection H with H; subst H
  exact ret_fz [] (rtA_eq rfl)
  conv => whnf
  injection H with H; subst H
  exact ret_fz [] (rtA_eq rfl)
theorem laws_FnPlantWords.l0_lp {F : (Exit → St → Prop) → St → Prop} {hv : List Tmp} {Q : Exit → St → Prop} {σ : St} {r : Bool} {k : Nat} {l0 : List Int} {t161 : ByteArray} {t163 : (List ByteArray) × Bool} {x8 : ByteArray} {x9 : Int} (H : laws_FnPlantWords.l0 k l0 x8 x9 t161 t163 = some r) (rn : List (Option Nat)) (h1 : Fits σ σ [] [(8, .str x8), (9, .int .i64 x9)] [] [] rn)
    (h2 : ∀ (k0 : Nat) (x8 : ByteArray) (x9 : Int), k0 < k + 1 → laws_FnPlantWords.l0 k0 l0 x8 x9 t161 t163 = some r → headN σ hv [] [(8, .str x8), (9, .int .i64 x9)] [] [] (F (fun e σ' => match e with | .normal => ∃ (y : Nat × ByteArray × Int) (rn : List (Option Nat)), (laws_FnPlantWords.l0 y.1 l0 y.2.1 y.2.2 t161 t163 = some r ∧ y.1 < k + 1) ∧ y.1 < k0 ∧ Fits σ σ' [] [(8, .str y.2.1), (9, .int .i64 y.2.2)] [] [] rn | e => Q e σ'))) : Lp F hv Q σ := by
  unfold Lp
  refine ⟨Nat × ByteArray × Int, fun x => laws_FnPlantWords.l0 x.1 l0 x.2.1 x.2.2 t161 t163 = some r ∧ x.1 < k + 1, fun x => x.1, [], fun x => [(8, .str x.2.1), (9, .int .i64 x.2.2)], fun x => [], fun x => [], ⟨(k, x8, x9), rn, ⟨H, Nat.lt_succ_self _⟩, h1⟩, ?_⟩
  rintro ⟨k, x8, x9⟩ ⟨H, hk⟩
  exact h2 k x8 x9 hk H
theorem laws_FnPlantWords.ac [GvOk G] {k : Nat} {l0 : List Int} {r : Bool} (H : laws_FnPlantWords.f k l0 = some r) : ACalls Tryd.prog G 4 [] [(sv_u8 l0)] [] (.bool r) := by
  refine acalls_of tok hP Tryd.func4 rfl (by kernel_rfl) [.tmp 2] rfl (by kernel_rfl) (Nat.le_of_ble_eq_true rfl) (.l .n (.l .n (.l .n (.c .n (.l .n (.l (.c .n (.l (.c .n .n) .n)) (.l .n (.l (.l .n (.l .n (.c .n .n))) (.c .n .n))))))))) rfl ?_
  unfold laws_FnPlantWords.f at H
  conv => whnf
  refine br_d H (fun c H => ?_) (fun c H => ?_)
  conv => whnf
  injection H with H; subst H
  exact ret_fz [] (rtA_eq rfl)
  conv => whnf
  revert H; refine bind_elim (fun t161 A H => ?_)
  refine call_mk (spec_DrawPlantWords.ac A) (avAL_cons (avA_shut' rfl) (avAL_nil)) (Or.inl rfl) rfl rfl (Nat.le_of_ble_eq_true rfl) ?_
  conv => whnf
  revert H; refine bind_elim (fun t163 A H => ?_)
  refine call_mk (impl_PlantWords.ac A) (avAL_cons (avA_shut' rfl) (avAL_nil)) (Or.inl rfl) rfl rfl (Nat.le_of_ble_eq_true rfl) ?_
  conv => whnf
  refine cut_ 112 [(3, .str t161), (4, (sv_str t163.1)), (5, .bool t163.2)] [] rfl ⟨.inl rfl, ⟨.inl rfl, ⟨.inl rfl, trivial⟩⟩⟩ trivial ?_
  conv => whnf
  revert H; refine bind_elim (fun t165 A H => ?_)
  refine call_mk (spec_PlantWords.ac A) (avAL_cons (avA_shut' rfl) (avAL_nil)) (Or.inl rfl) rfl rfl (Nat.le_of_ble_eq_true rfl) ?_
  conv => whnf
  refine br_t H (fun c H => ?_) (fun c H => ?_)
  conv => whnf
  refine Br.t ft_ ?_
  conv => whnf
  refine Br.t ft_ ?_
  conv => whnf
  refine Br.t ft_ ?_
  conv => whnf
  refine Br.t ft_ ?_
  conv => whnf
  refine cut_ 240 [(3, .str t161), (4, (sv_str t163.1)), (35, .bool true)] [] rfl ⟨.inl rfl, ⟨.inl rfl, ⟨.inl rfl, trivial⟩⟩⟩ trivial ?_
  conv => whnf
  refine Br.t rfl ?_
  conv => whnf
  refine cut_ 248 [(2, .bool false)] [] rfl ⟨.inl rfl, trivial⟩ trivial ?_
  conv => whnf
  injection H with H; subst H
  exact ret_fz [] (rtA_eq rfl)
  conv => whnf
  refine Br.f ff_ ?_
  conv => whnf
  refine Br.f ff_ ?_
  conv => whnf
  revert H; refine bind_elim (fun t168 A H => ?_)
  refine call_mk (laws_wpTexts.ac A) (avAL_cons (avA_shut' rfl) (avAL_cons (avA_shut' rfl) (avAL_nil))) (Or.inl rfl) rfl rfl (Nat.le_of_ble_eq_true rfl) ?_
  conv => whnf
  refine Br.f ff_ ?_
  conv => whnf
  refine Br.f ff_ ?_
  conv => whnf
  refine cut_ 240 [(3, .str t161), (4, (sv_str t163.1)), (35, .bool (!t168))] [] rfl ⟨.inl rfl, ⟨.inl rfl, ⟨.inl rfl, trivial⟩⟩⟩ trivial ?_
  conv => whnf
  refine br_nt H (fun c H => ?_) (fun c H => ?_)
  conv => whnf
  refine laws_FnPlantWords.l0_lp (l0 := l0) (t161 := t161) (t163 := t163) (k := k) H [] (fits_of ⟨.inl ⟨rfl, rfl⟩, ⟨.inl ⟨rfl, rfl⟩, trivial⟩⟩ trivial fi_ trivial rfl) ?_
  intro k x8 x9 hk H; rcases k with _ | k; exact none_elim H; rw [laws_FnPlantWords.l0] at H; conv => whnf
  refine br_d H (fun c H => ?_) (fun c H => ?_)
  conv => whnf
  refine nd_ H (fun c H => ?_)
  conv => whnf
  refine nd_ H (fun c H => ?_)
  conv => whnf
  refine Nd.mk nf_ ?_
  conv => whnf
  refine El.mk (rdm_en_str _ _ nf_ nf_) ?_
  conv => whnf
  refine nd_ H (fun c H => ?_)
  conv => whnf
  refine cut_ 352 [(3, .str t161), (4, (sv_str t163.1)), (8, .str ((x8 ++ (⟨#[32]⟩ : ByteArray)) ++ (rdOf ByteArray.empty t163.1 x9))), (9, .int .i64 x9)] [] rfl ⟨.inl rfl, ⟨.inl rfl, ⟨.inl rfl, ⟨.inl rfl, trivial⟩⟩⟩⟩ trivial ?_
  conv => whnf
  exact ⟨(k, (x8 ++ (⟨#[32]⟩ : ByteArray)) ++ (rdOf ByteArray.empty t163.1 x9), wrap64 (x9 + 1)), [], ⟨H, lt_⟩, lt_, (fits_of ⟨.inl ⟨rfl, rfl⟩, ⟨.inl ⟨rfl, rfl⟩, trivial⟩⟩ trivial fi_ trivial rfl)⟩
  conv => whnf
  refine nd_ H (fun c H => ?_)
  conv => whnf
  refine nd_ H (fun c H => ?_)
  conv => whnf
  revert H; refine bind_elim (fun t170 A H => ?_)
  refine call_mk (impl_PlantWords.ac A) (avAL_cons (avA_shut' rfl) (avAL_nil)) (Or.inl rfl) rfl rfl (Nat.le_of_ble_eq_true rfl) ?_
  conv => whnf
  refine cut_ 368 [(4, (sv_str t163.1)), (10, (sv_str t170.1)), (11, .bool t170.2)] [] rfl ⟨.inl rfl, ⟨.inl rfl, ⟨.inl rfl, trivial⟩⟩⟩ trivial ?_
  conv => whnf
  refine br_t H (fun c H => ?_) (fun c H => ?_)
  conv => whnf
  refine Br.t ft_ ?_
  conv => whnf
  refine Br.t ft_ ?_
  conv => whnf
  revert H; refine bind_elim (fun t172 A H => ?_)
  refine call_mk (laws_wpTexts.ac A) (avAL_cons (avA_shut' rfl) (avAL_cons (avA_shut' rfl) (avAL_nil))) (Or.inl rfl) rfl rfl (Nat.le_of_ble_eq_true rfl) ?_
  conv => whnf
  refine Br.t ft_ ?_
  conv => whnf
  injection H with H; subst H
  exact ret_fz [] (rtA_eq rfl)
  conv => whnf
  refine Br.f ff_ ?_
  conv => whnf
  refine Br.f ff_ ?_
  conv => whnf
  refine Br.f ff_ ?_
  conv => whnf
  injection H with H; subst H
  exact ret_fz [] (rtA_eq rfl)
  conv => whnf
  refine cut_ 248 [(2, .bool false)] [] rfl ⟨.inl rfl, trivial⟩ trivial ?_
  conv => whnf
  injection H with H; subst H
  exact ret_fz [] (rtA_eq rfl)

end Go.Proofs.YteflhnpcgoijfaaDoor.FW

