/- Words of a way to tell what a function does with data: an interpreter over values, and the proof that what it tells is so. -/
import Derived.Test.YtamkmmkchdnkmaaY0
set_option linter.unusedVariables false
set_option linter.unusedSimpArgs false
set_option linter.unusedVariables false
namespace Go.Aw
section
variable {P : Program} {G : Nat → Option Obj} {T : TypeId → Option TI} {ck : Nat → Bool} {ev : Operand → V} {m : Nat → Option Ob} {id : Nat}

def Is (v : V) (e : Eff) : V → Eff → Prop := fun v' e' => v' = v ∧ e' = e
theorem now2 {v : V} {e : Eff} {k : V → Eff → Prop} (h : k v e) : ∃ v' e', Is v' e' v e ∧ k v' e' := ⟨v, e, ⟨rfl, rfl⟩, h⟩
theorem Nd_ex2 {c : Prop} {F : (V → Eff → Prop) → Prop} {k : V → Eff → Prop} (hF : F k → ∃ v e, F (Is v e) ∧ k v e) (h : Nd c (F k)) : ∃ v e, Nd c (F (Is v e)) ∧ k v e := by
  obtain ⟨h0, h⟩ := h.out
  obtain ⟨v, e, h1, h2⟩ := hF h
  exact ⟨v, e, Nd.mk h0 h1, h2⟩
theorem El_ex2 {xs : List (List V)} {i : Nat} {F : List V → (V → Eff → Prop) → Prop} {k : V → Eff → Prop} (hF : ∀ p, F p k → ∃ v e, F p (Is v e) ∧ k v e) (h : El xs i (fun p => F p k)) : ∃ v e, El xs i (fun p => F p (Is v e)) ∧ k v e := by
  obtain ⟨p, h0, h⟩ := h.out
  obtain ⟨v, e, h1, h2⟩ := hF p h
  exact ⟨v, e, El.mk h0 h1, h2⟩
theorem opv_ex2 {o : Op} {k : V → Eff → Prop} (h : opv T ck ev m o fun v => k v Eff.no) : ∃ v e, (opv T ck ev m o fun v' => Is v e v' Eff.no) ∧ k v e := by
  obtain ⟨v, h1, h2⟩ := opv_ex h
  refine ⟨v, Eff.no, ?_, h2⟩
  have : (fun v' => Is v Eff.no v' Eff.no) = (fun u => u = v) := by funext u; simp [Is]
  rw [this]; exact h1
theorem src_ex2 {size : Nat} {x : V} {F : List (List V) → Nat → (V → Eff → Prop) → Prop} {k : V → Eff → Prop} (hF : ∀ ys n, F ys n k → ∃ v e, F ys n (Is v e) ∧ k v e) (h : srcE ck m size x (fun ys n => F ys n k)) :
    ∃ v e, srcE ck m size x (fun ys n => F ys n (Is v e)) ∧ k v e := by
  unfold srcE at *
  split at h
  · exact hF _ _ h
  · split at h
    · exact hF _ _ h
    · exact h.elim
  · split at h
    · split at h
      · exact hF _ _ h
      · exact h.elim
    · exact h.elim
  · exact h.elim
theorem appD_ex2 {te : TypeId} {ei : TI} {i len : Nat} {e : TypeId} {sz : Nat} {es : List TypeId} {xs : List (List V)} {x : V} {k : V → Eff → Prop} (h : appD ck id m te ei i len e sz es xs x k) : ∃ v e', appD ck id m te ei i len e sz es xs x (Is v e') ∧ k v e' := by
  unfold appD at *
  split at h
  · split at h
    · split at h
      · exact Nd_ex2 (F := fun k => k _ _) now2 h
      · exact h.elim
    · exact h.elim
  · exact h.elim
theorem bsD_ex2 {ti ei : TI} {len : Nat} {parts : List (Nat × Operand)} {k : V → Eff → Prop} (h : bsD ev id ti ei len parts k) : ∃ v e', bsD ev id ti ei len parts (Is v e') ∧ k v e' := by
  unfold bsD at *
  split at h
  · split at h
    · obtain ⟨es, h⟩ := h; exact ⟨_, _, ⟨es, rfl, rfl⟩, h⟩
    · exact h.elim
  · exact h.elim
theorem app_ex2 {t : TypeId} {s x : Operand} {k : V → Eff → Prop} (h : appE T ck id ev m t s x k) : ∃ v e, appE T ck id ev m t s x (Is v e) ∧ k v e := by
  unfold appE at *
  split at h
  · exact h.elim
  · split at h
    · split at h
      · exact src_ex2 (F := fun ys n k => Nd (n * _ ≤ 140737488355328) (k (.own id n) (Eff.set id (.arr _ _ ys)))) (fun ys n => Nd_ex2 (F := fun k => k _ _) now2) h
      · split at h
        · split at h
          · exact src_ex2 (F := fun ys n k => Nd ((_ + n) * _ ≤ 140737488355328) (k (.own id (_ + n)) (Eff.app _ id (.arr _ _ (_ ++ ys))))) (fun ys n => Nd_ex2 (F := fun k => k _ _) now2) h
          · exact h.elim
        · exact appD_ex2 h
        · exact h.elim
      · exact h.elim
    · exact h.elim
theorem stD_ex2 {i idx off size : Nat} {e : TypeId} {sz : Nat} {es : List TypeId} {xs : List (List V)} {p cs : List V} {k : V → Eff → Prop} (h : stD i idx off size e sz es xs p cs k) : ∃ v e', stD i idx off size e sz es xs p cs (Is v e') ∧ k v e' := by
  unfold stD at *
  split at h
  · split at h
    · exact now2 h
    · exact h.elim
  · split at h
    · exact now2 h
    · exact h.elim
theorem call_ex2 {f : FuncId} {us : List V} {k : V → Eff → Prop} (h : callE P G ck id us m f k) : ∃ v e, callE P G ck id us m f (Is v e) ∧ k v e := by
  rcases h with ⟨Vs, mo, r, h1, h2, h3, h4, h5, h6, h7⟩ | ⟨ids, Vs, mi, mo, r, h1, h2, h3, h4, h5, h5', h6, h7, h8, h9, h10, h11⟩ | ⟨i, idx, off, n, n', Vs, e, e', sz, s, es, xs, p, ys, ys', r, h1, h2, h3, h4, h5, h6, h7, h8, h9, h10, h11, h12, h13⟩
  · exact ⟨_, _, .inl ⟨Vs, mo, r, h1, h2, h3, h4, h5, h6, rfl, rfl⟩, h7⟩
  · exact ⟨_, _, .inr (.inl ⟨ids, Vs, mi, mo, r, h1, h2, h3, h4, h5, h5', h6, h7, h8, h9, h10, rfl, rfl⟩), h11⟩
  · exact ⟨_, _, .inr (.inr ⟨i, idx, off, n, n', Vs, e, e', sz, s, es, xs, p, ys, ys', r, h1, h2, h3, h4, h5, h6, h7, h8, h9, h10, h11, h12, rfl, rfl⟩), h13⟩
theorem stepE_ex {o : Op} {k : V → Eff → Prop} (h : stepE P G T ck id o ev m k) : ∃ v e, stepE P G T ck id o ev m (Is v e) ∧ k v e := by
  cases o <;> simp only [stepE] at h ⊢ <;> first
    | exact opv_ex2 h
    | skip
  case box t x => split at h
                  · split at h <;> first | exact now2 h | exact h.elim
                  · exact h.elim
  case alloc t => split at h <;> first | exact now2 h | exact h.elim
  case buildSlice t len parts =>
    split at h
    · split at h
      · split at h
        · split at h
          · rcases h with h | h
            · obtain ⟨v, e, h1, h2⟩ := now2 h; exact ⟨v, e, .inl h1, h2⟩
            · obtain ⟨v, e, h1, h2⟩ := now2 h; exact ⟨v, e, .inr h1, h2⟩
          · exact h.elim
        · exact bsD_ex2 h
      · exact h.elim
    · exact h.elim
  case makeSlice t lo co =>
    split at h
    · split at h
      · split at h
        · split at h
          · split at h
            · refine Nd_ex2 (F := fun k => Nd _ (Nd _ (k (.own id _) _))) (fun h => ?_) h
              refine Nd_ex2 (F := fun k => Nd _ (k (.own id _) _)) (fun h => ?_) h
              exact Nd_ex2 (F := fun k => k (.own id _) _) now2 h
            · refine Nd_ex2 (F := fun k => Nd _ (Nd _ (k (.own id _) _ ∨ ∃ es, k (.own id _) (Eff.set id (.deep _ _ es _))))) (fun h => ?_) h
              refine Nd_ex2 (F := fun k => Nd _ (k (.own id _) _ ∨ ∃ es, k (.own id _) (Eff.set id (.deep _ _ es _)))) (fun h => ?_) h
              refine Nd_ex2 (F := fun k => k (.own id _) _ ∨ ∃ es, k (.own id _) (Eff.set id (.deep _ _ es _))) (fun h => ?_) h
              rcases h with h | ⟨es, h⟩
              · exact ⟨_, _, .inl ⟨rfl, rfl⟩, h⟩
              · exact ⟨_, _, .inr ⟨es, rfl, rfl⟩, h⟩
          · exact h.elim
        · exact h.elim
      · exact h.elim
    · exact h.elim
  case store t a x =>
    split at h
    · split at h
      · split at h
        · split at h
          · split at h <;> first | exact now2 h | exact h.elim
          · exact h.elim
        · split at h
          · refine El_ex2 (F := fun p k => match Nat.ble _ p.length with | true => k _ (Eff.set _ (.arr _ _ (List.set _ _ (setR p _ _)))) | false => False) (fun p h => ?_) h
            split at h
            · exact now2 h
            · exact h.elim
          · exact El_ex2 (F := fun p k => stD _ _ _ _ _ _ _ _ p _ k) (fun p h => stD_ex2 h) h
          · exact h.elim
        · exact h.elim
      · exact h.elim
    · exact h.elim
  case call c =>
    split at h
    · exact call_ex2 h
    · split at h
      · exact call_ex2 h
      · exact call_ex2 h
      · exact h.elim
    · split at h
      · split at h
        · exact app_ex2 h
        · exact h.elim
      · exact h.elim
    · exact opv_ex2 h
end
end Go.Aw

set_option linter.unusedVariables false
namespace Go.Aw
section
variable {P : Program} {G : Nat → Option Obj} {T : TypeId → Option TI} {ck : Nat → Bool} {w0 : World} {X A0 : Nat → Prop} {N : Nat} {bd : Nat → Prop} {σ : St} {a : Act} {w : World} {A : Nat → Prop} {μ : Nat → Option Loc} {Q : Exit → Act → World → Prop}

theorem step_opv {o : Oper} {v : V} {e : Eff} (hT : TOk P T) (h : Ok w0 X A0 N bd σ a w A μ) (hd : ∀ n, o.dst = some n → n < N) (hs : opv T ck σ.ev σ.mem o.op fun v' => Is v e v' Eff.no) :
    o.wp P a w (Next w0 X A0 N bd ((σ.put o.dst v).eff e) o.dst.toList a w A μ) Q := by
  obtain ⟨v', h1, h2⟩ := opv_ex hs
  obtain ⟨rfl, rfl⟩ := h2
  obtain ⟨cv, h3, h4⟩ := opv_run hT h.ev h.mok h1
  unfold Oper.wp
  rw [h3]
  exact ⟨A, μ, h.val h4 hd⟩
theorem Next.bdm {bd' : Nat → Prop} {σ' : St} {hv : List Tmp} {a' : Act} {w' : World} (hb : ∀ i, bd i → bd' i) (h : Next w0 X A0 N bd σ' hv a w A μ a' w') : Next w0 X A0 N bd' σ' hv a w A μ a' w' := by
  obtain ⟨A', μ', h1, h2⟩ := h
  exact ⟨A', μ', h1.bdm hb, h2⟩

def NE (u u' : V) : Prop := u' = u ∨ (u = .nil ∧ ∃ sz, u' = .sl sz 0 [])
theorem NE.rc {w : World} {A : Nat → Prop} {u u' : V} {c : Value} (h : NE u u') (k : Rc w A u c) : Rc w A u' c := by
  rcases h with rfl | ⟨rfl, sz, rfl⟩
  · exact k
  · cases k
    exact .sl sz 0 [] rfl none 0 (fun _ => undef) (Nat.le_refl _) (fun _ h => (by cases h)) (fun h => absurd rfl h) (fun _ k u _ hk => (by simp at hk)) (fun k u hk => (by simp at hk)) (fun k u hk => (by simp at hk))
theorem nrm1_ne (m : Nat) (v : V) : NE v (nrm1 m v) := by
  unfold nrm1
  split
  · exact .inr ⟨rfl, _, rfl⟩
  · exact .inl rfl
theorem nrm_len : ∀ (ms : List Nat) (vs : List V), (nrm ms vs).length = vs.length
  | [], vs => by simp [nrm]
  | _ :: _, [] => by simp [nrm]
  | m :: ms, v :: vs => by simp [nrm, nrm_len ms vs]
theorem nrm_get : ∀ (ms : List Nat) (vs : List V) (j : Nat) (u' : V), (nrm ms vs)[j]? = some u' → ∃ u, vs[j]? = some u ∧ NE u u'
  | [], vs, j, u', h => ⟨u', by simpa [nrm] using h, .inl rfl⟩
  | _ :: _, [], j, u', h => by simp [nrm] at h
  | m :: ms, v :: vs, 0, u', h => by
    simp [nrm] at h; subst h
    exact ⟨v, rfl, nrm1_ne m v⟩
  | m :: ms, v :: vs, j + 1, u', h => by
    obtain ⟨u, h1, h2⟩ := nrm_get ms vs j u' (by simpa [nrm] using h)
    exact ⟨u, by simpa using h1, h2⟩
def RelR (xs xs' : List (List V)) : Prop := xs'.length = xs.length ∧ ∀ (i : Nat) (p' : List V), xs'[i]? = some p' → ∃ p, xs[i]? = some p ∧ p'.length = p.length ∧ ∀ (j : Nat) (u' : V), p'[j]? = some u' → ∃ u, p[j]? = some u ∧ NE u u'
theorem obok_rel {w : World} {A : Nat → Prop} {μ : Nat → Option Loc} {l : Loc} {e : TypeId} {sz : Nat} {xs xs' : List (List V)} (hr : RelR xs xs') (h : ObOk w A μ l (.arr e sz xs)) : ObOk w A μ l (.arr e sz xs') := by
  obtain ⟨q1, q2, q3, cs, ho, q4, q5⟩ := h
  have hu : ∀ p ∈ xs', p.length = sz := fun p hp => by
    obtain ⟨i, hi⟩ := List.getElem?_of_mem hp
    obtain ⟨p0, h1, h2, _⟩ := hr.2 i p hi
    rw [h2]; exact q3 p0 (List.mem_of_getElem? h1)
  refine ⟨q1, by rw [q2, hr.1], hu, cs, ho, q4, fun k u c hk hc => ?_⟩
  obtain ⟨p', h1, h2⟩ := flat_inv xs' k u hu hk
  obtain ⟨p, g1, _, g3⟩ := hr.2 _ p' h1
  obtain ⟨u0, k1, k2⟩ := g3 _ u h2
  have := flat_get xs (k / sz) (k % sz) p u0 q3 g1 k1
  rw [Nat.div_add_mod'] at this
  exact k2.rc (q5 k u0 c this hc)
theorem next_rel {σ1 : St} {i : Nat} {e : TypeId} {sz : Nat} {xs xs' : List (List V)} {bd' : Nat → Prop} {hv : List Tmp} {a' : Act} {w' : World} (hr : RelR xs xs') (h : Next w0 X A0 N bd' (σ1.eff (Eff.set i (.arr e sz xs))) hv a w A μ a' w') : Next w0 X A0 N bd' (σ1.eff (Eff.set i (.arr e sz xs'))) hv a w A μ a' w' := by
  obtain ⟨A', μ', h1, h2⟩ := h
  have hm : ∀ (ys : List (List V)) (j : Nat), (σ1.eff (Eff.set i (.arr e sz ys))).mem j = if j = i then some (.arr e sz ys) else σ1.mem j := fun ys j => by
    show (match Eff.set i (.arr e sz ys) j with | some x => x | none => σ1.mem j) = _
    rw [Eff.set_eq]
    by_cases c : j = i
    · rw [if_pos c, if_pos c]
    · rw [if_neg c, if_neg c]
  refine ⟨A', μ', ⟨h1.tm, h1.df, h1.env, h1.os, h1.tape, h1.out, h1.size, h1.old, h1.hA, h1.sub, fun j ob hj => ?_, fun j k lj lk b hj hk => h1.ap j k lj lk b (fun q => hj ?_) (fun q => hk ?_), h1.bd⟩, h2⟩
  · rw [hm] at hj
    by_cases c : j = i
    · rw [if_pos c] at hj; injection hj with hj; subst hj
      obtain ⟨l, g1, g2, g3⟩ := h1.ob j (.arr e sz xs) (by rw [hm, if_pos c])
      exact ⟨l, g1, obok_rel hr g2, g3⟩
    · rw [if_neg c] at hj
      exact h1.ob j ob (by rw [hm, if_neg c]; exact hj)
  · rw [hm] at q ⊢
    by_cases c : j = i
    · rw [if_pos c] at q; cases q
    · rw [if_neg c] at q ⊢; exact q
  · rw [hm] at q ⊢
    by_cases c : k = i
    · rw [if_pos c] at q; cases q
    · rw [if_neg c] at q ⊢; exact q
theorem rel_map (ms : List Nat) (xs : List (List V)) : RelR xs (xs.map (nrm ms)) := ⟨by simp, fun i p' h => by
  simp only [List.getElem?_map, Option.map_eq_some_iff] at h
  obtain ⟨p, h1, rfl⟩ := h
  exact ⟨p, h1, nrm_len ms p, fun j u' hj => nrm_get ms p j u' hj⟩⟩
theorem rel_rep (n : Nat) (ms : List Nat) (z : List V) : RelR (List.replicate n z) (List.replicate n (nrm ms z)) := by
  have := rel_map ms (List.replicate n z)
  rwa [List.map_replicate] at this
theorem rel_set (ms : List Nat) (xs : List (List V)) (idx off : Nat) (p vs : List V) (hp : xs[idx]? = some p) (hle : off + vs.length ≤ p.length) : RelR (xs.set idx (setR p off vs)) (xs.set idx (setR p off (nrm ms vs))) := by
  refine ⟨by simp, fun i p' h => ?_⟩
  rw [List.getElem?_set] at h
  by_cases c : idx = i
  · rw [if_pos c] at h
    split at h
    · rename_i hlt
      injection h with h; subst h
      refine ⟨setR p off vs, by rw [List.getElem?_set, if_pos c, if_pos hlt], by rw [setR_len (by rw [nrm_len]; exact hle), setR_len hle], fun j u' hj => ?_⟩
      rw [setR_get (by rw [nrm_len]; exact hle)] at hj
      rw [setR_get hle]
      rw [nrm_len] at hj
      split at hj
      · obtain ⟨u, k1, k2⟩ := nrm_get ms vs _ u' hj
        rename_i hc
        exact ⟨u, by rw [if_pos hc]; exact k1, k2⟩
      · rename_i hc
        exact ⟨u', by rw [if_neg hc]; exact hj, .inl rfl⟩
    · cases h
  · rw [if_neg c] at h
    exact ⟨p', by rw [List.getElem?_set, if_neg c]; exact h, rfl, fun j u' hj => ⟨u', hj, .inl rfl⟩⟩

/-- a literal of a slice as data that nobody writes -/
theorem step_buildSlice2 {o : Oper} {t : TypeId} {len : Nat} {parts : Array (Nat × Operand)} (ho : o.op = .buildSlice t len parts) (hT : TOk P T) (h : Ok w0 X A0 N bd σ a w A μ) (hd : ∀ n, o.dst = some n → n < N)
    {ti ei : TI} (ht : T t = some ti) (he : T ti.elem = some ei) (hsl : ti.sl = true) {xs : List (List V)} (hr : rows σ.ev ei.size 0 parts.toList = some xs) (hl : xs.length = len) (hsm : len * ei.size ≤ 1000) :
    o.wp P a w (Next w0 X A0 N bd ((σ.put o.dst (.sl ei.size len xs)).eff Eff.no) o.dst.toList a w A μ) Q := by
  obtain ⟨arr, hrun, hob⟩ := buildSlice_core ho hT h ht he hsl hr hl hsm μ
  unfold Oper.wp
  rw [hrun]
  have hrc := rc_arr (A' := fun b => A b ∨ b = w.heap.size) hob (fun b hb => .inl hb) (fun b hb => .inr (by have hb := has_flat hb; injection hb with hb; exact hb.symm))
  refine ⟨fun b => A b ∨ b = w.heap.size, μ, h.step (Tc := fun _ => False) rfl rfl rfl (by simp) (fun b hb _ => heap_alloc_old _ _ b hb) (fun _ h => h.elim) (fun _ h => h.elim) (fun _ h => .inl h)
    (fun b hb => ?_) (fun _ _ h => h) (fun i hi => h.bd i hi) (.c hrc) hd (fun _ _ _ _ _ _ _ _ h => h) (fun i ob' hi => (by cases hi)) (fun i ob' hi => (by cases hi))⟩
  rcases hb with hb | rfl
  · exact ⟨by have := (h.hA b hb).1; simp; omega, .inl hb⟩
  · exact ⟨by simp, .inr (Nat.le_refl _)⟩
theorem stepE_run {o : Oper} {id : Nat} {v : V} {e : Eff} (hT : TOk P T) (hG : GX G w0 X A0) (h : Ok w0 X A0 N bd σ a w A μ) (hid : ∀ m, m < 8 → μ (id + m) = none) (hd : ∀ n, o.dst = some n → n < N)
    (hs : stepE P G T ck id o.op σ.ev σ.mem (Is v e)) : o.wp P a w (Next w0 X A0 N (fun i => bd i ∨ (id ≤ i ∧ i < id + 8)) ((σ.put o.dst v).eff e) o.dst.toList a w A μ) Q := by
  have hid0 : μ id = none := hid 0 (by omega)
  have lift : ∀ {σ' : St}, o.wp P a w (Next w0 X A0 N bd σ' o.dst.toList a w A μ) Q → o.wp P a w (Next w0 X A0 N (fun i => bd i ∨ (id ≤ i ∧ i < id + 8)) σ' o.dst.toList a w A μ) Q :=
    fun h => Oper.wp_mono (fun _ _ => Next.bdm (fun _ h => .inl h)) h
  cases ho : o.op <;> rw [ho] at hs <;> simp only [stepE] at hs <;> first
    | exact lift (step_opv hT h hd (by rw [ho]; exact hs))
    | skip
  case box t x =>
    split at hs
    · rename_i ti ht
      split at hs
      · rename_i hb
        obtain ⟨rfl, rfl⟩ := hs
        exact step_box ho hT h hid0 hd ht (Nat.eq_of_beq_eq_true hb)
      · exact hs.elim
    · exact hs.elim
  case alloc t =>
    split at hs
    · rename_i ti ht
      obtain ⟨rfl, rfl⟩ := hs
      exact step_alloc ho hT h hid0 hd ht
    · exact hs.elim
  case buildSlice t len parts =>
    split at hs
    · rename_i ti ht
      split at hs
      · rename_i ei he
        split at hs
        · rename_i xs hr
          split at hs
          · rename_i h1 h2
            rw [Bool.and_eq_true] at h2
            rcases hs with ⟨rfl, rfl⟩ | ⟨rfl, rfl⟩
            · exact Oper.wp_mono (fun _ _ hn => next_rel (rel_map _ _) hn) (step_buildSlice ho hT h hid0 hd ht he h2.2 hr (Nat.eq_of_beq_eq_true h1) (Nat.le_of_ble_eq_true h2.1))
            · exact lift (step_buildSlice2 ho hT h hd ht he h2.2 hr (Nat.eq_of_beq_eq_true h1) (Nat.le_of_ble_eq_true h2.1))
          · exact hs.elim
        · unfold bsD at hs
          split at hs
          · rename_i j x hpt
            split at hs
            · rename_i hc
              simp only [Bool.and_eq_true] at hc
              obtain ⟨⟨⟨⟨⟨c1, c2⟩, c3⟩, c4⟩, c5⟩, c6⟩ := hc
              have c1 := Nat.eq_of_beq_eq_true c1
              have c2 := Nat.eq_of_beq_eq_true c2
              subst c1; subst c2
              obtain ⟨es, rfl, rfl⟩ := hs
              exact step_buildDirt es ho hpt hT h hid0 hd ht he c3 (Nat.eq_of_beq_eq_true c5) c6 (Nat.le_of_ble_eq_true c4)
            · exact hs.elim
          · exact hs.elim
      · exact hs.elim
    · exact hs.elim
  case makeSlice t lo co =>
    split at hs
    · rename_i ti ht
      split at hs
      · rename_i ei he hsl
        split at hs
        · rename_i l c hl hc
          split at hs
          · rename_i hbr
            split at hs
            · obtain ⟨h0, hs⟩ := hs.out
              obtain ⟨h1, hs⟩ := hs.out
              obtain ⟨h2, hs⟩ := hs.out
              obtain ⟨rfl, rfl⟩ := hs
              exact Oper.wp_mono (fun _ _ hn => next_rel (rel_rep _ _ _) hn) (step_makeSlice ho hT h hid0 hd ht he hsl hl hc hbr h0 h1 h2)
            · obtain ⟨h0, hs⟩ := hs.out
              obtain ⟨h1, hs⟩ := hs.out
              obtain ⟨h2, hs⟩ := hs.out
              rcases hs with ⟨rfl, rfl⟩ | ⟨es, rfl, rfl⟩
              · exact Oper.wp_mono (fun _ _ hn => next_rel (rel_rep _ _ _) hn) (step_makeSlice ho hT h hid0 hd ht he hsl hl hc hbr h0 h1 h2)
              · exact step_makeDeep es ho hT h hid0 hd ht he hsl hl hc hbr h0 h1 h2 (nrm_len _ _) (fun j u' hj => nrm_get _ _ j u' hj)
          · exact hs.elim
        · exact hs.elim
      · exact hs.elim
    · exact hs.elim
  case store t x y =>
    split at hs
    · rename_i ti ht
      split at hs
      · rename_i hb
        have hlen := Nat.eq_of_beq_eq_true hb
        split at hs
        · rename_i i off hx
          split at hs
          · rename_i cs _ hm hlf
            split at hs
            · rename_i hle
              obtain ⟨rfl, rfl⟩ := hs
              exact lift (step_store_box ho hT h hd ht hlen hlf hx hm (Nat.le_of_ble_eq_true hle))
            · exact hs.elim
          · exact hs.elim
        · rename_i i idx off hx
          split at hs
          · rename_i e' sz xs _ hm hlf
            obtain ⟨p, hp, hs⟩ := hs.out
            split at hs
            · rename_i hle
              obtain ⟨rfl, rfl⟩ := hs
              exact lift (Oper.wp_mono (fun _ _ hn => next_rel (rel_set _ _ _ _ _ _ hp (by rw [hlen]; exact Nat.le_of_ble_eq_true hle)) hn) (step_store_arr ho hT h hd ht hlen hlf hx hm hp (Nat.le_of_ble_eq_true hle)))
            · exact hs.elim
          · rename_i e' sz es xs _ _ hm
            obtain ⟨p, hp, hs⟩ := hs.out
            exact lift (step_store_deep ho hT h hd ht hlen hx hm hp hs)
          · exact hs.elim
        · exact hs.elim
      · exact hs.elim
    · exact hs.elim
  case call c =>
    split at hs
    · rename_i f hcal
      rcases hs with ⟨Vs, mo, r, h1, h2, h3, h4, h5, h6, rfl, rfl⟩ | ⟨ids, Vs, mi, mo, r, h1, h2, h3, h4, h5, h5', h6, h7, h8, h9, h10, rfl, rfl⟩ | ⟨i, idx, off, n, n', Vs, e, e', sz, s, es, xs, p, ys, ys', r, h1, h2, h3, h4, h5, h6, h7, h8, h9, h10, h11, h12, rfl, rfl⟩
      · exact step_call (calee_fn h ho (.inl hcal) h1.1) hG h hid hd h1 h2 h3 h4 h5 h6
      · exact lift (step_callM (calee_fn h ho (.inl hcal) h1.1) hG h hd h1 h2 h3 h4 h6 h7 h8 h9 h10)
      · exact lift (step_callI (calee_fn h ho (.inl hcal) h1.1) hG h hd h1 h4 h5 h6 h7 h8 h9 h10 h11 h12)
    · rename_i t hcal
      split at hs
      · rename_i f hev
        have hv := h.ev (.tmp t)
        rw [hev] at hv
        rcases hs with ⟨Vs, mo, r, h1, h2, h3, h4, h5, h6, rfl, rfl⟩ | ⟨ids, Vs, mi, mo, r, h1, h2, h3, h4, h5, h5', h6, h7, h8, h9, h10, rfl, rfl⟩ | ⟨i, idx, off, n, n', Vs, e, e', sz, s, es, xs, p, ys, ys', r, h1, h2, h3, h4, h5, h6, h7, h8, h9, h10, h11, h12, rfl, rfl⟩
        · exact step_call (calee_fn h ho (.inr ⟨t, hcal, hv.fn_inv⟩) h1.1) hG h hid hd h1 h2 h3 h4 h5 h6
        · exact lift (step_callM (calee_fn h ho (.inr ⟨t, hcal, hv.fn_inv⟩) h1.1) hG h hd h1 h2 h3 h4 h6 h7 h8 h9 h10)
        · exact lift (step_callI (calee_fn h ho (.inr ⟨t, hcal, hv.fn_inv⟩) h1.1) hG h hd h1 h4 h5 h6 h7 h8 h9 h10 h11 h12)
      · rename_i f i hev
        rcases hs with ⟨Vs, mo, r, h1, h2, h3, h4, h5, h6, rfl, rfl⟩ | ⟨ids, Vs, mi, mo, r, h1, h2, h3, h4, h5, h5', h6, h7, h8, h9, h10, rfl, rfl⟩ | ⟨i, idx, off, n, n', Vs, e, e', sz, s, es, xs, p, ys, ys', r, h1, h2, h3, h4, h5, h6, h7, h8, h9, h10, h11, h12, rfl, rfl⟩
        · exact step_call (calee_clo h ho hcal hev h1.1) hG h hid hd h1 h2 h3 h4 h5 h6
        · exact lift (step_callM (calee_clo h ho hcal hev h1.1) hG h hd h1 h2 h3 h4 h6 h7 h8 h9 h10)
        · exact lift (step_callI (calee_clo h ho hcal hev h1.1) hG h hd h1 h4 h5 h6 h7 h8 h9 h10 h11 h12)
      · exact hs.elim
    · rename_i hcal
      split at hs
      · rename_i t u s x hat har
        split at hs
        · rename_i hb
          have := Nat.eq_of_beq_eq_true hb; subst this
          exact step_app ho hcal hat har hT h hid0 hd hs (fun i len e sz es xs ht he hsl hes hm ha => step_appD ho hcal hat har hT h hid0 hd i len e sz es xs ht he hsl hes hm ha)
        · exact hs.elim
      · exact hs.elim
    · exact lift (step_opv hT h hd (by rw [ho]; exact hs))
end
end Go.Aw

set_option linter.unusedVariables false
namespace Go.Aw
section
variable {P : Program} {G : Nat → Option Obj} {T : TypeId → Option TI} {ck : Nat → Bool} {w0 : World} {X A0 : Nat → Prop} {N : Nat} {bd : Nat → Prop} {σ : St} {a : Act} {w : World} {A : Nat → Prop} {μ : Nat → Option Loc} {Q : Exit → Act → World → Prop} {ops : Array Oper}

theorem Ext.trans' {hv : List Tmp} {a a1 a2 : Act} {w w1 w2 : World} {A A1 A2 : Nat → Prop} {μ μ1 μ2 : Nat → Option Loc} (h : Ext hv a w A μ a1 w1 A1 μ1) (k : Ext hv a1 w1 A1 μ1 a2 w2 A2 μ2) : Ext hv a w A μ a2 w2 A2 μ2 :=
  (h.trans k).mono (fun t ht => (List.mem_append.1 ht).elim (fun h => h) (fun h => h))

theorem eff_no (σ : St) : σ.eff Eff.no = σ := rfl

theorem frc_eq (v : V) (k : V → Prop) : frc v k = k v := by cases v <;> rfl
/-- what a guarded step comes to -/
theorem stepG_ex {base i : Nat} {o : Oper} {K : St → Prop} (h : stepG P G T ck base i ops o K σ) :
    (∃ v e, stepE P G T ck (sid base i) o.op σ.ev σ.mem (Is v e) ∧ K ((σ.put o.dst v).eff e) ∧ (o.guard = none ∨ ∃ j want t, o.guard = some (j, want) ∧ (ops[j]?).bind (·.dst) = some t ∧ σ.env t = .bool want)) ∨
    (K (σ.put o.dst (.tup [])) ∧ ∃ j want t, o.guard = some (j, want) ∧ (ops[j]?).bind (·.dst) = some t ∧ (σ.env t = .bool (!want) ∨ σ.env t = .tup [])) := by
  unfold stepG at h
  simp only [frc_eq] at h
  split at h
  · rename_i hg
    obtain ⟨v, e, h1, h2⟩ := stepE_ex h
    exact .inl ⟨v, e, h1, h2, .inl hg⟩
  · rename_i j want hg
    split at h
    · exact h.elim
    · rename_i t ht
      split at h
      · rename_i b hb
        have key : Br b (stepE P G T ck (sid base i) o.op σ.ev σ.mem fun v e => K ((σ.put o.dst v).eff e)) (K (σ.put o.dst (.tup []))) ∧ want = true ∨ Br b (K (σ.put o.dst (.tup []))) (stepE P G T ck (sid base i) o.op σ.ev σ.mem fun v e => K ((σ.put o.dst v).eff e)) ∧ want = false := by
          unfold Br2 at h
          cases want
          · exact .inr ⟨h, rfl⟩
          · exact .inl ⟨h, rfl⟩
        rcases key with ⟨h, rfl⟩ | ⟨h, rfl⟩
        · cases b with
          | true =>
            obtain ⟨v, e, h1, h2⟩ := stepE_ex (h.out.1 rfl)
            exact .inl ⟨v, e, h1, h2, .inr ⟨j, true, t, hg, ht, hb⟩⟩
          | false => exact .inr ⟨h.out.2 rfl, j, true, t, hg, ht, .inl hb⟩
        · cases b with
          | true => exact .inr ⟨h.out.1 rfl, j, false, t, hg, ht, .inl hb⟩
          | false =>
            obtain ⟨v, e, h1, h2⟩ := stepE_ex (h.out.2 rfl)
            exact .inl ⟨v, e, h1, h2, .inr ⟨j, false, t, hg, ht, hb⟩⟩
      · rename_i ht0
        exact .inr ⟨h, j, want, t, hg, ht, .inr ht0⟩
      · exact h.elim

theorem Ok.yld (h : Ok w0 X A0 N bd σ a w A μ) {j : Nat} {t : Tmp} (ht : (ops[j]?).bind (·.dst) = some t) {b : Bool} (hb : σ.env t = .bool b) : Go.yielded ops a.tmps j = some b := by
  have := h.env t
  rw [hb] at this
  have := this.bool_inv
  unfold Go.yielded
  rw [ht]
  simp only [Option.bind_some]
  cases hg : a.tmps[t]? with
  | none => simp [Array.getD_eq_getD_getElem?, hg, undef] at this
  | some v => simp [Array.getD_eq_getD_getElem?, hg] at this; subst this; rfl
theorem Ok.yld0 (h : Ok w0 X A0 N bd σ a w A μ) {j : Nat} {t : Tmp} (ht : (ops[j]?).bind (·.dst) = some t) (hb : σ.env t = .tup []) : Go.yielded ops a.tmps j = none := by
  have := h.env t
  rw [hb] at this
  have := this.tup0_inv
  unfold Go.yielded
  rw [ht]
  simp only [Option.bind_some]
  cases hg : a.tmps[t]? with
  | none => rfl
  | some v => simp [Array.getD_eq_getD_getElem?, hg] at this; subst this; rfl

theorem stepG_run {base i : Nat} {o : Oper} {K : St → Prop} (hT : TOk P T) (hG : GX G w0 X A0) (h : Ok w0 X A0 N bd σ a w A μ) (hid : ∀ m, m < 8 → μ (sid base i + m) = none) (ho : ops[i]? = some o) (hd : ∀ n, o.dst = some n → n < N) (hs : stepG P G T ck base i ops o K σ) :
    wpOp P ops Q i (fun a' w' => ∃ σ', K σ' ∧ Next w0 X A0 N (fun j => bd j ∨ (sid base i ≤ j ∧ j < sid base i + 8)) σ' o.dst.toList a w A μ a' w') a w := by
  unfold wpOp
  rw [ho]
  simp only
  rcases stepG_ex hs with ⟨v, e, h1, h2, h3⟩ | ⟨h1, j, want, t, h2, h3, h4⟩
  · have hw : Region.wanted o (yielded ops a.tmps) = true := by
      unfold Region.wanted
      rcases h3 with hg | ⟨j, want, t, hg, ht, hb⟩
      · rw [hg]
      · rw [hg]; simp only; rw [h.yld ht hb]; simp
    rw [if_pos hw]
    exact .inl (Oper.wp_mono (fun a' w' hn => ⟨_, h2, hn⟩) (stepE_run hT hG h hid hd h1))
  · have hw : Region.wanted o (yielded ops a.tmps) = false := by
      unfold Region.wanted
      rw [h2]; simp only
      rcases h4 with hb | hb
      · rw [h.yld h3 hb]; cases want <;> rfl
      · rw [h.yld0 h3 hb]; rfl
    rw [if_neg (by rw [hw]; simp)]
    obtain ⟨g1, g2⟩ := h.val (d := o.dst) (v := .tup []) (cv := undef) (.tup [] #[] rfl (fun i x c h => by simp at h)) hd
    exact ⟨_, h1, A, μ, g1.bdm (fun _ h => .inl h), g2⟩

/-- a region whose operations come up as they stand -/
theorem rgo_seq {base : Nat} {ck2 : Nat → Nat → Bool} {K : St → Prop} {hv : List Tmp} (hT : TOk P T) (hG : GX G w0 X A0) (hdst : ∀ (i : Nat) (o : Oper), ops[i]? = some o → ∀ n, o.dst = some n → n < N ∧ n ∈ hv) :
    ∀ (k i : Nat) (σ : St) (a : Act) (w : World) (A : Nat → Prop) (μ : Nat → Option Loc), i + k = ops.size → Ok w0 X A0 N (fun j => j < base + 8 * i) σ a w A μ → rgo P G T ck2 base ops i (ops.toList.drop i) K σ →
      wpOps P ops (fun e a' w' => e = .normal ∧ ∃ σ', K σ' ∧ Next w0 X A0 N (fun j => j < base + 8 * ops.size) σ' hv a w A μ a' w') (List.range' i k) a w
  | 0, i, σ, a, w, A, μ, hk, h, hr => by
    have hd : ops.toList.drop i = [] := List.drop_eq_nil_of_le (by simp; omega)
    rw [hd] at hr
    have : i = ops.size := by omega
    subst this
    exact ⟨rfl, σ, hr, A, μ, h, Ext.refl _ _ _ _ _⟩
  | k + 1, i, σ, a, w, A, μ, hk, h, hr => by
    have hlt : i < ops.size := by omega
    have ho : ops[i]? = some ops[i] := Array.getElem?_eq_getElem hlt
    have hd : ops.toList.drop i = ops[i] :: ops.toList.drop (i + 1) := by
      rw [List.drop_eq_getElem_cons (by simpa using hlt)]; rfl
    rw [hd] at hr
    rw [List.range'_succ, wpOps_cons]
    have hid : ∀ m, m < 8 → μ (sid base i + m) = none := fun m hm => by
      cases hc : μ (sid base i + m) with
      | none => rfl
      | some l => have := h.bd (sid base i + m) (by rw [hc]; simp); simp [sid] at this; omega
    have hm : ∀ (Q1 Q2 : Exit → Act → World → Prop), (∀ e a w, Q1 e a w → Q2 e a w) → ∀ l a w, wpOps P ops Q1 l a w → wpOps P ops Q2 l a w := fun Q1 Q2 hq l => by
      induction l with
      | nil => exact fun a w h => hq _ _ _ h
      | cons i rest ih =>
        intro a w hh
        simp only [wpOps] at hh ⊢
        cases ho : ops[i]? with
        | none => rw [ho] at hh; exact ih _ _ hh
        | some o =>
          rw [ho] at hh
          simp only at hh ⊢
          by_cases hw : Region.wanted o (Go.yielded ops a.tmps) = true
          · rw [if_pos hw] at hh ⊢
            rcases hh with hh | ⟨h1, a0, w0, h2⟩
            · left
              unfold Oper.wp at *
              generalize (execOp a.eval o).run P w = r at *
              cases r with
              | ok n w' =>
                cases n <;> simp only [Oper.upon] at hh ⊢ <;> first
                  | exact ih _ _ hh
                  | exact Calls.mono hh (fun e w'' he => by
                      cases e with
                      | returned v => exact ih _ _ he
                      | panicked c => exact hq _ _ _ he
                      | outgrown => obtain ⟨a0, w0, h0⟩ := he; exact ⟨a0, w0, hq _ _ _ h0⟩)
                  | exact Rows.mono hh (fun _ _ he => ih _ _ he)
                  | exact hh
              | halt x w' => cases x <;> simp only [Oper.upon] at hh ⊢ <;> first | exact hq _ _ _ hh | exact hh
            · exact .inr ⟨h1, a0, w0, hq _ _ _ h2⟩
          · rw [if_neg hw] at hh ⊢
            exact ih _ _ hh
    refine wpOp_mono (fun a' w' ⟨σ', hk', A', μ', h', hx⟩ => ?_) (stepG_run hT hG h hid ho (fun n hn => (hdst i _ ho n hn).1) hr)
    have hx' : Ext hv a w A μ a' w' A' μ' := hx.mono (fun t ht => by
      cases hdd : ops[i].dst with
      | none => rw [hdd] at ht; simp at ht
      | some n => rw [hdd] at ht; simp at ht; subst ht; exact (hdst i _ ho t hdd).2)
    have h2 : Ok w0 X A0 N (fun j => j < base + 8 * (i + 1)) σ' a' w' A' μ' := h'.bdm (fun j hj => by
      simp only [sid] at hj; omega)
    have := rgo_seq hT hG hdst k (i + 1) σ' a' w' A' μ' (by omega) h2 hk'
    refine hm _ _ (fun e a2 w2 ⟨he, σ2, hk2, A2, μ2, h3, hx2⟩ => ?_) _ _ _ this
    exact ⟨he, σ2, hk2, A2, μ2, h3, hx'.trans' hx2⟩
end
end Go.Aw

set_option linter.unusedVariables false
namespace Go.Aw
/-- may change objects that are there -/
def wrOp (ck : Nat → Bool) (o : Op) : Bool := modOp o || (ck 1000000007 && !freeOp o)
theorem free_wr {ck : Nat → Bool} {o : Op} (h : freeOp o = true) : wrOp ck o = false := by
  unfold wrOp
  rw [h]
  have : modOp o = false := by
    cases o <;> first | rfl | cases h | skip
    rename_i c
    cases hc : c.callee with
    | value f => simp [freeOp, hc] at h
    | invoke r n => simp [freeOp, hc] at h
    | builtin b => cases b <;> simp_all [freeOp, modOp]
  rw [this]; simp
section
variable {P : Program} {G : Nat → Option Obj} {T : TypeId → Option TI} {ck : Nat → Bool} {ev ev' : Operand → V} {m m' : Nat → Option Ob} {id : Nat}

theorem ckm (hm : ∀ j, ck j = true → m j = m' j) {α : Type} (i : Nat) (F : Option Ob → α) (d : α) : (match ck i, m i with | true, ob => F ob | false, _ => d) = (match ck i, m' i with | true, ob => F ob | false, _ => d) := by
  cases h : ck i with
  | true => rw [hm i h]
  | false => rfl

theorem rdP_congr {n : Nat} {agg : Bool} {p : V} {k : V → Prop} (hm : ∀ j, ck j = true → m j = m' j) (h : rdP ck m n agg p k) : rdP ck m' n agg p k := by
  unfold rdP at *
  split at h
  · rename_i i off
    cases hc : ck i with
    | true => rw [← hm i hc]; rw [hc] at h; exact h
    | false => rw [hc] at h; exact h.elim
  · rename_i i idx off
    cases hc : ck i with
    | true => rw [← hm i hc]; rw [hc] at h; exact h
    | false => rw [hc] at h; exact h.elim
  · exact h
  · exact h
theorem fillV_congr : ∀ (l : List (Nat × Operand)) (plc : List (Nat × Nat)) (cs : List V), (∀ x ∈ l, ev x.2 = ev' x.2) → fillV ev plc cs l = fillV ev' plc cs l
  | [], plc, cs, _ => rfl
  | (i, x) :: l, plc, cs, h => by
    have h1 : ev x = ev' x := h (i, x) (List.mem_cons_self ..)
    have ih := fun cs => fillV_congr l plc cs (fun y hy => h y (List.mem_cons_of_mem _ hy))
    simp only [fillV, h1, ih]
theorem rows_congr : ∀ (l : List (Nat × Operand)) (sz n : Nat), (∀ x ∈ l, ev x.2 = ev' x.2) → rows ev sz n l = rows ev' sz n l
  | [], sz, n, _ => rfl
  | (i, x) :: l, sz, n, h => by
    have h1 : ev x = ev' x := h (i, x) (List.mem_cons_self ..)
    have ih := rows_congr l sz (n + 1) (fun y hy => h y (List.mem_cons_of_mem _ hy))
    simp only [rows, h1, ih]
theorem av_congr (hm : ∀ j, ck j = true → m j = m' j) {u x : V} (h : Av ck m u x) : Av ck m' u x := by
  unfold Av at *
  cases u <;> try exact h
  rename_i i len
  simp only at h ⊢
  cases hc : ck i with
  | true => rw [← hm i hc]; rw [hc] at h; exact h
  | false => rw [hc] at h; exact h.elim
theorem avL_congr (hm : ∀ j, ck j = true → m j = m' j) : ∀ (us xs : List V), AvL ck m us xs → AvL ck m' us xs
  | [], xs, h => h
  | u :: us, xs, ⟨x, ys, h1, h2, h3⟩ => ⟨x, ys, h1, av_congr hm h2, avL_congr hm us ys h3⟩
theorem avA_congr (hm : ∀ j, ck j = true → m j = m' j) {u x : V} (h : AvA ck m u x) : AvA ck m' u x := by
  unfold AvA at *
  split at h
  · obtain ⟨xs, h1, h2⟩ := h; exact ⟨xs, h1, avL_congr hm _ _ h2⟩
  · exact av_congr hm h
theorem avAL_congr (hm : ∀ j, ck j = true → m j = m' j) : ∀ (us xs : List V), AvAL ck m us xs → AvAL ck m' us xs
  | [], xs, h => h
  | u :: us, xs, ⟨x, ys, h1, h2, h3⟩ => ⟨x, ys, h1, avA_congr hm h2, avAL_congr hm us ys h3⟩
theorem src_congr (hm : ∀ j, ck j = true → m j = m' j) {size : Nat} {x : V} {K : List (List V) → Nat → Prop} (h : srcE ck m size x K) : srcE ck m' size x K := by
  unfold srcE at *
  cases x <;> try exact h
  rename_i j len
  simp only at h ⊢
  cases hc : ck j with
  | true => rw [← hm j hc]; rw [hc] at h; exact h
  | false => rw [hc] at h; exact h.elim
theorem app_congr (hm : ∀ j, ck j = true → m j = m' j) {t : TypeId} {s x : Operand} {k : V → Eff → Prop} (hs : ev s = ev' s) (hx : ev x = ev' x) (h : appE T ck id ev m t s x k) : appE T ck id ev' m' t s x k := by
  unfold appE at *
  rw [← hs, ← hx]
  cases ht : T t with
  | none => rw [ht] at h; exact h.elim
  | some ti =>
    rw [ht] at h
    simp only at h ⊢
    cases he : T ti.elem with
    | none => rw [he] at h; exact h.elim
    | some ei =>
      rw [he] at h
      cases hsl : ti.sl with
      | false => rw [hsl] at h; exact h.elim
      | true =>
        rw [hsl] at h
        simp only at h ⊢
        cases hes : ev s <;> rw [hes] at h <;> try exact h.elim
        · exact src_congr hm h
        · rename_i i len
          simp only at h ⊢
          cases hc : ck i with
          | false => rw [hc] at h; exact h.elim
          | true =>
            rw [← hm i hc]; rw [hc] at h
            cases hmi : m i with
            | none => rw [hmi] at h; exact h.elim
            | some ob =>
              rw [hmi] at h
              cases ob with
              | box cs => exact h.elim
              | deep e sz es xs =>
                simp only at h ⊢
                unfold appD at h ⊢
                generalize ev x = vx at h ⊢
                cases vx <;> try exact h.elim
                rename_i j n0
                simp only at h ⊢
                cases hcj : ck j with
                | false => rw [hcj] at h; exact h.elim
                | true => rw [← hm j hcj]; rw [hcj] at h; exact h
              | dirt e sz es xs idx row => exact h.elim
              | arr e sz xs =>
                simp only at h ⊢
                split at h
                · exact src_congr hm h
                · exact h.elim
theorem call_congr (hm : ∀ j, ck j = true → m j = m' j) {f : FuncId} {us us' : List V} {k : V → Eff → Prop} (ha : us = us') (h : callE P G ck id us m f k) : callE P G ck id us' m' f k := by
  rcases h with ⟨Vs, mo, r, h1, h2, h3, h4⟩ | ⟨ids, Vs, mi, mo, r, h1, h2, h3, h4, h5, h5', h6, h7, h8, h9⟩ | ⟨i, idx, off, n, n', Vs, e, e', sz, s, es, xs, p, ys, ys', r, h1, h2, h3, h4, h5, h6, h7, h8, h9⟩
  · exact .inl ⟨Vs, mo, r, h1, by rw [← ha]; exact avAL_congr hm _ _ h2, by rw [← ha]; exact h3, h4⟩
  · exact .inr (.inl ⟨ids, Vs, mi, mo, r, h1, h2, h3, h4, h5, h5', fun n i hn => by rw [← hm i (List.all_eq_true.1 h5 i (List.mem_of_getElem? hn))]; exact h6 n i hn, h7, by rw [← ha]; exact h8, h9⟩)
  · exact .inr (.inr ⟨i, idx, off, n, n', Vs, e, e', sz, s, es, xs, p, ys, ys', r, h1, h2, h3, by rw [← hm i h2]; exact h4, h5, h6, h7, by rw [← ha]; exact h8, h9⟩)

theorem opv_congr {o : Op} (he : ∀ x ∈ o.operands.toList, ev x = ev' x) (hm : freeOp o = true ∨ ∀ j, ck j = true → m j = m' j) {k : V → Prop} (h : opv T ck ev m o k) : opv T ck ev' m' o k := by
  cases o <;> simp only [opv] at h ⊢ <;> try exact h
  case move x => rw [← he x (by simp [Op.operands])]; exact h
  case assign x => rw [← he x (by simp [Op.operands])]; exact h
  case makeFunc fn first cap =>
    have hcap : ∀ y, cap.toList = [y] → ev y = ev' y := fun y hy => he y (by
      simp only [Op.operands, Array.toList_append]
      exact List.mem_append_right _ (by rw [hy]; simp))
    cases fn <;> try exact h
    generalize first.toList = l1 at h ⊢
    generalize hc : cap.toList = l2 at h ⊢
    rcases l1 with _ | ⟨_, _⟩ <;> rcases l2 with _ | ⟨y, _ | ⟨_, _⟩⟩ <;> try exact h
    simp only at h ⊢
    rw [← hcap y hc]; exact h
  case pick c a b => rw [← he c (by simp [Op.operands]), ← he a (by simp [Op.operands]), ← he b (by simp [Op.operands])]; exact h
  case build t parts =>
    have e1 : ∀ cs plc, fillV ev plc cs parts.toList = fillV ev' plc cs parts.toList := fun cs plc => fillV_congr _ _ _ (fun x hx => he x.2 (by simp [Op.operands]; exact ⟨x.1, by simpa using hx⟩))
    simp only [← e1]; exact h
  case load t x =>
    rw [← he x (by simp [Op.operands])]
    split at h
    · rename_i ti ht; exact rdP_congr (hm.resolve_left (by simp [freeOp])) h
    · exact h.elim
  case nilCheck x => rw [← he x (by simp [Op.operands])]; exact h
  case binOp op t x y ty => rw [← he x (by simp [Op.operands]), ← he y (by simp [Op.operands])]; exact h
  case unOp op t x => rw [← he x (by simp [Op.operands])]; exact h
  case convert s d x =>
    rw [← he x (by simp [Op.operands])]
    have hm := hm.resolve_left (by simp [freeOp])
    cases hs : T s with
    | none => rw [hs] at h; exact h.elim
    | some si =>
      cases ht : T d with
      | none => rw [hs, ht] at h; exact h.elim
      | some ti =>
        rw [hs, ht] at h; simp only at h ⊢
        cases hi : ti.int with
        | some kd =>
          rw [hi] at h
          cases hx : ev x <;> rw [hx] at h <;> exact h
        | none =>
          rw [hi] at h
          cases hx : ev x <;> rw [hx] at h <;> try exact h
          rename_i i len
          simp only at h ⊢
          cases hc : ck i with
          | true => rw [← hm i hc]; rw [hc] at h; exact h
          | false =>
            rw [hc] at h
            exfalso
            revert h
            cases ti.str <;> try exact fun h => h
            simp only
            cases si.sl <;> try exact fun h => h
            cases T si.elem <;> exact fun h => h
  case slice t x lo hi mx =>
    rw [← he x (by simp [Op.operands])]
    have e : ∀ (sz n : Nat) (xs : List (List V)) (k : V → Prop), sliceV ev lo hi sz n xs k → sliceV ev' lo hi sz n xs k := fun sz n xs k h => by
      unfold sliceV at *
      cases lo with
      | none => cases hi with
        | none => exact h
        | some hh => simp only at h ⊢; rw [← he hh (by simp [Op.operands])]; exact h
      | some ll => cases hi with
        | none => simp only at h ⊢; rw [← he ll (by simp [Op.operands])]; exact h
        | some hh => simp only at h ⊢; rw [← he ll (by simp [Op.operands]), ← he hh (by simp [Op.operands])]; exact h
    have e' : ∀ (s : ByteArray) (k : V → Prop), sliceS ev lo hi s k → sliceS ev' lo hi s k := fun s k h => by
      unfold sliceS at *
      cases lo with
      | none => cases hi with
        | none => exact h
        | some hh => simp only at h ⊢; rw [← he hh (by simp [Op.operands])]; exact h
      | some ll => cases hi with
        | none => simp only at h ⊢; rw [← he ll (by simp [Op.operands])]; exact h
        | some hh => simp only at h ⊢; rw [← he ll (by simp [Op.operands]), ← he hh (by simp [Op.operands])]; exact h
    cases ht : T t with
    | none => rw [ht] at h; exact h.elim
    | some ti =>
      rw [ht] at h
      cases mx with
      | some _ => exact h.elim
      | none =>
        simp only at h ⊢
        unfold sliceA at h ⊢
        generalize ev x = v at h ⊢
        generalize T ti.elem = oe at h ⊢
        generalize ti.str = b1 at h ⊢
        generalize ti.sl = b2 at h ⊢
        cases v <;> try exact h.elim
        · cases b1
          · exact h.elim
          · exact e' _ _ h
        · rename_i sz n xs
          cases oe <;> cases b2 <;> try exact h.elim
          rename_i ei
          simp only at h ⊢
          generalize Nat.beq sz ei.size = b3 at h ⊢
          cases b3
          · exact h.elim
          · exact e _ _ _ _ h
  case fieldAddr t x f => rw [← he x (by simp [Op.operands])]; exact h
  case field t x f => rw [← he x (by simp [Op.operands])]; exact h
  case indexAddr t x ix =>
    rw [← he x (by simp [Op.operands]), ← he ix (by simp [Op.operands])]
    have hm := hm.resolve_left (by simp [freeOp])
    cases ht : T t with
    | none => rw [ht] at h; exact h.elim
    | some ti =>
      rw [ht] at h; simp only at h ⊢
      cases hte : T ti.elem with
      | none => rw [hte] at h; exact h.elim
      | some ei =>
        rw [hte] at h
        cases hsl : ti.sl with
        | false => rw [hsl] at h; exact h
        | true =>
          rw [hsl] at h; simp only at h ⊢
          cases hix : ev ix <;> rw [hix] at h <;> try exact h.elim
          simp only at h ⊢
          cases hx : ev x <;> rw [hx] at h <;> try exact h.elim
          · exact h
          · rename_i i len
            simp only at h ⊢
            cases hc : ck i with
            | true => rw [← hm i hc]; rw [hc] at h; exact h
            | false => rw [hc] at h; exact h.elim
  case index t x ix => rw [← he x (by simp [Op.operands]), ← he ix (by simp [Op.operands])]; exact h
  case extract x i => rw [← he x (by simp [Op.operands])]; exact h
  case call c =>
    cases hcal : c.callee with
    | value f => rw [hcal] at h; exact h.elim
    | invoke r n => rw [hcal] at h; exact h.elim
    | builtin b =>
      rw [hcal] at h
      cases b <;> try exact h.elim
      · simp only at h ⊢
        split at h
        · rename_i t x hty hx
          rw [← he x (by simp [Op.operands, Call.operands, hcal, hx])]
          exact h
        · exact h.elim
      all_goals
        simp only at h ⊢
        split at h
        · rename_i x y hxy
          rw [← he x (by simp [Op.operands, Call.operands, hcal, hxy]), ← he y (by simp [Op.operands, Call.operands, hcal, hxy])]
          exact h
        · exact h.elim

theorem stepE_congr {o : Op} (he : ∀ x ∈ o.operands.toList, ev x = ev' x) (hm : freeOp o = true ∨ ∀ j, ck j = true → m j = m' j) {k : V → Eff → Prop} (h : stepE P G T ck id o ev m k) : stepE P G T ck id o ev' m' k := by
  cases o <;> simp only [stepE] at h ⊢ <;> try exact opv_congr he hm h
  case box t x => rw [← he x (by simp [Op.operands])]; exact h
  case alloc t => exact h
  case buildSlice t len parts =>
    have e1 : ∀ sz, rows ev sz 0 parts.toList = rows ev' sz 0 parts.toList := fun sz => rows_congr _ _ _ (fun x hx => he x.2 (by simp [Op.operands]; exact ⟨x.1, by simpa using hx⟩))
    have e2 : ∀ ti ei, bsD ev id ti ei len parts.toList = bsD ev' id ti ei len parts.toList := fun ti ei => by
      unfold bsD
      split
      · rename_i j x hpt
        have : ev x = ev' x := he x (by simp [Op.operands]; exact ⟨j, by
          have : (j, x) ∈ parts.toList := by rw [hpt]; simp
          simpa using this⟩)
        rw [this]
      · rfl
    simp only [← e1, ← e2]; exact h
  case makeSlice t lo co => rw [← he lo (by simp [Op.operands]), ← he co (by simp [Op.operands])]; exact h
  case store t a x =>
    have hm := hm.resolve_left (by simp [freeOp])
    rw [← he a (by simp [Op.operands]), ← he x (by simp [Op.operands])]
    cases ht : T t with
    | none => rw [ht] at h; exact h.elim
    | some ti =>
      rw [ht] at h; simp only at h ⊢
      cases hb : Nat.beq (ev x).cells.length ti.size with
      | false => rw [hb] at h; exact h.elim
      | true =>
        rw [hb] at h; simp only at h ⊢
        cases ha : ev a <;> rw [ha] at h <;> try exact h.elim
        · rename_i i off
          simp only at h ⊢
          cases hc : ck i with
          | true => rw [← hm i hc]; rw [hc] at h; exact h
          | false => rw [hc] at h; exact h.elim
        · rename_i i idx off
          simp only at h ⊢
          cases hc : ck i with
          | true => rw [← hm i hc]; rw [hc] at h; exact h
          | false => rw [hc] at h; exact h.elim
  case call c =>
    have hargs : c.args.toList.map ev = c.args.toList.map ev' := List.map_congr_left (fun x hx => he x (by simp only [Op.operands, Call.operands, Array.toList_append]; exact List.mem_append_right _ hx))
    cases hcal : c.callee with
    | value f =>
      rw [hcal] at h
      have hm := hm.resolve_left (by simp [freeOp, hcal])
      cases f <;> try exact opv_congr he (.inr hm) (by simp only [opv, hcal] at h ⊢)
      · rename_i t
        simp only at h ⊢
        rw [← he (.tmp t) (by simp [Op.operands, Call.operands, hcal])]
        split at h
        · exact call_congr hm hargs h
        · exact call_congr hm (by rw [hargs]) h
        · exact h.elim
      · exact call_congr hm hargs h
    | invoke r n => rw [hcal] at h; exact opv_congr he hm h
    | builtin b =>
      rw [hcal] at h
      cases b <;> try exact opv_congr he hm h
      have hm := hm.resolve_left (by simp [freeOp, hcal])
      simp only at h ⊢
      split at h
      · rename_i t u s x hty hx
        split at h
        · exact app_congr hm (he s (by simp [Op.operands, Call.operands, hcal, hx])) (he x (by simp [Op.operands, Call.operands, hcal, hx])) h
        · exact h.elim
      · exact h.elim

/-- what a step touches -/
theorem stepE_supp {o : Op} {v : V} {e : Eff} (h : stepE P G T ck id o ev m (Is v e)) : ∀ j, e j ≠ none → (id ≤ j ∧ j < id + 8) ∨ (ck j = true ∧ wrOp ck o = true) := by
  have setid : ∀ (i : Nat) (ob : Ob) (j : Nat), Eff.set i ob j ≠ none → j = i := fun i ob j hj => by
    rw [Eff.set_eq] at hj; split at hj
    · assumption
    · exact absurd rfl hj
  intro j hj
  have no : ∀ {o' : Op}, opv T ck ev m o' (fun v' => Is v e v' Eff.no) → False := fun {o'} h => by
    obtain ⟨v', _, _, h2⟩ := opv_ex h
    rw [← h2] at hj; exact hj rfl
  have callk : ∀ {us : List V} {f : FuncId} {o' : Op}, freeOp o' = false → callE P G ck id us m f (Is v e) → (id ≤ j ∧ j < id + 8) ∨ (ck j = true ∧ wrOp ck o' = true) := fun {us f o'} hf h => by
    rcases h with ⟨Vs, mo, r, h1, h2, h3, h4, h5, h6, _, rfl⟩ | ⟨ids, Vs, mi, mo, r, h1, h2, h3, h4, h5, h5', _, _, _, _, _, _, rfl⟩ | ⟨i, idx, off, n, n', Vs, e', e'', sz, s, es, xs, p, ys, ys', r, _, h2, h3, _, _, _, _, _, _, _, _, _, _, rfl⟩
    · rw [setL_eq] at hj; split at hj
      · exact .inl (by omega)
      · exact absurd rfl hj
    · refine .inr ⟨?_, by simp [wrOp, h5', hf]⟩
      rcases at_eq ids mo j with ⟨n, ob, q1, _⟩ | ⟨q, _⟩
      · exact List.all_eq_true.1 h5 j (List.mem_of_getElem? q1)
      · exact absurd q hj
    · have := setid _ _ _ hj; subst this; exact .inr ⟨h2, by simp [wrOp, h3, hf]⟩
  cases o <;> simp only [stepE] at h <;> try exact (no h).elim
  case box t x =>
    split at h
    · split at h
      · obtain ⟨_, rfl⟩ := h; have := setid _ _ _ hj; exact .inl (by omega)
      · exact h.elim
    · exact h.elim
  case alloc t =>
    split at h
    · obtain ⟨_, rfl⟩ := h; have := setid _ _ _ hj; exact .inl (by omega)
    · exact h.elim
  case buildSlice t len parts =>
    split at h
    · split at h
      · split at h
        · split at h
          · rcases h with ⟨_, rfl⟩ | ⟨_, rfl⟩
            · have := setid _ _ _ hj; exact .inl (by omega)
            · exact absurd rfl hj
          · exact h.elim
        · unfold bsD at h
          split at h
          · split at h
            · obtain ⟨es, _, rfl⟩ := h; have := setid _ _ _ hj; exact .inl (by omega)
            · exact h.elim
          · exact h.elim
      · exact h.elim
    · exact h.elim
  case makeSlice t lo co =>
    split at h
    · split at h
      · split at h
        · split at h
          · split at h
            · obtain ⟨_, h⟩ := h.out
              obtain ⟨_, h⟩ := h.out
              obtain ⟨_, h⟩ := h.out
              obtain ⟨_, rfl⟩ := h; have := setid _ _ _ hj; exact .inl (by omega)
            · obtain ⟨_, h⟩ := h.out
              obtain ⟨_, h⟩ := h.out
              obtain ⟨_, h⟩ := h.out
              rcases h with ⟨_, rfl⟩ | ⟨es, _, rfl⟩
              · have := setid _ _ _ hj; exact .inl (by omega)
              · have := setid _ _ _ hj; exact .inl (by omega)
          · exact h.elim
        · exact h.elim
      · exact h.elim
    · exact h.elim
  case store t a x =>
    split at h
    · split at h
      · split at h
        · split at h
          · rename_i hck _ _
            split at h
            · obtain ⟨_, rfl⟩ := h; have := setid _ _ _ hj; subst this; exact .inr ⟨hck, rfl⟩
            · exact h.elim
          · exact h.elim
        · split at h
          · rename_i hck _ _
            obtain ⟨p, _, h⟩ := h.out
            split at h
            · obtain ⟨_, rfl⟩ := h; have := setid _ _ _ hj; subst this; exact .inr ⟨hck, rfl⟩
            · exact h.elim
          · rename_i hck _
            obtain ⟨p, _, h⟩ := h.out
            unfold stD at h
            split at h
            · split at h
              · obtain ⟨_, rfl⟩ := h; have := setid _ _ _ hj; subst this; exact .inr ⟨hck, rfl⟩
              · exact h.elim
            · split at h
              · obtain ⟨_, rfl⟩ := h; have := setid _ _ _ hj; subst this; exact .inr ⟨hck, rfl⟩
              · exact h.elim
          · exact h.elim
        · exact h.elim
      · exact h.elim
    · exact h.elim
  case call c =>
    split at h
    · rename_i f hcal
      exact callk (by simp [freeOp, hcal]) h
    · rename_i t hcal
      split at h
      · exact callk (by simp [freeOp, hcal]) h
      · exact callk (by simp [freeOp, hcal]) h
      · exact h.elim
    · rename_i hcal
      have hmo : wrOp ck (.call c) = true := by simp [wrOp, modOp, hcal]
      split at h
      · split at h
        · unfold appE at h
          split at h
          · exact h.elim
          · split at h
            · split at h
              · obtain ⟨v2, e2, hh, hk⟩ := src_ex2 (F := fun ys n k => Nd (n * _ ≤ 140737488355328) (k (.own id n) (Eff.set id (.arr _ _ ys)))) (fun ys n => Nd_ex2 (F := fun k => k _ _) now2) h
                obtain ⟨_, rfl⟩ := hk
                have : ∃ ob, e2 = Eff.set id ob := by
                  unfold srcE at hh
                  split at hh
                  · exact ⟨_, hh.out.2.2.symm⟩
                  · split at hh
                    · exact ⟨_, hh.out.2.2.symm⟩
                    · exact hh.elim
                  · split at hh
                    · split at hh
                      · exact ⟨_, hh.out.2.2.symm⟩
                      · exact hh.elim
                    · exact hh.elim
                  · exact hh.elim
                obtain ⟨ob, rfl⟩ := this
                have := setid _ _ _ hj; exact .inl (by omega)
              · rename_i i len hes
                split at h
                · rename_i e sz xs hck hm
                  split at h
                  · obtain ⟨v2, e2, hh, hk⟩ := src_ex2 (F := fun ys n k => Nd ((len + n) * _ ≤ 140737488355328) (k (.own id (len + n)) (Eff.app i id (.arr e sz (xs ++ ys))))) (fun ys n => Nd_ex2 (F := fun k => k _ _) now2) h
                    obtain ⟨_, rfl⟩ := hk
                    have : ∃ ob, e2 = Eff.app i id ob := by
                      unfold srcE at hh
                      split at hh
                      · exact ⟨_, hh.out.2.2.symm⟩
                      · split at hh
                        · exact ⟨_, hh.out.2.2.symm⟩
                        · exact hh.elim
                      · split at hh
                        · split at hh
                          · exact ⟨_, hh.out.2.2.symm⟩
                          · exact hh.elim
                        · exact hh.elim
                      · exact hh.elim
                    obtain ⟨ob, rfl⟩ := this
                    rw [Eff.app_eq] at hj
                    by_cases c1 : j = id
                    · exact .inl (by omega)
                    · rw [if_neg c1] at hj
                      by_cases c2 : j = i
                      · subst c2; exact .inr ⟨hck, hmo⟩
                      · rw [if_neg c2] at hj; exact absurd rfl hj
                  · exact h.elim
                · rename_i hck hm
                  unfold appD at h
                  split at h
                  · split at h
                    · split at h
                      · obtain ⟨_, _, rfl⟩ := h.out
                        rw [Eff.app_eq] at hj
                        by_cases c1 : j = id
                        · exact .inl (by omega)
                        · rw [if_neg c1] at hj
                          by_cases c2 : j = i
                          · subst c2; exact .inr ⟨hck, hmo⟩
                          · rw [if_neg c2] at hj; exact absurd rfl hj
                      · exact h.elim
                    · exact h.elim
                  · exact h.elim
                · exact h.elim
              · exact h.elim
            · exact h.elim
        · exact h.elim
      · exact h.elim
    · exact (no h).elim
end
end Go.Aw

set_option linter.unusedVariables false
namespace Go.Aw
section
variable {P : Program} {G : Nat → Option Obj} {T : TypeId → Option TI} {w0 : World} {X A0 : Nat → Prop} {N : Nat} {Q : Exit → Act → World → Prop} {ops : Array Oper}

/-- a guarded step, as a relation -/
def GR (P : Program) (G : Nat → Option Obj) (T : TypeId → Option TI) (ck : Nat → Bool) (base i : Nat) (ops : Array Oper) (o : Oper) (σ : St) (v : V) (e : Eff) : Prop :=
  (stepE P G T ck (sid base i) o.op σ.ev σ.mem (Is v e) ∧ (o.guard = none ∨ ∃ j want t, o.guard = some (j, want) ∧ (ops[j]?).bind (·.dst) = some t ∧ σ.env t = .bool want)) ∨
  (v = .tup [] ∧ e = Eff.no ∧ ∃ j want t, o.guard = some (j, want) ∧ (ops[j]?).bind (·.dst) = some t ∧ (σ.env t = .bool (!want) ∨ σ.env t = .tup []))
def St.upd (σ : St) (d : Option Tmp) (v : V) (e : Eff) : St := (σ.put d v).eff e
theorem GR_of {ck : Nat → Bool} {base i : Nat} {o : Oper} {K : St → Prop} {σ : St} (h : stepG P G T ck base i ops o K σ) : ∃ v e, GR P G T ck base i ops o σ v e ∧ K (σ.upd o.dst v e) := by
  rcases stepG_ex h with ⟨v, e, h1, h2, h3⟩ | ⟨h1, h2⟩
  · exact ⟨v, e, .inl ⟨h1, h3⟩, h2⟩
  · exact ⟨_, _, .inr ⟨rfl, rfl, h2⟩, h1⟩
theorem GR_run {ck : Nat → Bool} {bd : Nat → Prop} {base i : Nat} {o : Oper} {σ : St} {a : Act} {w : World} {A : Nat → Prop} {μ : Nat → Option Loc} {v : V} {e : Eff} (hT : TOk P T) (hG : GX G w0 X A0) (h : Ok w0 X A0 N bd σ a w A μ) (hid : ∀ m, m < 8 → μ (sid base i + m) = none) (ho : ops[i]? = some o)
    (hd : ∀ n, o.dst = some n → n < N) (hs : GR P G T ck base i ops o σ v e) : wpOp P ops Q i (Next w0 X A0 N (fun j => bd j ∨ (sid base i ≤ j ∧ j < sid base i + 8)) (σ.upd o.dst v e) o.dst.toList a w A μ) a w := by
  unfold wpOp
  rw [ho]
  simp only
  rcases hs with ⟨h1, h3⟩ | ⟨rfl, rfl, j, want, t, h2, h3, h4⟩
  · have hw : Region.wanted o (Go.yielded ops a.tmps) = true := by
      unfold Region.wanted
      rcases h3 with hg | ⟨j, want, t, hg, ht, hb⟩
      · rw [hg]
      · rw [hg]; simp only; rw [h.yld ht hb]; simp
    rw [if_pos hw]
    exact .inl (stepE_run hT hG h hid hd h1)
  · have hw : Region.wanted o (Go.yielded ops a.tmps) = false := by
      unfold Region.wanted
      rw [h2]; simp only
      rcases h4 with hb | hb
      · rw [h.yld h3 hb]; cases want <;> rfl
      · rw [h.yld0 h3 hb]; rfl
    rw [if_neg (by rw [hw]; simp)]
    obtain ⟨g1, g2⟩ := h.val (d := o.dst) (v := .tup []) (cv := undef) (.tup [] #[] rfl (fun i x c h => by simp at h)) hd
    exact ⟨A, μ, g1.bdm (fun _ h => .inl h), g2⟩

theorem upd_ev {σ : St} {d : Option Tmp} {v : V} {e : Eff} {x : Operand} (h : ∀ n, d = some n → x ≠ .tmp n) : (σ.upd d v e).ev x = σ.ev x := by
  cases x with
  | tmp t =>
    show ((σ.put d v).env t) = σ.env t
    rw [put_env, if_neg (fun hd => h t hd rfl)]
  | _ => rfl
theorem upd_env {σ : St} {d : Option Tmp} {v : V} {e : Eff} {t : Tmp} (h : d ≠ some t) : (σ.upd d v e).env t = σ.env t := by
  show ((σ.put d v).env t) = σ.env t
  rw [put_env, if_neg h]
theorem upd_mem {σ : St} {d : Option Tmp} {v : V} {e : Eff} {j : Nat} (h : e j = none) : (σ.upd d v e).mem j = σ.mem j := by
  show (match e j with | some x => x | none => (σ.put d v).mem j) = σ.mem j
  rw [h, put_mem]

/-- a step looks at its operands, its guard and the objects it may look at -/
theorem GR_congr {ck : Nat → Bool} {base i : Nat} {o : Oper} {σ σ' : St} {v : V} {e : Eff} (hl : ∀ t ∈ o.looksAt ops, σ.env t = σ'.env t) (hm : freeOp o.op = true ∨ ∀ j, ck j = true → σ.mem j = σ'.mem j) (h : GR P G T ck base i ops o σ v e) : GR P G T ck base i ops o σ' v e := by
  have he : ∀ x ∈ o.op.operands.toList, σ.ev x = σ'.ev x := fun x hx => by
    cases x with
    | tmp t => exact hl t (List.mem_append_left _ (List.mem_filterMap.2 ⟨.tmp t, hx, rfl⟩))
    | _ => rfl
  have hg : ∀ j want t, o.guard = some (j, want) → (ops[j]?).bind (·.dst) = some t → σ.env t = σ'.env t := fun j want t hg ht => by
    refine hl t (List.mem_append_right _ ?_)
    rw [hg]; simp only; rw [ht]; simp
  rcases h with ⟨h1, h2⟩ | ⟨h1, h2, j, want, t, h3, h4, h5⟩
  · refine .inl ⟨stepE_congr he hm h1, ?_⟩
    rcases h2 with h2 | ⟨j, want, t, h3, h4, h5⟩
    · exact .inl h2
    · exact .inr ⟨j, want, t, h3, h4, (hg j want t h3 h4) ▸ h5⟩
  · exact .inr ⟨h1, h2, j, want, t, h3, h4, (hg j want t h3 h4) ▸ h5⟩
theorem GR_supp {ck : Nat → Bool} {base i : Nat} {o : Oper} {σ : St} {v : V} {e : Eff} (h : GR P G T ck base i ops o σ v e) : ∀ j, e j ≠ none → (sid base i ≤ j ∧ j < sid base i + 8) ∨ (ck j = true ∧ wrOp ck o.op = true) := by
  rcases h with ⟨h1, _⟩ | ⟨_, h2, _⟩
  · exact stepE_supp h1
  · intro j hj; rw [h2] at hj; exact absurd rfl hj

theorem free_mod {o : Op} (h : freeOp o = true) : modOp o = false := by
  cases o <;> first | rfl | cases h | skip
  rename_i c
  cases hc : c.callee with
  | value f => simp [freeOp, hc] at h
  | invoke r n => simp [freeOp, hc] at h
  | builtin b => cases b <;> simp_all [freeOp, modOp]

theorem swap {ckx cky : Nat → Bool} {base ix iy : Nat} {x y : Oper} {σ : St} {vx vy : V} {ex ey : Eff} (hxy : x.apart ops y = true) (hyx : y.apart ops x = true) (cls : (freeOp x.op = true ∨ freeOp y.op = true) ∨ (wrOp ckx x.op = false ∧ wrOp cky y.op = false) ∨ (∀ j, ckx j = true → cky j = true → False)) (hne : ix ≠ iy)
    (hcx : ∀ j, sid base iy ≤ j → j < sid base iy + 8 → ckx j = false) (hcy : ∀ j, sid base ix ≤ j → j < sid base ix + 8 → cky j = false)
    (h1 : GR P G T ckx base ix ops x σ vx ex) (h2 : GR P G T cky base iy ops y (σ.upd x.dst vx ex) vy ey) :
    GR P G T cky base iy ops y σ vy ey ∧ GR P G T ckx base ix ops x (σ.upd y.dst vy ey) vx ex ∧ (σ.upd x.dst vx ex).upd y.dst vy ey = (σ.upd y.dst vy ey).upd x.dst vx ex := by
  obtain ⟨a1, a2, a3⟩ := Oper.apart_spec hxy
  obtain ⟨b1, b2, b3⟩ := Oper.apart_spec hyx
  have sx := GR_supp h1
  have sy := GR_supp h2
  have g1 : GR P G T cky base iy ops y σ vy ey := by
    refine GR_congr (fun t ht => upd_env (fun hd => a1 t hd ht)) ?_ h2
    by_cases hf : freeOp y.op = true
    · exact .inl hf
    · refine .inr (fun j hj => upd_mem ?_)
      cases he : ex j with
      | none => rfl
      | some q =>
        rcases sx j (by rw [he]; simp) with ⟨q1, q2⟩ | ⟨q1, q2⟩
        · rw [hcy j q1 q2] at hj; cases hj
        · rcases cls with (h | h) | h | h
          · rw [free_wr h] at q2; cases q2
          · exact absurd h hf
          · rw [h.1] at q2; cases q2
          · exact (h j q1 hj).elim
  refine ⟨g1, ?_, ?_⟩
  · refine GR_congr (fun t ht => (upd_env (fun hd => b1 t hd ht)).symm) ?_ h1
    by_cases hf : freeOp x.op = true
    · exact .inl hf
    · refine .inr (fun j hj => (upd_mem ?_).symm)
      cases he : ey j with
      | none => rfl
      | some q =>
        rcases sy j (by rw [he]; simp) with ⟨q1, q2⟩ | ⟨q1, q2⟩
        · rw [hcx j q1 q2] at hj; cases hj
        · rcases cls with (h | h) | h | h
          · exact absurd h hf
          · rw [free_wr h] at q2; cases q2
          · rw [h.2] at q2; cases q2
          · exact (h j hj q1).elim
  · have hdis : ∀ j, ex j = none ∨ ey j = none := fun j => by
      cases he1 : ex j with
      | none => exact .inl rfl
      | some q1 =>
        cases he2 : ey j with
        | none => exact .inr rfl
        | some q2 =>
          exfalso
          rcases sx j (by rw [he1]; simp) with ⟨p1, p2⟩ | ⟨p1, p2⟩ <;> rcases sy j (by rw [he2]; simp) with ⟨r1, r2⟩ | ⟨r1, r2⟩
          · simp only [sid] at p1 p2 r1 r2; omega
          · rw [hcy j p1 p2] at r1; cases r1
          · rw [hcx j r1 r2] at p1; cases p1
          · rcases cls with (h | h) | h | h
            · rw [free_wr h] at p2; cases p2
            · rw [free_wr h] at r2; cases r2
            · rw [h.1] at p2; cases p2
            · exact h j p1 r1
    have henv : ((σ.upd x.dst vx ex).upd y.dst vy ey).env = ((σ.upd y.dst vy ey).upd x.dst vx ex).env := by
      funext t
      show ((σ.upd x.dst vx ex).put y.dst vy).env t = ((σ.upd y.dst vy ey).put x.dst vx).env t
      rw [put_env, put_env]
      show (if y.dst = some t then vy else (σ.put x.dst vx).env t) = (if x.dst = some t then vx else (σ.put y.dst vy).env t)
      rw [put_env, put_env]
      by_cases c1 : y.dst = some t
      · have : ¬ x.dst = some t := fun hx => a2 t hx c1
        rw [if_pos c1, if_neg this, if_pos c1]
      · by_cases c2 : x.dst = some t
        · rw [if_neg c1, if_pos c2, if_pos c2]
        · rw [if_neg c1, if_neg c2, if_neg c2, if_neg c1]
    have hmem : ((σ.upd x.dst vx ex).upd y.dst vy ey).mem = ((σ.upd y.dst vy ey).upd x.dst vx ex).mem := by
      funext j
      show (match ey j with | some q => q | none => ((σ.upd x.dst vx ex).put y.dst vy).mem j) = (match ex j with | some q => q | none => ((σ.upd y.dst vy ey).put x.dst vx).mem j)
      rw [put_mem, put_mem]
      show (match ey j with | some q => q | none => (match ex j with | some q => q | none => (σ.put x.dst vx).mem j)) = (match ex j with | some q => q | none => (match ey j with | some q => q | none => (σ.put y.dst vy).mem j))
      rw [put_mem, put_mem]
      rcases hdis j with h | h <;> rw [h]
    have hn : ∀ (σ : St) d v e, (σ.upd d v e).next = σ.next ∧ (σ.upd d v e).ids = σ.ids := fun σ d v e => by cases d <;> exact ⟨rfl, rfl⟩
    cases hA : (σ.upd x.dst vx ex).upd y.dst vy ey
    cases hB : (σ.upd y.dst vy ey).upd x.dst vx ex
    have n1 := hn (σ.upd x.dst vx ex) y.dst vy ey
    have n2 := hn (σ.upd y.dst vy ey) x.dst vx ex
    rw [(hn σ _ _ _).1, (hn σ _ _ _).2] at n1 n2
    rw [hA] at henv hmem n1; rw [hB] at henv hmem n2
    simp only at henv hmem n1 n2
    simp only [St.mk.injEq]
    exact ⟨henv, hmem, n1.1.trans n2.1.symm, n1.2.trans n2.2.symm⟩
end
end Go.Aw

set_option linter.unusedVariables false
namespace Go.Aw
section
variable {P : Program} {G : Nat → Option Obj} {T : TypeId → Option TI} {w0 : World} {X A0 : Nat → Prop} {N : Nat} {Q : Exit → Act → World → Prop} {ops : Array Oper}

inductive Chain (P : Program) (G : Nat → Option Obj) (T : TypeId → Option TI) (ck : Nat → Nat → Bool) (base : Nat) (ops : Array Oper) : List Nat → St → St → Prop
  | nil (σ : St) : Chain P G T ck base ops [] σ σ
  | cons {i : Nat} {l : List Nat} {σ τ : St} {o : Oper} {v : V} {e : Eff} (ho : ops[i]? = some o) (h : GR P G T (ck i) base i ops o σ v e) (t : Chain P G T ck base ops l (σ.upd o.dst v e) τ) : Chain P G T ck base ops (i :: l) σ τ

theorem chain_of {ck : Nat → Nat → Bool} {base : Nat} {K : St → Prop} : ∀ (k i : Nat) (σ : St), i + k = ops.size → rgo P G T ck base ops i (ops.toList.drop i) K σ → ∃ τ, Chain P G T ck base ops (List.range' i k) σ τ ∧ K τ
  | 0, i, σ, hk, h => by
    have hd : ops.toList.drop i = [] := List.drop_eq_nil_of_le (by simp; omega)
    rw [hd] at h
    exact ⟨σ, .nil σ, h⟩
  | k + 1, i, σ, hk, h => by
    have hlt : i < ops.size := by omega
    have ho : ops[i]? = some ops[i] := Array.getElem?_eq_getElem hlt
    have hd : ops.toList.drop i = ops[i] :: ops.toList.drop (i + 1) := by
      rw [List.drop_eq_getElem_cons (by simpa using hlt)]; rfl
    rw [hd] at h
    obtain ⟨v, e, h1, h2⟩ := GR_of h
    obtain ⟨τ, h3, h4⟩ := chain_of k (i + 1) _ (by omega) h2
    rw [List.range'_succ]
    exact ⟨τ, .cons ho h1 h3, h4⟩

/-- two operations that need not come one before the other may be told either way round -/
structure Indep (ck : Nat → Nat → Bool) (base : Nat) (ops : Array Oper) (k i : Nat) : Prop where
  ne : k ≠ i
  ap : ∀ x y, ops[k]? = some x → ops[i]? = some y → x.apart ops y = true ∧ y.apart ops x = true ∧ ((freeOp x.op = true ∨ freeOp y.op = true) ∨ (wrOp (ck k) x.op = false ∧ wrOp (ck i) y.op = false) ∨ (∀ j, ck k j = true → ck i j = true → False))
  cx : ∀ j, sid base i ≤ j → j < sid base i + 8 → ck k j = false
  cy : ∀ j, sid base k ≤ j → j < sid base k + 8 → ck i j = false

theorem pull {ck : Nat → Nat → Bool} {base i : Nat} {o : Oper} (ho : ops[i]? = some o) : ∀ (pre post : List Nat) (σ τ : St), (∀ k ∈ pre, Indep ck base ops k i) → Chain P G T ck base ops (pre ++ i :: post) σ τ →
    ∃ v e, GR P G T (ck i) base i ops o σ v e ∧ Chain P G T ck base ops (pre ++ post) (σ.upd o.dst v e) τ
  | [], post, σ, τ, _, h => by
    cases h with
    | cons ho' h1 t => rw [ho] at ho'; injection ho' with e; subst e; exact ⟨_, _, h1, t⟩
  | k :: pre, post, σ, τ, hi, h => by
    cases h with
    | cons hk h1 t =>
      rename_i x vx ex
      obtain ⟨vy, ey, h2, h3⟩ := pull ho pre post _ τ (fun n hn => hi n (List.mem_cons_of_mem _ hn)) t
      have hd := hi k (List.mem_cons_self ..)
      obtain ⟨p1, p2, p3⟩ := hd.ap x o hk ho
      obtain ⟨q1, q2, q3⟩ := swap p1 p2 p3 hd.ne hd.cx hd.cy h1 h2
      rw [q3] at h3
      exact ⟨vy, ey, q1, .cons hk q2 h3⟩

theorem getD_set (l : Array Bool) (i k : Nat) (d : Bool) (hi : i < l.size) : (l.setIfInBounds i true).getD k d = if k = i then true else l.getD k d := by
  by_cases h : k = i
  · subst h; simp [hi]
  · rw [if_neg h]
    simp [Array.getElem?_setIfInBounds, Ne.symm h]
theorem getD_bool (l : Array Bool) (k : Nat) (hk : k < l.size) (d d' : Bool) : l.getD k d = l.getD k d' := by simp [hk]

/-- a region that draws its order -/
theorem chain_any {base : Nat} {ck : Nat → Nat → Bool} {K : St → Prop} {hv : List Tmp} (hT : TOk P T) (hG : GX G w0 X A0) (hdst : ∀ (i : Nat) (o : Oper), ops[i]? = some o → ∀ n, o.dst = some n → n < N ∧ n ∈ hv)
    (hind : ∀ (listed : Array Bool) (i k : Nat), listed.size = ops.size → (∀ j oj, ops[j]? = some oj → listed.getD j false = true → ∀ e ∈ oj.after, Region.binds .any e = true → listed.getD e.on false = true) → i ∈ Region.ready .any ops listed → k < i → listed.getD k true = false → Indep ck base ops k i)
    (hlow : ∀ (i : Nat) (o : Oper), ops[i]? = some o → ∀ e ∈ o.after, Region.binds .any e = true → e.on < i) :
    ∀ (fuel : Nat) (rem : List Nat) (listed : Array Bool) (σ τ : St) (a : Act) (w : World) (A : Nat → Prop) (μ : Nat → Option Loc), rem.length = fuel → listed.size = ops.size → rem = (List.range ops.size).filter (fun i => !listed.getD i true) →
      (∀ j oj, ops[j]? = some oj → listed.getD j false = true → ∀ e ∈ oj.after, Region.binds .any e = true → listed.getD e.on false = true) →
      Ok w0 X A0 N (fun j => j < base ∨ ∃ m, m < ops.size ∧ listed.getD m false = true ∧ sid base m ≤ j ∧ j < sid base m + 8) σ a w A μ → Chain P G T ck base ops rem σ τ → K τ →
      wpAny P .any ops (fun e a' w' => e = .normal ∧ ∃ σ', K σ' ∧ Next w0 X A0 N (fun j => j < base + 8 * ops.size) σ' hv a w A μ a' w') fuel listed a w
  | 0, rem, listed, σ, τ, a, w, A, μ, hlen, hsz, hrem, hcl, h, hch, hK => by
    have h0 : rem = [] := List.eq_nil_of_length_eq_zero hlen
    subst h0
    cases hch
    refine ⟨?_, rfl, σ, hK, A, μ, h.bdm (fun j hj => ?_), Ext.refl _ _ _ _ _⟩
    · refine List.eq_nil_iff_forall_not_mem.2 fun i hi => ?_
      obtain ⟨h1, o, h2, _⟩ := mem_ready.1 hi
      have : i ∈ (List.range ops.size).filter (fun i => !listed.getD i true) := List.mem_filter.2 ⟨List.mem_range.2 (Array.getElem?_eq_some_iff.1 h2).1, by rw [h1]; rfl⟩
      rw [← hrem] at this; cases this
    · rcases hj with hj | ⟨m, hm, _, h1, h2⟩
      · omega
      · simp only [sid] at h1 h2; omega
  | fuel + 1, rem, listed, σ, τ, a, w, A, μ, hlen, hsz, hrem, hcl, h, hch, hK => by
    refine ⟨fun hr => ?_, fun i hi => ?_⟩
    · -- the least that has not come up may come up
      exfalso
      have key : ∀ n i, i ≤ n → i < ops.size → listed.getD i true = false → False := fun n => by
        induction n with
        | zero =>
          intro i hle hlt hun
          have hi0 : i = 0 := by omega
          subst hi0
          have ho : ops[0]? = some ops[0] := Array.getElem?_eq_getElem hlt
          have : 0 ∈ Region.ready .any ops listed := mem_ready.2 ⟨hun, _, ho, fun e he hb => absurd (hlow 0 _ ho e he hb) (by omega)⟩
          rw [hr] at this; cases this
        | succ n ih =>
          intro i hle hlt hun
          have ho : ops[i]? = some ops[i] := Array.getElem?_eq_getElem hlt
          by_cases hall : ∀ e ∈ ops[i].after, Region.binds .any e = true → listed.getD e.on false = true
          · have : i ∈ Region.ready .any ops listed := mem_ready.2 ⟨hun, _, ho, hall⟩
            rw [hr] at this; cases this
          · simp only [Classical.not_forall] at hall
            obtain ⟨e, he, hb, hl⟩ := hall
            have hlt2 := hlow i _ ho e he hb
            refine ih e.on (by omega) (by omega) ?_
            rw [getD_bool listed e.on (by omega) true false]
            simpa using hl
      cases hrl : rem with
      | nil => rw [hrl] at hlen; simp at hlen
      | cons i l =>
        have : i ∈ rem := by rw [hrl]; exact List.mem_cons_self ..
        rw [hrem] at this
        obtain ⟨h1, h2⟩ := List.mem_filter.1 this
        exact key i i (Nat.le_refl _) (List.mem_range.1 h1) (by simpa using h2)
    · obtain ⟨hun, o, ho, hall⟩ := mem_ready.1 hi
      have hlt : i < ops.size := (Array.getElem?_eq_some_iff.1 ho).1
      have hmem : i ∈ rem := by rw [hrem]; exact List.mem_filter.2 ⟨List.mem_range.2 hlt, by rw [hun]; rfl⟩
      obtain ⟨pre, post, hsplit⟩ := List.append_of_mem hmem
      have hpw : rem.Pairwise (· < ·) := by rw [hrem]; exact List.Pairwise.filter _ List.pairwise_lt_range
      rw [hsplit] at hpw hch
      have hpre : ∀ k ∈ pre, k < i := fun k hk => (List.pairwise_append.1 hpw).2.2 k hk i (List.mem_cons_self ..)
      have hpost : ∀ k ∈ post, i < k := fun k hk => (List.pairwise_cons.1 (List.pairwise_append.1 hpw).2.1).1 k hk
      have hunk : ∀ k ∈ pre, listed.getD k true = false := fun k hk => by
        have : k ∈ rem := by rw [hsplit]; exact List.mem_append_left _ hk
        rw [hrem] at this
        simpa using (List.mem_filter.1 this).2
      obtain ⟨v, e, g1, g2⟩ := pull ho pre post σ τ (fun k hk => hind listed i k hsz hcl hi (hpre k hk) (hunk k hk)) hch
      have hid : ∀ m, m < 8 → μ (sid base i + m) = none := fun m hm => by
        cases hc : μ (sid base i + m) with
        | none => rfl
        | some l =>
          rcases h.bd (sid base i + m) (by rw [hc]; simp) with h1 | ⟨m', _, h2, h3, h4⟩
          · simp only [sid] at h1; omega
          · simp only [sid] at h3 h4
            have : m' = i := by omega
            subst this
            rw [getD_bool listed m' (by omega) false true, hun] at h2; cases h2
      refine wpOp_mono (fun a' w' ⟨A', μ', h', hx⟩ => ?_) (GR_run hT hG h hid ho (fun n hn => (hdst i o ho n hn).1) g1)
      have hx' : Ext hv a w A μ a' w' A' μ' := hx.mono (fun t ht => by
        cases hdd : o.dst with
        | none => rw [hdd] at ht; simp at ht
        | some n => rw [hdd] at ht; simp at ht; subst ht; exact (hdst i _ ho t hdd).2)
      have hgs := fun k d => getD_set listed i k d (by omega)
      have hrem' : pre ++ post = (List.range ops.size).filter (fun k => !(listed.setIfInBounds i true).getD k true) := by
        have e1 : (fun k => !(listed.setIfInBounds i true).getD k true) = fun k => (!listed.getD k true) && (k != i) := by
          funext k
          rw [hgs]
          by_cases hk : k = i
          · subst hk; simp
          · rw [if_neg hk]; simp [hk]
        have e2 : (List.range ops.size).filter (fun k => (!listed.getD k true) && (k != i)) = ((List.range ops.size).filter (fun k => !listed.getD k true)).filter (fun k => k != i) := by
          rw [List.filter_filter]
          congr 1; funext k; exact Bool.and_comm _ _
        rw [e1, e2, ← hrem, hsplit, List.filter_append, List.filter_cons]
        rw [if_neg (by simp)]
        rw [List.filter_eq_self.2 (fun k hk => by have := hpre k hk; simp; omega), List.filter_eq_self.2 (fun k hk => by have := hpost k hk; simp; omega)]
      have hih := chain_any hT hG hdst hind hlow fuel (pre ++ post) (listed.setIfInBounds i true) _ τ a' w' A' μ' (by rw [hsplit] at hlen; simp at hlen ⊢; omega) (by simpa using hsz) hrem' (fun j oj hj hl e he hb => by
          rw [hgs] at hl ⊢
          by_cases c1 : e.on = i
          · rw [if_pos c1]
          · rw [if_neg c1]
            by_cases c2 : j = i
            · subst c2
              rw [ho] at hj; injection hj with hj; subst hj
              exact hall e he hb
            · rw [if_neg c2] at hl
              exact hcl j oj hj hl e he hb) (h'.bdm (fun j hj => by
          rcases hj with (hj | ⟨m, m1, m2, m3⟩) | hj
          · exact .inl hj
          · exact .inr ⟨m, m1, by rw [hgs]; split <;> first | rfl | exact m2, m3⟩
          · exact .inr ⟨i, hlt, by rw [hgs, if_pos rfl], hj⟩)) g2 hK
      have mono : ∀ (Q1 Q2 : Exit → Act → World → Prop), (∀ e a w, Q1 e a w → Q2 e a w) → ∀ fuel l a w, wpAny P .any ops Q1 fuel l a w → wpAny P .any ops Q2 fuel l a w := fun Q1 Q2 hq fuel => by
        induction fuel with
        | zero => exact fun l a w ⟨h1, h2⟩ => ⟨h1, hq _ _ _ h2⟩
        | succ n ih =>
          intro l a w ⟨h1, h2⟩
          refine ⟨fun h => hq _ _ _ (h1 h), fun i hi => ?_⟩
          have := h2 i hi
          unfold wpOp at this ⊢
          cases ho : ops[i]? with
          | none => rw [ho] at this; exact ih _ _ _ this
          | some o =>
            rw [ho] at this
            simp only at this ⊢
            by_cases hw : Region.wanted o (Go.yielded ops a.tmps) = true
            · rw [if_pos hw] at this ⊢
              rcases this with hh | ⟨h1, a0, w0, h2⟩
              · left
                unfold Oper.wp at *
                generalize (execOp a.eval o).run P w = r at *
                cases r with
                | ok n w' =>
                  cases n <;> simp only [Oper.upon] at hh ⊢ <;> first
                    | exact ih _ _ _ hh
                    | exact Calls.mono hh (fun e w'' he => by
                        cases e with
                        | returned v => exact ih _ _ _ he
                        | panicked c => exact hq _ _ _ he
                        | outgrown => obtain ⟨a0, w0, h0⟩ := he; exact ⟨a0, w0, hq _ _ _ h0⟩)
                    | exact Rows.mono hh (fun _ _ he => ih _ _ _ he)
                    | exact hh
                | halt x w' => cases x <;> simp only [Oper.upon] at hh ⊢ <;> first | exact hq _ _ _ hh | exact hh
              · exact .inr ⟨h1, a0, w0, hq _ _ _ h2⟩
            · rw [if_neg hw] at this ⊢
              exact ih _ _ _ this
      exact mono _ _ (fun e a2 w2 ⟨he, σ2, hk2, A2, μ2, h3, hx2⟩ => ⟨he, σ2, hk2, A2, μ2, h3, hx'.trans' hx2⟩) _ _ _ _ hih
end
end Go.Aw

set_option linter.unusedVariables false
namespace Go.Aw
section
variable {P : Program} {G : Nat → Option Obj} {T : TypeId → Option TI} {w0 : World} {X A0 : Nat → Prop} {N : Nat} {Q : Exit → Act → World → Prop} {ops : Array Oper}

/-- what is asked of a region that draws its order -/
def drawOk (ops : Array Oper) : Bool :=
  let b := befs ops.toList []
  (List.range ops.size).all fun i => match ops[i]? with
    | none => false
    | some y => y.after.toList.all (fun e => !Region.binds .any e || Nat.blt e.on i) &&
      (List.range i).all fun k => (b.getD i 0).testBit k || (match ops[k]? with
        | none => false
        | some x => x.apart ops y && y.apart ops x && (clsOk x.op y.op || appV x.op || appV y.op) && !(b.getD k 0).testBit i)
def regOk (N : Nat) (ops : Array Oper) (draw : Bool) : Bool :=
  ops.toList.all (fun o => match o.dst with | some d => Nat.blt d N | none => true) && (!draw || drawOk ops)
def codeOk (N : Nat) : Code → Bool
  | .region _ ops draw => regOk N ops draw
  | .seq a b => codeOk N a && codeOk N b
  | .cond _ a b => codeOk N a && codeOk N b
  | .block _ c => codeOk N c
  | .loop c => codeOk N c
  | _ => true

theorem bits_spec (acc : List Nat) (o : Oper) (k : Nat) (h : (bits acc o).testBit k = true) : ∃ e ∈ o.after, Region.binds .any e = true ∧ (e.on = k ∨ (acc.getD e.on 0).testBit k = true) := by
  unfold bits at h
  have key : ∀ (l : List Edge) (s : Nat), (l.foldl (fun s e => match Region.binds .any e with | true => s ||| 2 ^ e.on ||| acc.getD e.on 0 | false => s) s).testBit k = true →
      s.testBit k = true ∨ ∃ e ∈ l, Region.binds .any e = true ∧ (e.on = k ∨ (acc.getD e.on 0).testBit k = true) := fun l => by
    induction l with
    | nil => exact fun s h => .inl h
    | cons e l ih =>
      intro s h
      rw [List.foldl_cons] at h
      rcases ih _ h with h | ⟨e', h1, h2⟩
      · cases hb : Region.binds .any e with
        | false => rw [hb] at h; exact .inl h
        | true =>
          rw [hb] at h
          simp only [Nat.testBit_or, Bool.or_eq_true, Nat.testBit_two_pow, decide_eq_true_eq] at h
          rcases h with (h | h) | h
          · exact .inl h
          · exact .inr ⟨e, List.mem_cons_self .., hb, .inl h⟩
          · exact .inr ⟨e, List.mem_cons_self .., hb, .inr h⟩
      · exact .inr ⟨e', List.mem_cons_of_mem _ h1, h2⟩
  rcases key _ _ h with h | ⟨e, h1, h2⟩
  · simp at h
  · exact ⟨e, by simpa using h1, h2⟩
theorem befs_len : ∀ (os : List Oper) (acc : List Nat), (befs os acc).length = acc.length + os.length
  | [], acc => rfl
  | o :: os, acc => by rw [befs, befs_len os]; simp; omega
theorem befs_pre : ∀ (os : List Oper) (acc : List Nat) (i : Nat), i < acc.length → (befs os acc)[i]? = acc[i]?
  | [], acc, i, h => rfl
  | o :: os, acc, i, h => by rw [befs, befs_pre os _ i (by simp; omega), List.getElem?_append_left h]
theorem befs_get : ∀ (os : List Oper) (acc : List Nat) (i : Nat) (o : Oper), os[i]? = some o → (befs os acc)[acc.length + i]? = some (bits ((befs os acc).take (acc.length + i)) o)
  | [], acc, i, o, h => by simp at h
  | p :: os, acc, 0, o, h => by
    simp at h; subst h
    rw [Nat.add_zero, befs, befs_pre os _ _ (by simp)]
    have e : (befs os (acc ++ [bits acc p])).take acc.length = acc := by
      apply List.ext_getElem?
      intro k
      rw [List.getElem?_take]
      by_cases hk : k < acc.length
      · rw [if_pos hk, befs_pre os _ _ (by simp; omega), List.getElem?_append_left hk]
      · rw [if_neg hk, List.getElem?_eq_none (by omega)]
    rw [e, List.getElem?_append_right (Nat.le_refl _)]; simp
  | p :: os, acc, i + 1, o, h => by
    have := befs_get os (acc ++ [bits acc p]) i o (by simpa using h)
    rw [befs]
    simp only [List.length_append, List.length_singleton] at this
    rw [show acc.length + (i + 1) = acc.length + 1 + i by omega]
    exact this
/-- what has come up is closed: what waits for k comes up behind k -/
theorem bef_listed {listed : Array Bool} (hcl : ∀ j oj, ops[j]? = some oj → listed.getD j false = true → ∀ e ∈ oj.after, Region.binds .any e = true → listed.getD e.on false = true) :
    ∀ (n i : Nat) (o : Oper), i ≤ n → ops[i]? = some o → (∀ e ∈ o.after, Region.binds .any e = true → listed.getD e.on false = true) → ∀ k, ((befs ops.toList []).getD i 0).testBit k = true → listed.getD k false = true := fun n => by
  induction n with
  | zero =>
    intro i o hle ho hall k hb
    have hi : i = 0 := by omega
    subst hi
    have hg := befs_get ops.toList [] 0 o (by simpa using ho)
    simp only [List.length_nil, Nat.zero_add] at hg
    rw [List.getD_eq_getElem?_getD, hg] at hb
    obtain ⟨e, he, h1, h2⟩ := bits_spec _ _ _ hb
    rcases h2 with rfl | h2
    · exact hall e he h1
    · simp at h2
  | succ n ih =>
    intro i o hle ho hall k hb
    have hg := befs_get ops.toList [] i o (by simpa using ho)
    simp only [List.length_nil, Nat.zero_add] at hg
    rw [List.getD_eq_getElem?_getD, hg] at hb
    obtain ⟨e, he, h1, h2⟩ := bits_spec _ _ _ hb
    rcases h2 with rfl | h2
    · exact hall e he h1
    · rw [List.getD_eq_getElem?_getD, List.getElem?_take] at h2
      by_cases hlt : e.on < i
      · rw [if_pos hlt] at h2
        have hl := hall e he h1
        have hs : i < ops.size := (Array.getElem?_eq_some_iff.1 ho).1
        have hoe : ops[e.on]? = some ops[e.on] := Array.getElem?_eq_getElem (by omega)
        exact ih e.on _ (by omega) hoe (fun e' he' hb' => hcl e.on _ hoe hl e' he' hb') k (by rw [List.getD_eq_getElem?_getD]; exact h2)
      · rw [if_neg hlt] at h2; simp at h2

theorem drawOk_low (h : drawOk ops = true) : ∀ (i : Nat) (o : Oper), ops[i]? = some o → ∀ e ∈ o.after, Region.binds .any e = true → e.on < i := fun i o ho e he hb => by
  have h1 := List.all_eq_true.1 h i (List.mem_range.2 (Array.getElem?_eq_some_iff.1 ho).1)
  simp only [ho, Bool.and_eq_true] at h1
  have h2 := List.all_eq_true.1 h1.1 e (by simpa using he)
  rw [hb] at h2
  simp at h2
  exact h2
theorem solo_spec {b : List Nat} {i : Nat} : ∀ (fr : List Bool) (k0 : Nat), soloGo b i k0 fr = true → ∀ (k : Nat) (f : Bool), fr[k]? = some f → k0 + k ≠ i → (b.getD i 0).testBit (k0 + k) = false → (b.getD (k0 + k) 0).testBit i = false → f = true
  | [], k0, _, k, f, hk, _, _, _ => by simp at hk
  | g :: l, k0, h, k, f, hk, hne, h1, h2 => by
    simp only [soloGo] at h
    split at h
    · rename_i hb
      cases k with
      | zero =>
        simp at hk; subst hk
        rw [Nat.add_zero] at hne h1 h2
        have hne' : Nat.beq k0 i = false := by
          cases hc : Nat.beq k0 i with
          | false => rfl
          | true => exact absurd (Nat.eq_of_beq_eq_true hc) hne
        rw [h1, h2, hne'] at hb
        simpa using hb
      | succ k =>
        have := solo_spec l (k0 + 1) h k f (by simpa using hk)
        rw [show k0 + 1 + k = k0 + (k + 1) by omega] at this
        exact this hne h1 h2
    · cases h
theorem appV_wr {o : Op} (h : appV o = true) : modOp o = true := by
  cases o <;> first | cases h | skip
  rename_i c
  cases hc : c.callee with
  | value f => simp [appV, hc] at h
  | invoke r n => simp [appV, hc] at h
  | builtin b => cases b <;> simp_all [appV, modOp]
/-- without appends that are out of order, the pairs are as they were -/
theorem cls_of {base : Nat} (h : drawOk ops = true) (hL : lMode ops = false) (i k : Nat) (x y : Oper) (hx : ops[k]? = some x) (hy : ops[i]? = some y) (hk : k < i) (hnb : ((befs ops.toList []).getD i 0).testBit k = false)
    (hc : (clsOk x.op y.op || appV x.op || appV y.op) = true) : clsOk x.op y.op = true := by
  unfold lMode at hL
  cases ha : ops.toList.any fun o => appV o.op with
  | true =>
    rw [ha] at hL
    have hL : clsAll ops = true := by simpa using hL
    have h1 := List.all_eq_true.1 hL i (List.mem_range.2 (Array.getElem?_eq_some_iff.1 hy).1)
    simp only [hy] at h1
    have h2 := List.all_eq_true.1 h1 k (List.mem_range.2 hk)
    rw [hnb, Bool.false_or, hx] at h2
    exact h2
  | false =>
    have no : ∀ (q : Nat) (z : Oper), ops[q]? = some z → appV z.op = false := fun q z hz => by
      cases hq : appV z.op with
      | false => rfl
      | true =>
        have : (ops.toList.any fun o => appV o.op) = true := List.any_eq_true.2 ⟨z, by have := Array.mem_of_getElem? hz; simpa using this, hq⟩
        rw [ha] at this; cases this
    rw [no k x hx, no i y hy] at hc
    simpa using hc
theorem apGo_spec {b : List Nat} {i q : Nat} : ∀ (l : List Bool) (k0 : Nat), apGo b i q k0 l = true → ∀ (k : Nat), l[k]? = some true → k0 + k ≠ i → (b.getD i 0).testBit (k0 + k) = false → (b.getD (k0 + k) 0).testBit i = false → (b.getD (k0 + k) 0).testBit q = false
  | [], k0, _, k, hk, _, _, _ => by simp at hk
  | g :: l, k0, h, k, hk, hne, h1, h2 => by
    simp only [apGo] at h
    split at h
    · rename_i hb
      cases k with
      | zero =>
        simp at hk; subst hk
        rw [Nat.add_zero] at hne h1 h2 ⊢
        have hne' : Nat.beq k0 i = false := by
          cases hc : Nat.beq k0 i with
          | false => rfl
          | true => exact absurd (Nat.eq_of_beq_eq_true hc) hne
        rw [h1, h2, hne'] at hb
        simpa using hb
      | succ k =>
        have := apGo_spec l (k0 + 1) h k (by simpa using hk)
        rw [show k0 + 1 + k = k0 + (k + 1) by omega] at this
        exact this hne h1 h2
    · cases h
theorem drawOk_indL {base : Nat} (h : drawOk ops = true) (listed : Array Bool) (i k : Nat) (hsz : listed.size = ops.size)
    (hcl : ∀ j oj, ops[j]? = some oj → listed.getD j false = true → ∀ e ∈ oj.after, Region.binds .any e = true → listed.getD e.on false = true) (hi : i ∈ Region.ready .any ops listed) (hk : k < i) (hun : listed.getD k true = false) :
    Indep (ckL (befs ops.toList []) (ops.toList.map fun o => appV o.op) base) base ops k i := by
  obtain ⟨huni, y, hy, hall⟩ := mem_ready.1 hi
  have hlt : i < ops.size := (Array.getElem?_eq_some_iff.1 hy).1
  have h1 := List.all_eq_true.1 h i (List.mem_range.2 hlt)
  simp only [hy, Bool.and_eq_true] at h1
  have h2 := List.all_eq_true.1 h1.2 k (List.mem_range.2 hk)
  have hnb : ((befs ops.toList []).getD i 0).testBit k = false := by
    cases hb : ((befs ops.toList []).getD i 0).testBit k with
    | false => rfl
    | true =>
      have := bef_listed hcl i i y (Nat.le_refl _) hy hall k hb
      rw [getD_bool listed k (by omega) false true, hun] at this; cases this
  rw [hnb, Bool.false_or] at h2
  have hxo : ops[k]? = some ops[k] := Array.getElem?_eq_getElem (by omega)
  rw [hxo] at h2
  simp only [Bool.and_eq_true] at h2
  obtain ⟨⟨⟨p1, p2⟩, p3⟩, p4⟩ := h2
  have apg : ∀ (q : Nat) (z : Oper), ops[q]? = some z → (ops.toList.map fun o => appV o.op).getD q false = appV z.op := fun q z hz => by
    simp [List.getD_eq_getElem?_getD, hz]
  have apl : ∀ (q : Nat) (z : Oper), ops[q]? = some z → appV z.op = true → (ops.toList.map fun o => appV o.op)[q]? = some true := fun q z hz hq => by
    simp [hz, hq]
  have ckf : ∀ (n q : Nat), ((befs ops.toList []).getD n 0).testBit q = false → ∀ j, sid base q ≤ j → j < sid base q + 8 → ckL (befs ops.toList []) (ops.toList.map fun o => appV o.op) base n j = false := fun n q hq j j1 j2 => by
    unfold ckL
    simp only [sid] at j1 j2
    cases hb : Nat.beq j 1000000007 with
    | true => rfl
    | false =>
      simp only
      have hb2 : Nat.blt j base = false := by
        cases hc : Nat.blt j base with
        | false => rfl
        | true => have := Nat.le_of_ble_eq_true hc; omega
      rw [hb2]
      have : (j - base) / 8 = q := by omega
      rw [this, hq]
      cases (ops.toList.map fun o => appV o.op).getD n false <;> rfl
  have p4' : ((befs ops.toList []).getD k 0).testBit i = false := by simpa using p4
  have ckm : ∀ n, ckL (befs ops.toList []) (ops.toList.map fun o => appV o.op) base n 1000000007 = false := fun n => by
    unfold ckL
    rw [show Nat.beq 1000000007 1000000007 = true by decide]
  -- an append looks at what the region makes, the others at what was there
  have lkA : ∀ (n : Nat) (z : Oper), ops[n]? = some z → appV z.op = true → ∀ j, ckL (befs ops.toList []) (ops.toList.map fun o => appV o.op) base n j = true → Nat.blt j base = false ∧ ((befs ops.toList []).getD n 0).testBit ((j - base) / 8) = true ∧ apGo (befs ops.toList []) n ((j - base) / 8) 0 (ops.toList.map fun o => appV o.op) = true := fun n z hz hq j hc => by
    unfold ckL at hc
    rw [apg n z hz, hq] at hc
    cases hb : Nat.beq j 1000000007 with
    | true => rw [hb] at hc; cases hc
    | false =>
      rw [hb] at hc
      cases h3 : Nat.blt j base with
      | true => simp only [h3] at hc; cases hc
      | false =>
        simp only [h3] at hc
        cases h4 : ((befs ops.toList []).getD n 0).testBit ((j - base) / 8) with
        | false => rw [h4] at hc; cases hc
        | true => rw [h4] at hc; exact ⟨rfl, rfl, hc⟩
  have lkN : ∀ (n : Nat) (z : Oper), ops[n]? = some z → appV z.op = false → ∀ j, ckL (befs ops.toList []) (ops.toList.map fun o => appV o.op) base n j = true → Nat.blt j base = true := fun n z hz hq j hc => by
    unfold ckL at hc
    rw [apg n z hz, hq] at hc
    cases hb : Nat.beq j 1000000007 with
    | true => rw [hb] at hc; cases hc
    | false => rw [hb] at hc; exact hc
  refine ⟨by omega, fun x y' hx hy' => ?_, ckf k i p4', ckf i k hnb⟩
  rw [hy] at hy'; injection hy' with hy'; subst hy'
  have hxe : x = ops[k] := by rw [hxo] at hx; injection hx with hx; exact hx.symm
  subst hxe
  refine ⟨p1, p2, ?_⟩
  cases cx : appV ops[k].op with
  | true => cases cy : appV y.op with
    | true => exact .inr (.inr (fun j g1 g2 => by
        have a1 := lkA k _ hx cx j g1
        have a2 := lkA i _ hy cy j g2
        have := apGo_spec _ 0 a2.2.2 k (apl k _ hx cx) (by omega) (by rw [Nat.zero_add]; exact hnb) (by rw [Nat.zero_add]; exact p4')
        rw [Nat.zero_add, a1.2.1] at this; cases this))
    | false => exact .inr (.inr (fun j g1 g2 => by
        have a1 := lkA k _ hx cx j g1
        have a2 := lkN i _ hy cy j g2
        rw [a1.1] at a2; cases a2))
  | false => cases cy : appV y.op with
    | true => exact .inr (.inr (fun j g1 g2 => by
        have a1 := lkN k _ hx cx j g1
        have a2 := lkA i _ hy cy j g2
        rw [a2.1] at a1; cases a1))
    | false =>
      rw [cx, cy] at p3
      have p3' : clsOk ops[k].op y.op = true := by simpa using p3
      unfold wrOp
      rw [ckm k, ckm i]
      simp only [Bool.false_and, Bool.or_false]
      simp [clsOk] at p3'
      exact p3'.imp (fun h => h) (fun h => .inl h)
theorem drawOk_ind {base : Nat} (h : drawOk ops = true) (hL : lMode ops = false) (listed : Array Bool) (i k : Nat) (hsz : listed.size = ops.size)
    (hcl : ∀ j oj, ops[j]? = some oj → listed.getD j false = true → ∀ e ∈ oj.after, Region.binds .any e = true → listed.getD e.on false = true) (hi : i ∈ Region.ready .any ops listed) (hk : k < i) (hun : listed.getD k true = false) :
    Indep (ckD (befs ops.toList []) (ops.toList.map fun o => freeOp o.op) base) base ops k i := by
  obtain ⟨huni, y, hy, hall⟩ := mem_ready.1 hi
  have hlt : i < ops.size := (Array.getElem?_eq_some_iff.1 hy).1
  have h1 := List.all_eq_true.1 h i (List.mem_range.2 hlt)
  simp only [hy, Bool.and_eq_true] at h1
  have h2 := List.all_eq_true.1 h1.2 k (List.mem_range.2 hk)
  have hnb : ((befs ops.toList []).getD i 0).testBit k = false := by
    cases hb : ((befs ops.toList []).getD i 0).testBit k with
    | false => rfl
    | true =>
      have := bef_listed hcl i i y (Nat.le_refl _) hy hall k hb
      rw [getD_bool listed k (by omega) false true, hun] at this; cases this
  rw [hnb, Bool.false_or] at h2
  have hxo : ops[k]? = some ops[k] := Array.getElem?_eq_getElem (by omega)
  rw [hxo] at h2
  simp only [Bool.and_eq_true] at h2
  obtain ⟨⟨⟨p1, p2⟩, p3⟩, p4⟩ := h2
  have ckf : ∀ (n q : Nat), q < ops.size → ((befs ops.toList []).getD n 0).testBit q = false → ∀ j, sid base q ≤ j → j < sid base q + 8 → ckD (befs ops.toList []) (ops.toList.map fun o => freeOp o.op) base n j = false := fun n q hqs hq j j1 j2 => by
    unfold ckD
    simp only [sid] at j1 j2
    cases hb : Nat.beq j 1000000007 with
    | true =>
      have hj := Nat.eq_of_beq_eq_true hb
      have hb2 : Nat.ble (base + 8 * (ops.toList.map fun o => freeOp o.op).length) 1000000007 = false := by
        cases hc : Nat.ble (base + 8 * (ops.toList.map fun o => freeOp o.op).length) 1000000007 with
        | false => rfl
        | true => have := Nat.le_of_ble_eq_true hc; simp at this; omega
      rw [hb2]
    | false =>
      simp only
      have hb2 : Nat.blt j base = false := by
        cases hc : Nat.blt j base with
        | false => rfl
        | true => have := Nat.le_of_ble_eq_true hc; omega
      rw [hb2]
      simp only
      have : (j - base) / 8 = q := by omega
      rw [this]; exact hq
  have cks : ∀ (n q : Nat) (z : Oper), ops[q]? = some z → q ≠ n → ((befs ops.toList []).getD n 0).testBit q = false → ((befs ops.toList []).getD q 0).testBit n = false → ckD (befs ops.toList []) (ops.toList.map fun o => freeOp o.op) base n 1000000007 = true → freeOp z.op = true := fun n q z hz hne h1 h2 hc => by
    unfold ckD at hc
    have e : Nat.beq 1000000007 1000000007 = true := by decide
    rw [e] at hc
    simp only at hc
    split at hc
    · exact solo_spec _ 0 hc q _ (by simp [hz]) (by omega) (by rw [Nat.zero_add]; exact h1) (by rw [Nat.zero_add]; exact h2)
    · cases hc
  have p4' : ((befs ops.toList []).getD k 0).testBit i = false := by simpa using p4
  refine ⟨by omega, fun x y' hx hy' => ?_, ckf k i hlt p4', ckf i k (by omega) hnb⟩
  rw [hy] at hy'; injection hy' with hy'; subst hy'
  refine ⟨?_, ?_, ?_⟩
  · rw [hxo] at hx; injection hx with hx; subst hx; exact p1
  · rw [hxo] at hx; injection hx with hx; subst hx; exact p2
  · have p3' : clsOk x.op y.op = true := by
      have hx' := hx
      rw [hxo] at hx'; injection hx' with hx'
      exact cls_of (base := base) h hL i k x y hx hy hk hnb (by rw [← hx']; exact p3)
    unfold wrOp
    cases hk1 : ckD (befs ops.toList []) (ops.toList.map fun o => freeOp o.op) base k 1000000007 with
    | true => exact .inl (.inr (cks k i y hy (by omega) p4' hnb hk1))
    | false =>
      cases hi1 : ckD (befs ops.toList []) (ops.toList.map fun o => freeOp o.op) base i 1000000007 with
      | true => exact .inl (.inl (cks i k x hx (by omega) hnb p4' hi1))
      | false =>
        simp only [Bool.false_and, Bool.or_false]
        simp [clsOk] at p3'
        exact p3'.imp (fun h => h) (fun h => .inl h)

theorem drawOk_indW {W : List Nat} {base : Nat} (h : drawOk ops = true) (hL : lMode ops = false) (listed : Array Bool) (i k : Nat) (hsz : listed.size = ops.size)
    (hcl : ∀ j oj, ops[j]? = some oj → listed.getD j false = true → ∀ e ∈ oj.after, Region.binds .any e = true → listed.getD e.on false = true) (hi : i ∈ Region.ready .any ops listed) (hk : k < i) (hun : listed.getD k true = false) :
    Indep (ckW (befs ops.toList []) (ops.toList.map fun o => !callV o.op) W base) base ops k i := by
  obtain ⟨huni, y, hy, hall⟩ := mem_ready.1 hi
  have hlt : i < ops.size := (Array.getElem?_eq_some_iff.1 hy).1
  have h1 := List.all_eq_true.1 h i (List.mem_range.2 hlt)
  simp only [hy, Bool.and_eq_true] at h1
  have h2 := List.all_eq_true.1 h1.2 k (List.mem_range.2 hk)
  have hnb : ((befs ops.toList []).getD i 0).testBit k = false := by
    cases hb : ((befs ops.toList []).getD i 0).testBit k with
    | false => rfl
    | true =>
      have := bef_listed hcl i i y (Nat.le_refl _) hy hall k hb
      rw [getD_bool listed k (by omega) false true, hun] at this; cases this
  rw [hnb, Bool.false_or] at h2
  have hxo : ops[k]? = some ops[k] := Array.getElem?_eq_getElem (by omega)
  rw [hxo] at h2
  simp only [Bool.and_eq_true] at h2
  obtain ⟨⟨⟨p1, p2⟩, p3⟩, p4⟩ := h2
  have hncl : (ops.toList.map fun o => !callV o.op).length = ops.size := by simp
  have ncg : ∀ (q : Nat) (z : Oper), ops[q]? = some z → (ops.toList.map fun o => !callV o.op).getD q true = !callV z.op := fun q z hz => by
    simp [List.getD_eq_getElem?_getD, hz]
  have ckf : ∀ (n q : Nat), q < ops.size → ((befs ops.toList []).getD n 0).testBit q = false → ∀ j, sid base q ≤ j → j < sid base q + 8 → ckW (befs ops.toList []) (ops.toList.map fun o => !callV o.op) W base n j = false := fun n q hqs hq j j1 j2 => by
    unfold ckW
    simp only [sid] at j1 j2
    cases hb : Nat.beq j 1000000007 with
    | true =>
      have hj := Nat.eq_of_beq_eq_true hb
      have hb2 : Nat.ble (base + 8 * (ops.toList.map fun o => !callV o.op).length) 1000000007 = false := by
        cases hc : Nat.ble (base + 8 * (ops.toList.map fun o => !callV o.op).length) 1000000007 with
        | false => rfl
        | true => have := Nat.le_of_ble_eq_true hc; rw [hncl] at this; omega
      rw [hb2]
      cases (ops.toList.map fun o => !callV o.op).getD n true <;> rfl
    | false =>
      simp only
      have hb2 : Nat.blt j base = false := by
        cases hc : Nat.blt j base with
        | false => rfl
        | true => have := Nat.le_of_ble_eq_true hc; omega
      rw [hb2]
      have : (j - base) / 8 = q := by omega
      cases (ops.toList.map fun o => !callV o.op).getD n true
      · rfl
      · simp only; rw [this]; exact hq
  have p4' : ((befs ops.toList []).getD k 0).testBit i = false := by simpa using p4
  -- what a call, and what another, may look at
  have ckc : ∀ (n : Nat) (z : Oper), ops[n]? = some z → callV z.op = true → ∀ j, Nat.beq j 1000000007 = false → ckW (befs ops.toList []) (ops.toList.map fun o => !callV o.op) W base n j = true → Nat.blt j base = true ∧ memB W j = true := fun n z hz hcv j hb hc => by
    unfold ckW at hc
    rw [hb, ncg n z hz, hcv] at hc
    simp only [Bool.not_true] at hc
    cases h : Nat.blt j base with
    | true => rw [h] at hc; exact ⟨rfl, hc⟩
    | false => rw [h] at hc; cases hc
  have ckn : ∀ (n : Nat) (z : Oper), ops[n]? = some z → callV z.op = false → ∀ j, (Nat.blt j base = true ∧ memB W j = true) → ckW (befs ops.toList []) (ops.toList.map fun o => !callV o.op) W base n j = true → False := fun n z hz hcv j hj hc => by
    unfold ckW at hc
    rw [ncg n z hz, hcv, hj.1, hj.2] at hc
    simp only [Bool.not_false, Bool.not_true] at hc
    split at hc
    · cases hc
    · cases hc
  have ckm : ∀ (n : Nat) (z : Oper), ops[n]? = some z → callV z.op = false → ckW (befs ops.toList []) (ops.toList.map fun o => !callV o.op) W base n 1000000007 = false := fun n z hz hcv => by
    unfold ckW
    rw [ncg n z hz, hcv, show Nat.beq 1000000007 1000000007 = true by decide]
    rfl
  have ckm2 : ∀ (n q : Nat) (y z : Oper), ops[n]? = some y → ops[q]? = some z → callV z.op = true → q ≠ n → ((befs ops.toList []).getD n 0).testBit q = false → ((befs ops.toList []).getD q 0).testBit n = false → ckW (befs ops.toList []) (ops.toList.map fun o => !callV o.op) W base n 1000000007 = false := fun n q y z hy hz hcv hne h1 h2 => by
    cases hc : ckW (befs ops.toList []) (ops.toList.map fun o => !callV o.op) W base n 1000000007 with
    | false => rfl
    | true =>
      exfalso
      unfold ckW at hc
      rw [show Nat.beq 1000000007 1000000007 = true by decide] at hc
      simp only at hc
      split at hc
      · have := solo_spec _ 0 hc q (!callV z.op) (by simp [hz]) (by omega) (by rw [Nat.zero_add]; exact h1) (by rw [Nat.zero_add]; exact h2)
        rw [hcv] at this; cases this
      · cases hc
  have dis : ∀ (n q : Nat) (y z : Oper), ops[n]? = some y → ops[q]? = some z → callV y.op = true → callV z.op = false → ∀ j, ckW (befs ops.toList []) (ops.toList.map fun o => !callV o.op) W base n j = true → ckW (befs ops.toList []) (ops.toList.map fun o => !callV o.op) W base q j = true → False := fun n q y z hy hz h1 h2 j g1 g2 => by
    cases hb : Nat.beq j 1000000007 with
    | true =>
      have := Nat.eq_of_beq_eq_true hb; subst this
      rw [ckm q z hz h2] at g2; cases g2
    | false => exact ckn q z hz h2 j (ckc n y hy h1 j hb g1) g2
  refine ⟨by omega, fun x y' hx hy' => ?_, ckf k i hlt p4', ckf i k (by omega) hnb⟩
  rw [hy] at hy'; injection hy' with hy'; subst hy'
  refine ⟨?_, ?_, ?_⟩
  · rw [hxo] at hx; injection hx with hx; subst hx; exact p1
  · rw [hxo] at hx; injection hx with hx; subst hx; exact p2
  · have p3' : clsOk x.op y.op = true := by
      have hx' := hx
      rw [hxo] at hx'; injection hx' with hx'
      exact cls_of (base := base) h hL i k x y hx hy hk hnb (by rw [← hx']; exact p3)
    have old : ckW (befs ops.toList []) (ops.toList.map fun o => !callV o.op) W base k 1000000007 = false → ckW (befs ops.toList []) (ops.toList.map fun o => !callV o.op) W base i 1000000007 = false →
        ((freeOp x.op = true ∨ freeOp y.op = true) ∨ (wrOp (ckW (befs ops.toList []) (ops.toList.map fun o => !callV o.op) W base k) x.op = false ∧ wrOp (ckW (befs ops.toList []) (ops.toList.map fun o => !callV o.op) W base i) y.op = false)) := fun m1 m2 => by
      unfold wrOp
      rw [m1, m2]
      simp only [Bool.false_and, Bool.or_false]
      simp [clsOk] at p3'
      exact p3'
    cases cx : callV x.op with
    | true => cases cy : callV y.op with
      | true => exact (old (ckm2 k i x y hx hy cy (by omega) p4' hnb) (ckm2 i k y x hy hx cx (by omega) hnb p4')).imp (fun h => h) (fun h => .inl h)
      | false => exact .inr (.inr (dis k i x y hx hy cx cy))
    | false => cases cy : callV y.op with
      | true => exact .inr (.inr (fun j g1 g2 => dis i k y x hy hx cy cx j g2 g1))
      | false => exact (old (ckm k x hx cx) (ckm i y hy cy)).imp (fun h => h) (fun h => .inl h)

theorem Ok.drew {bd : Nat → Prop} {σ : St} {a : Act} {w : World} {A : Nat → Prop} {μ : Nat → Option Loc} (h : Ok w0 X A0 N bd σ a w A μ) : Ok w0 X A0 N bd σ a w.drew A μ :=
  ⟨h.tm, h.df, fun t => (h.env t).mono (w := w) (w' := w.drew) (fun _ h => h) (fun _ _ _ h => h) (fun _ _ h => h), h.os, h.tape, h.out, h.size, h.old, h.hA, h.sub,
    fun i ob hi => by
      obtain ⟨l, h1, h2, h3⟩ := h.ob i ob hi
      exact ⟨l, h1, h2.mono (w := w) (w' := w.drew) (fun _ h => h) (fun _ _ _ h => h) (fun _ _ h => h) (fun _ _ => rfl), h3⟩, h.ap, h.bd⟩

theorem region_sound {id : Nat} {draw : Bool} {W : List Nat} {K : St → Prop} {σ : St} {a : Act} {w : World} {A : Nat → Prop} {μ : Nat → Option Loc} (hT : TOk P T) (hG : GX G w0 X A0) (hP : P.follows .mixedOrders = true) (hc : regOk N ops draw = true) (h : Ok w0 X A0 N (fun j => j < σ.next) σ a w A μ) (hW : ∃ env, W = wOf ops env draw)
    (hr : rgo P G T (ckOf ops σ.next W draw) σ.next ops 0 ops.toList K σ) :
    (Code.region id ops draw).wp P (fun e a' w' => e = .normal ∧ ∃ σ', K σ' ∧ Next w0 X A0 N (fun j => j < σ.next + 8 * ops.size) σ' (ops.toList.filterMap (·.dst)) a w A μ a' w') a w := by
  simp only [regOk, Bool.and_eq_true] at hc
  have hdst : ∀ (i : Nat) (o : Oper), ops[i]? = some o → ∀ n, o.dst = some n → n < N ∧ n ∈ ops.toList.filterMap (·.dst) := fun i o ho n hn => by
    have hm : o ∈ ops.toList := by have := Array.mem_of_getElem? ho; simpa using this
    have := List.all_eq_true.1 hc.1 o hm
    rw [hn] at this
    exact ⟨Nat.le_of_ble_eq_true this, List.mem_filterMap.2 ⟨o, hm, hn⟩⟩
  cases draw with
  | false =>
    refine wp_region ?_
    rw [List.range_eq_range']
    exact rgo_seq hT hG hdst ops.size 0 σ a w A μ (by omega) (h.bdm (fun j hj => by omega)) (by simpa using hr)
  | true =>
    have hd : drawOk ops = true := by simpa using hc.2
    have hind : ∀ (listed : Array Bool) (i k : Nat), listed.size = ops.size → (∀ j oj, ops[j]? = some oj → listed.getD j false = true → ∀ e ∈ oj.after, Region.binds .any e = true → listed.getD e.on false = true) → i ∈ Region.ready .any ops listed → k < i → listed.getD k true = false → Indep (ckOf ops σ.next W true) σ.next ops k i := by
      clear hr
      intro l i k a1 a2 a3 a4 a5
      obtain ⟨env, hW⟩ := hW
      cases hm : lMode ops with
      | true =>
        unfold wOf at hW
        rw [hm] at hW
        subst hW
        exact drawOk_indL hd l i k a1 a2 a3 a4 a5
      | false =>
        clear hW
        cases W with
        | nil => exact drawOk_ind hd hm l i k a1 a2 a3 a4 a5
        | cons w W =>
          show Indep (match Nat.beq w 1000000009 with | true => ckL _ _ _ | false => ckW _ _ _ _) _ _ _ _
          cases Nat.beq w 1000000009 with
          | true => exact drawOk_indL hd l i k a1 a2 a3 a4 a5
          | false => exact drawOk_indW hd hm l i k a1 a2 a3 a4 a5
    obtain ⟨τ, h1, h2⟩ := chain_of (ops := ops) (ck := ckOf ops σ.next W true) ops.size 0 σ (by omega) (by simpa using hr)
    have := wp_region_any (P := P) (id := id) (a := a) (w := w) (ops := ops) (Q := fun e a' w' => e = .normal ∧ ∃ σ', K σ' ∧ Next w0 X A0 N (fun j => j < σ.next + 8 * ops.size) σ' (ops.toList.filterMap (·.dst)) a w.drew A μ a' w') hP
      (chain_any (ck := ckOf ops σ.next W true) hT hG hdst hind (drawOk_low hd) ops.size (List.range' 0 ops.size) (Array.replicate ops.size false) σ τ a _ A μ (by simp) (by simp)
        (by rw [← List.range_eq_range', List.filter_eq_self.2]; intro i hi; simp [List.mem_range.1 hi]) (fun j oj hj hl => by simp [(Array.getElem?_eq_some_iff.1 hj).1] at hl) (h.drew.bdm (fun j hj => .inl hj)) h1 h2)
    exact wp_mono this (fun e a' w' ⟨he, σ', hk, A', μ', g1, g2⟩ => ⟨he, σ', hk, A', μ', g1, ⟨fun ad c hA hc => g2.cell ad c hA hc, g2.sub, g2.mu, g2.tm⟩⟩)
end
end Go.Aw

set_option linter.unusedVariables false
namespace Go.Aw
section
variable {P : Program} {G : Nat → Option Obj} {T : TypeId → Option TI} {w0 : World} {X A0 : Nat → Prop} {N : Nat} {Q : Exit → Act → World → Prop}

theorem wp_loop_ex {c : Code} {a : Act} {w : World} (J : Nat → Act → World → Prop) (h0 : ∃ n, J n a w) (round : ∀ n a w, J n a w → c.wp P (Exit.then (fun a' w' => ∃ n', n' < n ∧ J n' a' w') Q) a w) : (Code.loop c).wp P Q a w := by
  intro b k cs
  have key : ∀ n a w, J n a w → ∃ e a' w', Q e a' w' ∧ Arrives P (lone (b.at a (.code c :: .inLoop c :: k)) cs w) b k cs e a' w' := fun n => by
    induction n using Nat.strongRecOn with
    | _ n ih =>
      intro a w hJ
      obtain ⟨e, a₁, w₁, hq, harr⟩ := round n a w hJ b (.inLoop c :: k) cs
      cases e with
      | normal =>
        obtain ⟨n', hlt, hJ'⟩ := hq
        obtain ⟨e₂, a₂, w₂, hq₂, harr₂⟩ := ih n' hlt a₁ w₁ hJ'
        exact ⟨e₂, a₂, w₂, hq₂, .of_steps (Steps.trans harr (.one step_inLoop)) harr₂⟩
      | exit id => exact ⟨_, a₁, w₁, hq, .pass (x := .inLoop c) rfl (fun _ _ => .inl (by simp)) harr⟩
      | goto l => exact ⟨_, a₁, w₁, hq, .pass (x := .inLoop c) rfl (fun _ _ => .inl (by simp)) harr⟩
      | ret => exact ⟨_, a₁, w₁, hq, .pass (x := .inLoop c) rfl (fun _ _ => .inl (by simp)) harr⟩
      | panic ch => exact ⟨_, a₁, w₁, hq, .pass (x := .inLoop c) rfl (fun _ _ => .inl (by simp)) harr⟩
      | outgrown => exact ⟨_, a₁, w₁, hq, .pass (x := .inLoop c) rfl (fun _ _ => .inl (by simp)) harr⟩
  obtain ⟨n, hn⟩ := h0
  obtain ⟨e, a', w', hq, harr⟩ := key n a w hn
  exact ⟨e, a', w', hq, .of_steps (.one step_loop) harr⟩

theorem memB_iff : ∀ (l : List Nat) (t : Nat), memB l t = true ↔ t ∈ l
  | [], t => by simp [memB]
  | k :: l, t => by
    simp only [memB]
    cases hb : Nat.beq k t with
    | true => have := Nat.eq_of_beq_eq_true hb; subst this; simp
    | false =>
      have := Nat.ne_of_beq_eq_false hb
      simp only [List.mem_cons]
      rw [memB_iff l t]
      constructor
      · exact .inr
      · rintro (h | h)
        · exact absurd h.symm this
        · exact h
theorem lk_mem {α : Type} : ∀ (l : List (Nat × α)) (i : Nat) (x : α), lk l i = some x → (i, x) ∈ l
  | [], i, x, h => by cases h
  | (k, y) :: l, i, x, h => by
    simp only [lk] at h
    cases hb : Nat.beq k i with
    | true => rw [hb] at h; injection h with h; subst h; have := Nat.eq_of_beq_eq_true hb; subst this; exact List.mem_cons_self ..
    | false => rw [hb] at h; exact List.mem_cons_of_mem _ (lk_mem l i x h)
theorem shut_ren {v : V} (h : v.shut = true) (ρ : Nat → Nat) : v.ren1 ρ = v := by cases v <;> first | rfl | cases h

/-- the same data, read with fewer objects known -/
theorem Rv.shrink {w we : World} {A Ae : Nat → Prop} {μ μe μ' : Nat → Option Loc} (hd : ∀ i l, μe i = some l → ∃ l', μ i = some l' ∧ μ' i = some l') {u : V} {c : Value} (h : Rv w A μ u c) : ∀ {ce : Value}, Rv we Ae μe u ce → Rv w A μ' u c := by
  induction h with
  | c h => exact fun _ => .c h
  | agg xs cs hl h ih =>
    intro ce he
    obtain ⟨es, _, hel, her⟩ := he.agg_inv
    refine .agg xs cs hl (fun i x c hx hc => ?_)
    have hlt : i < es.size := by rw [hel]; exact (List.getElem?_eq_some_iff.1 hx).1
    exact ih i x c hx hc (her i x _ hx (Array.getElem?_eq_getElem hlt))
  | tup xs cs hl h ih =>
    intro ce he
    obtain ⟨es, _, hel, her⟩ := he.tup_inv
    refine .tup xs cs hl (fun i x c hx hc => ?_)
    have hlt : i < es.size := by rw [hel]; exact (List.getElem?_eq_some_iff.1 hx).1
    exact ih i x c hx hc (her i x _ hx (Array.getElem?_eq_getElem hlt))
  | own i l h =>
    intro ce he
    obtain ⟨l', hl', _⟩ := he.own_inv
    obtain ⟨l2, h1, h2⟩ := hd _ _ hl'
    rw [h] at h1; injection h1 with h1; subst h1
    exact .own i l h2
  | bp i off l b h hb =>
    intro ce he
    obtain ⟨l', _, hl', _⟩ := he.bp_inv
    obtain ⟨l2, h1, h2⟩ := hd _ _ hl'
    rw [h] at h1; injection h1 with h1; subst h1
    exact .bp i off l b h2 hb
  | ep i j off l b h hb =>
    intro ce he
    obtain ⟨l', _, hl', _⟩ := he.ep_inv
    obtain ⟨l2, h1, h2⟩ := hd _ _ hl'
    rw [h] at h1; injection h1 with h1; subst h1
    exact .ep i j off l b h2 hb
  | cf f i l b h hb =>
    intro ce he
    obtain ⟨l', _, hl', _⟩ := he.cf_inv
    obtain ⟨l2, h1, h2⟩ := hd _ _ hl'
    rw [h] at h1; injection h1 with h1; subst h1
    exact .cf f i l b h2 hb
  | dsl i j off l d h hb =>
    intro ce he
    obtain ⟨l', _, hl', _⟩ := he.dsl_inv
    obtain ⟨l2, h1, h2⟩ := hd _ _ hl'
    rw [h] at h1; injection h1 with h1; subst h1
    exact .dsl i j off l d h2 hb

/-- the same place, whatever slices lie in it -/
def Core (l l' : Loc) : Prop := l'.b = l.b ∧ l'.len = l.len ∧ l'.cap = l.cap ∧ l'.sz = l.sz
theorem Core.refl (l : Loc) : Core l l := ⟨rfl, rfl, rfl, rfl⟩
theorem Core.trans {l l' l2 : Loc} (h : Core l l') (k : Core l' l2) : Core l l2 := ⟨k.1.trans h.1, k.2.1.trans h.2.1, k.2.2.1.trans h.2.2.1, k.2.2.2.trans h.2.2.2⟩
structure ExtW (n0 : Nat) (hv : List Tmp) (a : Act) (w : World) (A : Nat → Prop) (μ : Nat → Option Loc) (a' : Act) (w' : World) (A' : Nat → Prop) (μ' : Nat → Option Loc) : Prop where
  cell : ∀ ad c, A ad.block → w.cell? ad = some c → w'.cell? ad = some c
  sub : ∀ b, A b → A' b
  mu0 : ∀ i l, i < n0 → μ i = some l → μ' i = some l
  mu : ∀ i l, μ i = some l → ∃ l', μ' i = some l' ∧ Core l l'
  tm : ∀ t, t ∉ hv → a'.tmps[t]? = a.tmps[t]?
theorem Ext.w {n0 : Nat} {hv : List Tmp} {a : Act} {w : World} {A : Nat → Prop} {μ : Nat → Option Loc} {a' : Act} {w' : World} {A' : Nat → Prop} {μ' : Nat → Option Loc} (h : Ext hv a w A μ a' w' A' μ') : ExtW n0 hv a w A μ a' w' A' μ' :=
  ⟨h.cell, h.sub, fun i l _ hl => h.mu i l hl, fun i l hl => ⟨l, h.mu i l hl, Core.refl l⟩, h.tm⟩
theorem ExtW.refl (n0 : Nat) (hv : List Tmp) (a : Act) (w : World) (A : Nat → Prop) (μ : Nat → Option Loc) : ExtW n0 hv a w A μ a w A μ := (Ext.refl hv a w A μ).w
theorem ExtW.trans {n0 : Nat} {hv hv' : List Tmp} {a a1 a2 : Act} {w w1 w2 : World} {A A1 A2 : Nat → Prop} {μ μ1 μ2 : Nat → Option Loc} (h : ExtW n0 hv a w A μ a1 w1 A1 μ1) (k : ExtW n0 hv' a1 w1 A1 μ1 a2 w2 A2 μ2) :
    ExtW n0 (hv ++ hv') a w A μ a2 w2 A2 μ2 :=
  ⟨fun ad c hA hc => k.cell _ _ (h.sub _ hA) (h.cell _ _ hA hc), fun b hb => k.sub _ (h.sub _ hb), fun i l hi hl => k.mu0 _ _ hi (h.mu0 _ _ hi hl), fun i l hi => (by
    obtain ⟨l1, h1, c1⟩ := h.mu i l hi
    obtain ⟨l2, h2, c2⟩ := k.mu i l1 h1
    exact ⟨l2, h2, c1.trans c2⟩),
    fun t ht => (k.tm t (fun hm => ht (List.mem_append_right _ hm))).trans (h.tm t (fun hm => ht (List.mem_append_left _ hm)))⟩
theorem ExtW.mono {n0 : Nat} {hv hv' : List Tmp} {a a1 : Act} {w w1 : World} {A A1 : Nat → Prop} {μ μ1 : Nat → Option Loc} (h : ExtW n0 hv a w A μ a1 w1 A1 μ1) (hs : ∀ t ∈ hv, t ∈ hv') : ExtW n0 hv' a w A μ a1 w1 A1 μ1 :=
  ⟨h.cell, h.sub, h.mu0, h.mu, fun t ht => h.tm t (fun hm => ht (hs t hm))⟩
theorem ExtW.trans' {n0 : Nat} {hv : List Tmp} {a a1 a2 : Act} {w w1 w2 : World} {A A1 A2 : Nat → Prop} {μ μ1 μ2 : Nat → Option Loc} (h : ExtW n0 hv a w A μ a1 w1 A1 μ1) (k : ExtW n0 hv a1 w1 A1 μ1 a2 w2 A2 μ2) :
    ExtW n0 hv a w A μ a2 w2 A2 μ2 := (h.trans k).mono (fun t ht => (List.mem_append.1 ht).elim id id)
section
variable {w w' : World} {A A' : Nat → Prop} {μ μ' : Nat → Option Loc}
theorem Rv.monoC1 (hA : ∀ b, A b → A' b) (hw : ∀ ad c, A ad.block → w.cell? ad = some c → w'.cell? ad = some c) (hm : ∀ i l, μ i = some l → ∃ l', μ' i = some l' ∧ Core l l') {x : V} {v : Value} (hn : x.nd1 = true) (h : Rv w A μ x v) : Rv w' A' μ' x v := by
  cases h with
  | c h => exact .c (h.mono hA hw)
  | agg xs cs hl h => cases hn
  | tup xs cs hl h => cases hn
  | own i l h =>
    obtain ⟨l', h', e1, e2, e3, e4⟩ := hm _ _ h
    rw [← e1, ← e2, ← e3]; exact .own i l' h'
  | bp i off l b h hb =>
    obtain ⟨l', h', e1, e2, e3, e4⟩ := hm _ _ h
    exact .bp i off l' b h' (e1.trans hb)
  | ep i idx off l b h hb =>
    obtain ⟨l', h', e1, e2, e3, e4⟩ := hm _ _ h
    rw [← e4]; exact .ep i idx off l' b h' (e1.trans hb)
  | cf f i l b h hb =>
    obtain ⟨l', h', e1, e2, e3, e4⟩ := hm _ _ h
    exact .cf f i l' b h' (e1.trans hb)
  | dsl i idx off l d h hd => cases hn
theorem Rv.monoC2 (hA : ∀ b, A b → A' b) (hw : ∀ ad c, A ad.block → w.cell? ad = some c → w'.cell? ad = some c) (hm : ∀ i l, μ i = some l → ∃ l', μ' i = some l' ∧ Core l l') {x : V} {v : Value} (hn : x.nd2 = true) (h : Rv w A μ x v) : Rv w' A' μ' x v := by
  by_cases hx : ∃ xs, x = .agg xs
  · obtain ⟨xs, rfl⟩ := hx
    obtain ⟨cs, rfl, hs, hr⟩ := h.agg_inv
    exact .agg _ cs hs (fun i y c hy hc => (hr i y c hy hc).monoC1 hA hw hm (List.all_eq_true.1 hn y (List.mem_of_getElem? hy)))
  · exact h.monoC1 hA hw hm (by cases x <;> first | exact hn | exact absurd ⟨_, rfl⟩ hx)
theorem Rv.monoC (hA : ∀ b, A b → A' b) (hw : ∀ ad c, A ad.block → w.cell? ad = some c → w'.cell? ad = some c) (hm : ∀ i l, μ i = some l → ∃ l', μ' i = some l' ∧ Core l l') {x : V} {v : Value} (hn : x.nod = true) (h : Rv w A μ x v) : Rv w' A' μ' x v := by
  by_cases hx : ∃ xs, x = .tup xs
  · obtain ⟨xs, rfl⟩ := hx
    obtain ⟨cs, rfl, hs, hr⟩ := h.tup_inv
    exact .tup _ cs hs (fun i y c hy hc => (hr i y c hy hc).monoC2 hA hw hm (List.all_eq_true.1 hn y (List.mem_of_getElem? hy)))
  · exact h.monoC2 hA hw hm (by cases x <;> first | exact hn | exact absurd ⟨_, rfl⟩ hx)
end

theorem mtL_get {rn : List (Option Nat)} : ∀ (us vs : List V), MtL rn us vs → us.length = vs.length ∧ ∀ (i : Nat) (u v : V), us[i]? = some u → vs[i]? = some v → Mt rn u v
  | [], [], _ => ⟨rfl, fun i u v h => by simp at h⟩
  | u :: us, v :: vs, ⟨h1, h2⟩ => by
    obtain ⟨g1, g2⟩ := mtL_get us vs h2
    refine ⟨by simp [g1], fun i u' v' hu hv => ?_⟩
    cases i with
    | zero => simp at hu hv; subst hu; subst hv; exact h1
    | succ i => exact g2 i u' v' (by simpa using hu) (by simpa using hv)
  | [], _ :: _, h => h.elim
  | _ :: _, [], h => h.elim

theorem rn_inj : ∀ (rn : List (Option Nat)), (rn.filterMap id).Nodup → ∀ j j' k : Nat, rn[j]? = some (some k) → rn[j']? = some (some k) → j = j'
  | [], _, j, j', k, h1, _ => by simp at h1
  | r :: rs, f3, j, j', k, h1, h2 => by
    have mem : ∀ n : Nat, rs[n]? = some (some k) → k ∈ rs.filterMap id := fun n hn => List.mem_filterMap.2 ⟨some k, List.mem_of_getElem? hn, rfl⟩
    cases r with
    | none =>
      cases j with
      | zero => simp at h1
      | succ j => cases j' with
        | zero => simp at h2
        | succ j' => rw [rn_inj rs (by simpa using f3) j j' k (by simpa using h1) (by simpa using h2)]
    | some q =>
      have f3' : q ∉ rs.filterMap id ∧ (rs.filterMap id).Nodup := by simpa using f3
      cases j with
      | zero => cases j' with
        | zero => rfl
        | succ j' => simp at h1 h2; subst h1; exact absurd (mem j' (by simpa using h2)) f3'.1
      | succ j => cases j' with
        | zero => simp at h1 h2; subst h2; exact absurd (mem j (by simpa using h1)) f3'.1
        | succ j' => rw [rn_inj rs f3'.2 j j' k (by simpa using h1) (by simpa using h2)]

theorem emp_ok {w : World} {A : Nat → Prop} {μ : Nat → Option Loc} {ob : Ob} (h : ob.emp = true) : ObOk w A μ ⟨none, 0, 0, ob.sz0, []⟩ ob := by
  unfold Ob.emp at h
  split at h
  · exact ⟨rfl, rfl, fun _ h => (by cases h), [], ⟨by simp, .inl ⟨rfl, rfl⟩⟩, fun _ h => (by cases h), fun k u c hk => by simp at hk⟩
  · exact ⟨fun k d b hk => (by cases hk), rfl, rfl, fun _ h => (by cases h), [], ⟨by simp, .inl ⟨rfl, rfl⟩⟩, fun _ h => (by cases h), fun k u c hk => by simp at hk⟩
  · cases h
/-- what is there fits what a loop's head tells -/
theorem head_ok {n0 : Nat} {σ0 σ : St} {hv : List Tmp} {md : List Nat} {E : List (Nat × V)} {B : List (Nat × Ob)} {M : List Ob} {rn : List (Option Nat)} {ae a : Act} {we w : World} {Ae A : Nat → Prop} {μe μ : Nat → Option Loc} {bd : Nat → Prop}
    (he : Ok w0 X A0 N (fun j => j < σ0.next) σ0 ae we Ae μe) (h : Ok w0 X A0 N bd σ a w A μ) (hx : ExtW n0 hv ae we Ae μe a w A μ) (hf : Fits σ0 σ md E B M rn) :
    ∃ μ', Ok w0 X A0 N (fun j => j < (head σ0 hv md E B M).next) (head σ0 hv md E B M) a w A μ' ∧ ExtW n0 hv ae we Ae μe a w A μ' := by
  obtain ⟨f1, f2, f3, f4, f5, f6, f7, f8, f9⟩ := hf
  let μ' : Nat → Option Loc := fun i => if i < σ0.next then (match μe i with | some _ => μ i | none => none) else match rn[i - σ0.next]? with
    | some (some k) => μ k
    | some none => match M[i - σ0.next]? with | some ob => some ⟨none, 0, 0, ob.sz0, []⟩ | none => none
    | none => none
  have hlo : ∀ i l, i < σ0.next → μe i = some l → μ' i = μ i := fun i l hi hl => by
    show (if i < σ0.next then (match μe i with | some _ => μ i | none => none) else _) = _
    rw [if_pos hi, hl]
  have hhi : ∀ j, μ' (σ0.next + j) = match rn[j]? with | some (some k) => μ k | some none => (match M[j]? with | some ob => some ⟨none, 0, 0, ob.sz0, []⟩ | none => none) | none => none := fun j => by
    show (if σ0.next + j < σ0.next then _ else _) = _
    rw [if_neg (by omega)]
    simp only [Nat.add_sub_cancel_left]
  have hμe : ∀ i l, μe i = some l → ∃ l', μ i = some l' ∧ Core l l' ∧ μ' i = some l' := fun i l hi => by
    obtain ⟨l', h1, h2⟩ := hx.mu i l hi
    exact ⟨l', h1, h2, by rw [hlo i l (he.bd i (by rw [hi]; simp)) hi]; exact h1⟩
  have hcell := hx.cell
  -- a value told at the head
  have hmt : ∀ (u v : V) (c : Value), Mt rn u v → Rv w A μ u c → Rv w A μ' (v.ren1 (σ0.next + ·)) c := fun u v c hm hr => by
    have other : v.ren1 (σ0.next + ·) = v → (u = v ∧ v.shutA = true) ∨ (u = .nil ∧ ∃ sz, v = .sl sz 0 []) → Rv w A μ' (v.ren1 (σ0.next + ·)) c := fun e hc => by
      rw [e]
      rcases hc with ⟨e1, e2⟩ | ⟨rfl, sz, rfl⟩
      · subst e1
        by_cases hx : ∃ xs, u = .agg xs
        · obtain ⟨xs, rfl⟩ := hx
          obtain ⟨cs, rfl, hs, hrr⟩ := hr.agg_inv
          exact .agg _ cs hs (fun i y d hy hd => .c (shut_rc (hrr i y d hy hd) (List.all_eq_true.1 e2 y (List.mem_of_getElem? hy))))
        · exact .c (shut_rc hr (by cases u <;> first | exact e2 | exact absurd ⟨_, rfl⟩ hx))
      · have := hr.nil_inv; subst this
        exact .c (.sl sz 0 [] rfl none 0 (fun _ => undef) (Nat.le_refl _) (fun p hp => by cases hp) (fun h => absurd rfl h) (fun ad k u ha => by cases ha) (fun k u hk => by simp at hk) (fun k u hk => by simp at hk))
    cases v with
    | own j len =>
      simp only [Mt] at hm
      split at hm
      · rename_i i hi
        subst hm
        obtain ⟨l, hl, rfl, rfl⟩ := hr.own_inv
        exact .own _ l (by show μ' (σ0.next + j) = _; rw [hhi, hi]; exact hl)
      · rename_i hi
        obtain ⟨rfl, rfl⟩ := hm
        obtain ⟨eo, hM, _⟩ := f6 j hi
        have := hr.nil_inv; subst this
        exact .own _ ⟨none, 0, 0, eo.sz0, []⟩ (by show μ' (σ0.next + j) = _; rw [hhi, hi, hM])
      · exact hm.elim
    | bp i off => rcases hm with ⟨_, h2⟩ | ⟨_, _, h2⟩ <;> cases h2
    | ep i j off => rcases hm with ⟨_, h2⟩ | ⟨_, _, h2⟩ <;> cases h2
    | cf f i => rcases hm with ⟨_, h2⟩ | ⟨_, _, h2⟩ <;> cases h2
    | dsl i j off n => rcases hm with ⟨_, h2⟩ | ⟨_, _, h2⟩ <;> cases h2
    | tup xs => rcases hm with ⟨_, h2⟩ | ⟨_, _, h2⟩ <;> cases h2
    | _ => exact other rfl hm
  have hkept : ∀ i, memB md i = false → memB σ0.ids i = true → σ.mem i = σ0.mem i := fun i h1 h2 => (f7 i ((memB_iff _ _).1 h2)).resolve_left (by rw [h1]; simp)
  have hkm : ∀ j k : Nat, rn[j]? = some (some k) → k ∈ rn.filterMap id := fun j k hj => List.mem_filterMap.2 ⟨some k, List.mem_of_getElem? hj, rfl⟩
  have hinj : ∀ j j' k : Nat, rn[j]? = some (some k) → rn[j']? = some (some k) → j = j' := rn_inj rn f3
  -- the objects at the head, and where each comes from
  have hmem : ∀ i ob, (head σ0 hv md E B M).mem i = some ob → (i < σ0.next ∧ ((∃ ob1, lk B i = some ob1 ∧ ob = ob1.rn1 (σ0.next + ·)) ∨ (lk B i = none ∧ memB md i = false ∧ memB σ0.ids i = true ∧ σ0.mem i = some ob))) ∨ ∃ j, i = σ0.next + j ∧ M[j]? = some ob := fun i ob hi => by
    simp only [head, headAt] at hi
    cases hb : Nat.blt i σ0.next with
    | true =>
      rw [hb] at hi
      have hlt : i < σ0.next := Nat.le_of_ble_eq_true hb
      simp only at hi
      cases hB : lk B i with
      | some cs => rw [hB] at hi; injection hi with hi; exact .inl ⟨hlt, .inl ⟨cs, rfl, hi.symm⟩⟩
      | none =>
        rw [hB] at hi; simp only at hi
        cases hm : memB md i with
        | true => rw [hm] at hi; cases hi
        | false =>
          rw [hm] at hi; simp only at hi
          cases hm2 : memB σ0.ids i with
          | true => rw [hm2] at hi; exact .inl ⟨hlt, .inr ⟨rfl, rfl, rfl, hi⟩⟩
          | false => rw [hm2] at hi; cases hi
    | false =>
      rw [hb] at hi
      have hge : ¬ i < σ0.next := fun hc => by rw [show Nat.blt i σ0.next = true from Nat.ble_eq_true_of_le hc] at hb; cases hb
      exact .inr ⟨i - σ0.next, by omega, hi⟩
  -- in the state that is there: the object's number and place
  have src : ∀ i ob, (head σ0 hv md E B M).mem i = some ob → (∃ k ob' l, σ.mem k = some ob' ∧ μ k = some l ∧ μ' i = some l ∧ ((i < σ0.next ∧ k = i) ∨ ∃ j, i = σ0.next + j ∧ rn[j]? = some (some k))) ∨ (∃ l, μ' i = some l ∧ ∀ b, ¬ l.has b) := fun i ob hi => by
    rcases hmem i ob hi with ⟨hlt, ⟨cs, hB, _⟩ | ⟨_, h1, h2, h3⟩⟩ | ⟨j, rfl, hj⟩
    · obtain ⟨_, _, ⟨cs0, hc0⟩, _, hO⟩ := f9 _ (lk_mem _ _ _ hB)
      obtain ⟨ob1, hc1⟩ : ∃ ob1, σ.mem i = some ob1 := by
        cases cs with
        | box p => obtain ⟨us, h1, _⟩ := hO; exact ⟨_, h1⟩
        | arr e sz xs => exact ⟨_, hO⟩
        | deep e sz es xs => exact ⟨_, hO⟩
        | dirt e sz es xs idx row => exact hO.elim
      obtain ⟨l0, hl0, _⟩ := he.ob i _ hc0
      obtain ⟨l, q1, _, q2⟩ := hμe i l0 hl0
      exact .inl ⟨i, _, l, hc1, q1, q2, .inl ⟨hlt, rfl⟩⟩
    · obtain ⟨l0, hl0, _⟩ := he.ob i _ h3
      obtain ⟨l, q1, _, q2⟩ := hμe i l0 hl0
      exact .inl ⟨i, ob, l, by rw [hkept i h1 h2]; exact h3, q1, q2, .inl ⟨hlt, rfl⟩⟩
    · have hjl : j < rn.length := by rw [f2]; exact (List.getElem?_eq_some_iff.1 hj).1
      cases hr : rn[j]? with
      | none => rw [List.getElem?_eq_none_iff] at hr; omega
      | some r =>
        cases r with
        | some k =>
          have hk := f5 j k hr
          obtain ⟨l, hl, _⟩ := h.ob k ob (by rw [hk]; exact hj)
          exact .inl ⟨k, ob, l, by rw [hk]; exact hj, hl, by rw [hhi, hr]; exact hl, .inr ⟨j, rfl, hr⟩⟩
        | none =>
          obtain ⟨eo, hM, _⟩ := f6 j hr
          exact .inr ⟨⟨none, 0, 0, eo.sz0, []⟩, by rw [hhi, hr, hM], fun b hb => by cases has_flat hb⟩
  have hAlt : ∀ b, A b → b < w.heap.size := fun b hb => (h.hA b hb).1
  refine ⟨μ', ⟨h.tm, h.df, fun t => ?_, h.os, h.tape, h.out, h.size, h.old, h.hA, h.sub, fun i ob hi => ?_, fun i j li lj b hi hj h1 h2 h3 h4 => ?_, fun i hi => ?_⟩, ⟨hx.cell, hx.sub, fun i l hi hl => (by
    obtain ⟨l', q1, _, q2⟩ := hμe i l hl
    rw [hx.mu0 i l hi hl] at q1; injection q1 with q1; subst q1; exact q2), fun i l hl => (by
    obtain ⟨l', q1, q3, q2⟩ := hμe i l hl
    exact ⟨l', q2, q3⟩), hx.tm⟩⟩
  · show Rv w A μ' (match lk E t with | some v => v.ren1 (σ0.next + ·) | none => match memB hv t with | true => .und | false => kd (σ0.env t)) _
    cases hE : lk E t with
    | some v => exact hmt _ v _ (f1 _ (lk_mem _ _ _ hE)) (h.env t)
    | none =>
      simp only
      cases hh : memB hv t with
      | true => exact .c (.und _)
      | false =>
        simp only
        have hnt : t ∉ hv := fun hm => by rw [(memB_iff _ _).2 hm] at hh; cases hh
        have e1 : a.tmps.getD t undef = ae.tmps.getD t undef := by simp [Array.getD_eq_getD_getElem?, hx.tm t hnt]
        rw [e1]
        unfold kd
        cases hnd : (σ0.env t).nod with
        | true => exact (he.env t).monoC hx.sub hcell (fun i l hi => (hμe i l hi).imp fun _ h => ⟨h.2.2, h.2.1⟩) hnd
        | false => exact .c (.und _)
  · rcases hmem i ob hi with ⟨hlt, ⟨cs, hB, rfl⟩ | ⟨_, h1, h2, h3⟩⟩ | ⟨j, rfl, hj⟩
    · obtain ⟨_, _, ⟨cs0, hc0⟩, _, hO⟩ := f9 _ (lk_mem _ _ _ hB)
      obtain ⟨l0, hl0, _⟩ := he.ob i _ hc0
      obtain ⟨l, p1, _, p2⟩ := hμe i l0 hl0
      cases cs with
      | arr e sz xs =>
        obtain ⟨l1, hl1, ho1, hb1⟩ := h.ob i _ hO
        rw [p1] at hl1; injection hl1 with hl1; subst hl1
        exact ⟨l, p2, ho1, hb1⟩
      | deep e sz es xs =>
        obtain ⟨l1, hl1, ho1, hb1⟩ := h.ob i _ hO
        rw [p1] at hl1; injection hl1 with hl1; subst hl1
        exact ⟨l, p2, ho1, hb1⟩
      | dirt e sz es xs idx row => exact hO.elim
      | box cs =>
      obtain ⟨cs1, hc1, hml⟩ := hO
      obtain ⟨l1, hl1, ho1, hb1⟩ := h.ob i _ hc1
      rw [p1] at hl1; injection hl1 with hl1; subst hl1
      refine ⟨l, p2, ?_, hb1⟩
      obtain ⟨b, arr, el, q1, q2, q3, q4⟩ := ho1
      obtain ⟨g1, g2⟩ := mtL_get _ _ hml
      refine ⟨b, arr, el, q1, q2, by rw [q3, g1]; simp, fun k u c hk hc => ?_⟩
      simp at hk
      obtain ⟨v, hv', rfl⟩ := hk
      have hlt' : k < cs1.length := by rw [g1]; exact (List.getElem?_eq_some_iff.1 hv').1
      exact hmt _ v c (g2 k _ v (List.getElem?_eq_getElem hlt') hv') (q4 k _ c (List.getElem?_eq_getElem hlt') hc)
    · obtain ⟨l0, hl0, hoe, _⟩ := he.ob i _ h3
      obtain ⟨l, p1, _, p2⟩ := hμe i l0 hl0
      obtain ⟨l1, hl1, ho1, hb1⟩ := h.ob i ob (by rw [hkept i h1 h2]; exact h3)
      rw [p1] at hl1; injection hl1 with hl1; subst hl1
      refine ⟨l, p2, ?_, hb1⟩
      have hμs : ∀ i l, μe i = some l → ∃ l', μ i = some l' ∧ μ' i = some l' := fun i l hi => (hμe i l hi).imp fun _ h => ⟨h.1, h.2.2⟩
      cases ob with
      | arr e sz xs => exact ho1
      | deep e sz es xs => exact ho1
      | dirt e sz es xs idx row =>
        obtain ⟨z1, z2, z3, z4, z5, cs, z6, z7, z8⟩ := ho1
        obtain ⟨y1, y2, y3, y4, y5, cse, y6, y7, y8⟩ := hoe
        refine ⟨z1, z2, z3, z4, z5, cs, z6, z7, fun k u c hk hc => (z8 k u c hk hc).imp id (fun hq => ⟨hq.1, hq.2.1, ?_⟩)⟩
        have hlt : k < cse.length := by
          have := (List.getElem?_eq_some_iff.1 hk).1
          rw [flat_len _ z5, ← y4] at this
          rw [y6.1]; exact this
        rcases y8 k u _ hk (List.getElem?_eq_getElem hlt) with q | q
        · exact absurd hq.1 q.1
        · exact hq.2.2.shrink hμs q.2.2
      | box cs =>
        obtain ⟨b, arr, el, q1, q2, q3, q4⟩ := ho1
        obtain ⟨be, arre, ele, r1, r2, r3, r4⟩ := hoe
        refine ⟨b, arr, el, q1, q2, q3, fun k u c hk hc => ?_⟩
        have hlt' : k < arre.size := by rw [r3]; exact (List.getElem?_eq_some_iff.1 hk).1
        exact (q4 k u c hk hc).shrink hμs (r4 k u _ hk (Array.getElem?_eq_getElem hlt'))
    · have hjl : j < rn.length := by rw [f2]; exact (List.getElem?_eq_some_iff.1 hj).1
      cases hr : rn[j]? with
      | none => rw [List.getElem?_eq_none_iff] at hr; omega
      | some r =>
        have hia := List.all_eq_true.1 f8 ob (List.mem_of_getElem? hj)
        cases r with
        | some k =>
          obtain ⟨l, hl, ho, hb⟩ := h.ob k _ (by rw [f5 j k hr]; exact hj)
          exact ⟨l, by rw [hhi, hr]; exact hl, ObOk.re hia ho, hb⟩
        | none =>
          obtain ⟨eo, hM, he0⟩ := f6 j hr
          rw [hj] at hM; injection hM with hM; subst hM
          exact ⟨⟨none, 0, 0, ob.sz0, []⟩, by rw [hhi, hr, hj], emp_ok he0, fun b hb => by cases has_flat hb⟩
  · obtain ⟨oi, hoi⟩ := Option.ne_none_iff_exists'.1 hi
    obtain ⟨oj, hoj⟩ := Option.ne_none_iff_exists'.1 hj
    rcases src i oi hoi with ⟨ki, o1, l1, a1, a2, a3, a4⟩ | ⟨l1, a3, a4⟩
    · rcases src j oj hoj with ⟨kj, o2, l2, b1, b2, b3, b4⟩ | ⟨l2, b3, b4⟩
      · rw [h1] at a3; injection a3 with a3; subst a3
        rw [h2] at b3; injection b3 with b3; subst b3
        have hk := h.ap ki kj li lj b (by rw [a1]; simp) (by rw [b1]; simp) a2 b2 h3 h4
        subst hk
        have cross : ∀ i j oi, (head σ0 hv md E B M).mem i = some oi → i < σ0.next → rn[j]? = some (some i) → False := fun i j oi hoi hlt hr => by
          rcases hmem i oi hoi with ⟨_, ⟨cs, hB, _⟩ | ⟨_, q1, q2, _⟩⟩ | ⟨j', e, _⟩
          · obtain ⟨_, _, _, q, _⟩ := f9 _ (lk_mem _ _ _ hB)
            exact q (hkm j i hr)
          · have := f4 i (hkm j i hr) q2
            rw [q1] at this; cases this
          · omega
        rcases a4 with ⟨p1, p2⟩ | ⟨ja, p1, p2⟩ <;> rcases b4 with ⟨r1, r2⟩ | ⟨jb, r1, r2⟩
        · rw [← p2, ← r2]
        · subst p2; exact (cross _ _ oi hoi p1 r2).elim
        · subst r2; exact (cross _ _ oj hoj r1 p2).elim
        · rw [p1, r1, hinj ja jb ki p2 r2]
      · rw [h2] at b3; injection b3 with b3; subst b3; exact absurd h4 (b4 b)
    · rw [h1] at a3; injection a3 with a3; subst a3; exact absurd h3 (a4 b)
  · show i < σ0.next + M.length
    by_cases hlt : i < σ0.next
    · omega
    · have e : i = σ0.next + (i - σ0.next) := by omega
      rw [e, hhi] at hi
      cases hr : rn[i - σ0.next]? with
      | none => rw [hr] at hi; exact absurd rfl hi
      | some r => have := (List.getElem?_eq_some_iff.1 hr).1; omega
end
end Go.Aw

set_option linter.unusedVariables false
namespace Go.Aw
section
variable {P : Program} {G : Nat → Option Obj} {T : TypeId → Option TI} {w0 : World} {X A0 : Nat → Prop} {N : Nat}

theorem CE_get {mem : Nat → Option Ob} {fz : List Nat} {env : Nat → V} : ∀ (E : List (Nat × V)) (t : Nat) (v : V), CE mem fz env E → lk E t = some v → FzG mem fz (env t) v
  | [], t, v, _, h => by cases h
  | (k, y) :: l, t, v, ⟨h1, h2⟩, h => by
    simp only [lk] at h
    cases hb : Nat.beq k t with
    | true => rw [hb] at h; injection h with h; subst h; have := Nat.eq_of_beq_eq_true hb; subst this; exact h1
    | false => rw [hb] at h; exact CE_get l t v h2 h
theorem CB_get {mem : Nat → Option Ob} {fz : List Nat} : ∀ (B : List (Nat × Ob)) (i : Nat) (ob : Ob), CB mem fz B → lk B i = some ob → FzB mem fz i (mem i) ob
  | [], i, ob, _, h => by cases h
  | (k, y) :: l, i, ob, ⟨h1, h2⟩, h => by
    simp only [lk] at h
    cases hb : Nat.beq k i with
    | true => rw [hb] at h; injection h with h; subst h; have := Nat.eq_of_beq_eq_true hb; subst this; exact h1
    | false => rw [hb] at h; exact CB_get l i ob h2 h
theorem FzB.ne {mem : Nat → Option Ob} {fz : List Nat} {i : Nat} {o : Option Ob} {ob : Ob} (h : FzB mem fz i o ob) : o ≠ none := by
  rcases h with h | h
  · rw [h]; simp
  · cases ob with
    | box vs => obtain ⟨us, e, _⟩ := h; rw [e]; simp
    | arr e sz xs => exact h.elim
    | deep e sz es vs => obtain ⟨_, _, _, _, e, _⟩ := h; rw [e]; simp
    | dirt e sz es xs idx row => exact h.elim
theorem FL_len {mem : Nat → Option Ob} {fz : List Nat} : ∀ (us vs : List V), FL mem fz us vs → us.length = vs.length
  | [], [], _ => rfl
  | u :: us, v :: vs, h => by rw [List.length_cons, List.length_cons, FL_len us vs h.2]
  | [], _ :: _, h => h.elim
  | _ :: _, [], h => h.elim
theorem FL_get {mem : Nat → Option Ob} {fz : List Nat} : ∀ (us vs : List V) (i : Nat) (v : V), FL mem fz us vs → vs[i]? = some v → ∃ u, us[i]? = some u ∧ Fz mem fz u v
  | [], [], i, v, _, h => by simp at h
  | u :: us, y :: vs, 0, v, h, e => by
    rw [List.getElem?_cons_zero] at e
    injection e with e; subst e
    exact ⟨u, List.getElem?_cons_zero, h.1⟩
  | u :: us, y :: vs, i + 1, v, h, e => by
    rw [List.getElem?_cons_succ] at e ⊢
    exact FL_get us vs i v h.2 e
  | [], _ :: _, _, _, h, _ => h.elim
  | _ :: _, [], _, _, h, _ => h.elim
/-- what is written lies in the first n objects -/
def XB (n : Nat) (X : Nat → Prop) (μ : Nat → Option Loc) : Prop := ∀ b, X b → ∃ m l, m < n ∧ μ m = some l ∧ l.has b
theorem XB.mono {n : Nat} {μ μ' : Nat → Option Loc} (h : XB n X μ) (hm : ∀ i l, i < n → μ i = some l → μ' i = some l) : XB n X μ' := fun b hb =>
  let ⟨m, l, h1, h2, h3⟩ := h b hb
  ⟨m, l, h1, hm _ _ h1 h2, h3⟩
theorem low_core {n0 : Nat} {σ : St} {a : Act} {w : World} {A : Nat → Prop} {μ μ' : Nat → Option Loc} {n : Nat} {E : List (Nat × V)} {B : List (Nat × Ob)} {fz : List Nat} {mrg tg : Nat → Prop} (hX : fz = [] ∨ (XB n0 X μ ∧ keeps n0 B = true)) (h : Ok w0 X A0 N (fun j => j < σ.next) σ a w A μ)
    (hf : (B.all fun p => !memB fz p.1) = true) (hn : σ.next = n) (he : CE σ.mem fz σ.env E) (hb : CB σ.mem fz B)
    (hμ : ∀ i l, μ i = some l → ∃ l', μ' i = some l' ∧ Core l l') (hμr : ∀ i l', μ' i = some l' → ∃ l, μ i = some l ∧ Core l l' ∧ ∀ b, l'.has b → l.has b ∨ (tg i ∧ ∃ m lm om, mrg m ∧ σ.mem m = some om ∧ μ m = some lm ∧ lm.has b))
    (htg : ∀ i j, tg i → tg j → i = j) (hmrg : ∀ m, mrg m → memB fz m = false ∧ lk B m = none ∧ n0 ≤ m) (hmu0 : ∀ i l, i < n0 → μ i = some l → μ' i = some l)
    (hE : ∀ (A' : Nat → Prop) t v, lk E t = some v → ∀ x, Rv w A' μ v x → Rv w A' μ' v x) (hBx : ∀ (A' : Nat → Prop) i cs, lk B i = some (.box cs) → ∀ u ∈ cs, ∀ x, Rv w A' μ u x → Rv w A' μ' u x)
    (hO : ∀ (A' : Nat → Prop), (∀ b, A b → A' b) → ∀ i ob l', lk B i = some ob → (∀ cs, ob ≠ .box cs) → μ' i = some l' → ObOk w A' μ' l' ob) :
    ∃ A', Ok w0 X A0 N (fun j => j < (low n E B).next) (low n E B) a w A' μ' ∧ ExtW n0 [] a w A μ a w A' μ' := by
  have some_of : ∀ i, (low n E B).mem i ≠ none → σ.mem i ≠ none := fun i hi => by
    obtain ⟨ob, ho⟩ := Option.ne_none_iff_exists'.1 hi
    exact (CB_get B i ob hb ho).ne
  let A' : Nat → Prop := fun b => A b ∨ ∃ i l ob, memB fz i = true ∧ σ.mem i = some ob ∧ μ i = some l ∧ l.has b
  have hsub : ∀ b, A b → A' b := fun b hb => .inl hb
  have hnew : ∀ b i l ob, memB fz i = true → σ.mem i = some ob → μ i = some l → l.has b → b < w.heap.size ∧ w0.heap.size ≤ b := fun b i l ob h1 h2 h3 h4 => by
    obtain ⟨l', hl', _, hbb⟩ := h.ob i ob h2
    rw [h3] at hl'; injection hl' with hl'; subst hl'
    obtain ⟨q1, _, q3⟩ := hbb b h4
    refine ⟨q1, q3.resolve_left (fun hXb => ?_)⟩
    rcases hX with hX | ⟨hX, hk⟩
    · rw [hX] at h1; cases h1
    · obtain ⟨m, lm, m1, m2, m3⟩ := hX b hXb
      have := List.all_eq_true.1 hk m (List.mem_range.2 m1)
      obtain ⟨obm, hobm⟩ := Option.isSome_iff_exists.1 this
      have := h.ap i m l lm b (by rw [h2]; simp) (CB_get B m obm hb hobm).ne h3 m2 h4 m3
      subst this
      have := List.all_eq_true.1 hf _ (lk_mem B i obm hobm)
      rw [h1] at this; cases this
  have leaf : ∀ (u v : V) (x : Value), Fz σ.mem fz u v → Rv w A μ u x → Rv w A' μ v x := fun u v x e hu => by
    rcases e with e | e
    · rw [← e]; exact hu.mono hsub (fun _ _ _ h => h) (fun _ _ h => h)
    · cases v with
      | sl sz n xs =>
        obtain ⟨i, len, e', e1, e2, e3, e4⟩ := e
        rw [e1] at hu
        obtain ⟨l, hl, hlen, hve⟩ := hu.own_inv
        obtain ⟨l', hl', hob, _⟩ := h.ob i _ e2
        obtain rfl : l' = l := by rw [hl] at hl'; injection hl' with e; exact e.symm
        rw [hve]
        obtain rfl : n = l'.len := by
          have := hob.2.1
          rcases e4 with e4 | e4 <;> omega
        exact .c (rc_arr hob hsub (fun b hb => .inr ⟨i, l', _, e3, e2, hl, hb⟩))
      | _ => exact e.elim
  -- blocks of what is told
  have fin : ∀ (i : Nat) (ob0 ob : Ob) (l' : Loc), lk B i = some ob → σ.mem i = some ob0 → μ' i = some l' → ∀ b, l'.has b → b < w.heap.size ∧ ¬ A' b ∧ (X b ∨ w0.heap.size ≤ b) := fun i ob0 ob l' hi hm hl' b hb' => by
    obtain ⟨l, hl, _, hhas⟩ := hμr i l' hl'
    rcases hhas b hb' with hb2 | ⟨_, m, lm, om, q1, q2, q3, q4⟩
    · obtain ⟨l2, hl2, _, hbb⟩ := h.ob i ob0 hm
      rw [hl] at hl2; injection hl2 with hl2; subst hl2
      refine ⟨(hbb b hb2).1, fun hA => ?_, (hbb b hb2).2.2⟩
      rcases hA with hA | ⟨i2, l2, ob2, h1, h2, h3, h4⟩
      · exact (hbb b hb2).2.1 hA
      · have := h.ap i i2 l l2 b (by rw [hm]; simp) (by rw [h2]; simp) hl h3 hb2 h4
        subst this
        have := List.all_eq_true.1 hf _ (lk_mem B i ob hi)
        rw [h1] at this; cases this
    · obtain ⟨l2, hl2, _, hbb⟩ := h.ob m om q2
      rw [q3] at hl2; injection hl2 with hl2; subst hl2
      refine ⟨(hbb b q4).1, fun hA => ?_, (hbb b q4).2.2⟩
      rcases hA with hA | ⟨i2, l2, ob2, h1, h2, h3, h4⟩
      · exact (hbb b q4).2.1 hA
      · have := h.ap m i2 lm l2 b (by rw [q2]; simp) (by rw [h2]; simp) q3 h3 q4 h4
        subst this
        rw [(hmrg m q1).1] at h1; cases h1
  refine ⟨A', ⟨h.tm, h.df, fun t => ?_, h.os, h.tape, h.out, h.size, h.old, fun b hb => ?_, fun b hb => .inl (h.sub b hb), fun i ob hi => ?_, fun i j li lj b hi hj h1 h2 h3 h4 => ?_, fun i hi => ?_⟩, ⟨fun _ _ _ h => h, hsub, hmu0, hμ, fun _ _ => rfl⟩⟩
  · show Rv w A' μ' (match lk E t with | some v => v | none => .und) _
    cases hlk : lk E t with
    | some v =>
      refine hE A' t v hlk _ ?_
      rcases CE_get E t v he hlk with e | e
      · exact leaf _ _ _ e (h.env t)
      · cases v with
        | agg vs =>
          obtain ⟨us, e1, e2⟩ := e
          have hu := h.env t
          rw [e1] at hu
          obtain ⟨cs, hcs, hs, hr⟩ := hu.agg_inv
          show Rv w A' μ (.agg vs) _
          rw [hcs]
          refine .agg vs cs (by rw [hs, FL_len us vs e2]) (fun i x c hx hc => ?_)
          obtain ⟨u, hu1, hu2⟩ := FL_get us vs i x e2 hx
          exact leaf _ _ _ hu2 (hr i u c hu1 hc)
        | _ => exact e.elim
    | none => exact .c (.und _)
  · rcases hb with hb | ⟨i, l, ob, h1, h2, h3, h4⟩
    · exact h.hA b hb
    · exact ⟨(hnew b i l ob h1 h2 h3 h4).1, .inr (hnew b i l ob h1 h2 h3 h4).2⟩
  · have hi' : lk B i = some ob := hi
    have hcb := CB_get B i ob hb hi'
    obtain ⟨ob0, hm0⟩ := Option.ne_none_iff_exists'.1 hcb.ne
    obtain ⟨l, hl, hob0, _⟩ := h.ob i ob0 hm0
    obtain ⟨l', hl', hc⟩ := hμ i l hl
    refine ⟨l', hl', ?_, fin i ob0 ob l' hi' hm0 hl'⟩
    by_cases hbx : ∃ cs, ob = .box cs
    · obtain ⟨vs, rfl⟩ := hbx
      have box : ∀ us, σ.mem i = some (.box us) → (us.length = vs.length) → (∀ j v, vs[j]? = some v → ∃ u, us[j]? = some u ∧ Fz σ.mem fz u v) → ObOk w A' μ' l' (.box vs) := fun us e1 e2 e3 => by
        rw [hm0] at e1; injection e1 with e1; subst e1
        obtain ⟨b, arr, el, o1, o2, o3, o4⟩ := hob0
        refine ⟨b, arr, el, hc.1.trans o1, o2, by rw [o3, e2], fun j x c hx hcc => ?_⟩
        obtain ⟨u, hu1, hu2⟩ := e3 j x hx
        exact hBx A' i vs hi' x (List.mem_of_getElem? hx) c (leaf _ _ _ hu2 (o4 j u c hu1 hcc))
      rcases hcb with e | e
      · exact box vs e rfl (fun j v hv => ⟨v, hv, .inl rfl⟩)
      · obtain ⟨us, e1, e2⟩ := e
        exact box us e1 (FL_len us vs e2) (fun j v hv => FL_get us vs j v e2 hv)
    · exact hO A' hsub i ob l' hi' (fun cs e => hbx ⟨cs, e⟩) hl'
  · obtain ⟨oi, hoi⟩ := Option.ne_none_iff_exists'.1 hi
    obtain ⟨oj, hoj⟩ := Option.ne_none_iff_exists'.1 hj
    obtain ⟨l1, g1, _, k1⟩ := hμr i li h1
    obtain ⟨l2, g2, _, k2⟩ := hμr j lj h2
    rcases k1 b h3 with k1 | ⟨t1, m1, lm1, om1, a1, a2, a3, a4⟩ <;> rcases k2 b h4 with k2 | ⟨t2, m2, lm2, om2, b1, b2, b3, b4⟩
    · exact h.ap i j l1 l2 b (some_of i hi) (some_of j hj) g1 g2 k1 k2
    · have := h.ap i m2 l1 lm2 b (some_of i hi) (by rw [b2]; simp) g1 b3 k1 b4
      subst this
      have e1 : lk B i = some oi := hoi
      rw [(hmrg i b1).2.1] at e1; cases e1
    · have := h.ap j m1 l2 lm1 b (some_of j hj) (by rw [a2]; simp) g2 a3 k2 a4
      subst this
      have e1 : lk B j = some oj := hoj
      rw [(hmrg j a1).2.1] at e1; cases e1
    · exact htg i j t1 t2
  · show i < n
    rw [← hn]
    obtain ⟨l', hl'⟩ := Option.ne_none_iff_exists'.1 hi
    obtain ⟨l, hl, _⟩ := hμr i l' hl'
    exact h.bd i (by rw [hl]; simp)
theorem find_ent (ent : Nat → Hd) (base : Nat) (he : ∀ j, (ent j).k = base + j) (off : Nat) : ∀ n, off < n → ((List.range n).map ent).find? (fun h => Nat.beq h.k (base + off)) = some (ent off)
  | 0, h => by omega
  | n + 1, h => by
    rw [List.range_succ, List.map_append, List.find?_append]
    by_cases c : off < n
    · rw [find_ent ent base he off n c]; rfl
    · have e : off = n := by omega
      subst e
      have : ((List.range off).map ent).find? (fun h => Nat.beq h.k (base + off)) = none := by
        rw [List.find?_eq_none]
        intro x hx
        obtain ⟨j, hj, rfl⟩ := List.mem_map.1 hx
        have := List.mem_range.1 hj
        intro hc
        have : (ent j).k = base + off := Nat.eq_of_beq_eq_true hc
        rw [he] at this
        omega
      rw [this]
      simp [he]
theorem find_ent_none (ent : Nat → Hd) (base : Nat) (he : ∀ j, (ent j).k = base + j) (k n : Nat) (hk : k < base ∨ base + n ≤ k) : ((List.range n).map ent).find? (fun h => Nat.beq h.k k) = none := by
  rw [List.find?_eq_none]
  intro x hx
  obtain ⟨j, hj, rfl⟩ := List.mem_map.1 hx
  have := List.mem_range.1 hj
  intro hc
  have : (ent j).k = k := Nat.eq_of_beq_eq_true hc
  rw [he] at this
  omega
theorem mgL_get {mem : Nat → Option Ob} {fz : List Nat} {es : List TypeId} : ∀ (us vs : List V) (j : Nat), MgL mem fz es j us vs → us.length = vs.length ∧ ∀ (i : Nat) (u : V), us[i]? = some u → ∃ v, vs[i]? = some v ∧ Mg mem fz (es.getD (j + i) 0) u v
  | [], [], j, _ => ⟨rfl, fun i u h => by simp at h⟩
  | u :: us, v :: vs, j, h => by
    obtain ⟨g1, g2⟩ := mgL_get us vs (j + 1) h.2
    refine ⟨by simp [g1], fun i u' hu => ?_⟩
    cases i with
    | zero => simp at hu; subst hu; exact ⟨v, rfl, h.1⟩
    | succ i =>
      obtain ⟨v', h1, h2⟩ := g2 i u' (by simpa using hu)
      exact ⟨v', by simpa using h1, by rwa [show j + (i + 1) = j + 1 + i by omega]⟩
  | [], _ :: _, _, h => h.elim
  | _ :: _, [], _, h => h.elim
theorem rowIds_mem : ∀ (row : List V) (i m n : Nat), row[i]? = some (.own m n) → m ∈ rowIds row
  | [], i, m, n, h => by simp at h
  | u :: row, 0, m, n, h => by
    simp at h; subst h; exact List.mem_cons_self ..
  | u :: row, i + 1, m, n, h => by
    have := rowIds_mem row i m n (by simpa using h)
    unfold rowIds
    split <;> first | exact List.mem_cons_of_mem _ (by simp_all) | simp_all
theorem rowIds_inj : ∀ (row : List V) (i j m n n' : Nat), (rowIds row).Nodup → row[i]? = some (.own m n) → row[j]? = some (.own m n') → i = j
  | [], i, j, m, n, n', _, h, _ => by simp at h
  | u :: row, i, j, m, n, n', hd, h1, h2 => by
    have hd' : (rowIds row).Nodup := by
      unfold rowIds at hd
      split at hd <;> simp_all
    cases i with
    | zero =>
      cases j with
      | zero => rfl
      | succ j =>
        simp at h1; subst h1
        have := rowIds_mem row j m n' (by simpa using h2)
        exact absurd this (List.nodup_cons.1 (show (m :: rowIds row).Nodup from hd)).1
    | succ i =>
      cases j with
      | zero =>
        simp at h2; subst h2
        have := rowIds_mem row i m n (by simpa using h1)
        exact absurd this (List.nodup_cons.1 (show (m :: rowIds row).Nodup from hd)).1
      | succ j => rw [rowIds_inj row i j m n n' hd' (by simpa using h1) (by simpa using h2)]
theorem two_eq {l : List Nat} {p : Nat → Bool} (h : (l.filter p).length ≤ 1) {x y : Nat} (hx : x ∈ l) (hy : y ∈ l) (px : p x = true) (py : p y = true) : x = y := by
  have h1 := List.mem_filter.2 ⟨hx, px⟩
  have h2 := List.mem_filter.2 ⟨hy, py⟩
  match hl : l.filter p, h with
  | [], _ => rw [hl] at h1; cases h1
  | [z], _ =>
    rw [hl] at h1 h2
    simp at h1 h2
    rw [h1, h2]
  | _ :: _ :: _, h => simp at h
theorem low_ok {n0 : Nat} {σ : St} {a : Act} {w : World} {A : Nat → Prop} {μ : Nat → Option Loc} {n : Nat} {E : List (Nat × V)} {B : List (Nat × Ob)} {fz : List Nat} (hX : fz = [] ∨ (XB n0 X μ ∧ (keeps n0 B && mgOk n0 E B fz) = true)) (h : Ok w0 X A0 N (fun j => j < σ.next) σ a w A μ)
    (hf : (B.all fun p => !memB fz p.1) = true) (hn : σ.next = n) (he : CE σ.mem fz σ.env E) (hb : CB σ.mem fz B) :
    ∃ A' μ', Ok w0 X A0 N (fun j => j < (low n E B).next) (low n E B) a w A' μ' ∧ ExtW n0 [] a w A μ a w A' μ' := by
  have hX' : fz = [] ∨ (XB n0 X μ ∧ keeps n0 B = true) := hX.imp id fun h => ⟨h.1, (Bool.and_eq_true _ _ ▸ h.2).1⟩
  by_cases hT : ∃ i e sz es xs idx row row', lk B i = some (.deep e sz es (xs.set idx row')) ∧ σ.mem i = some (.dirt e sz es xs idx row) ∧ (rowIds row).Nodup ∧ MgL σ.mem fz es 0 row row' ∧ memB fz (i + 2000000000) = true
  · obtain ⟨T, e, sz, es, xs, idx, row, row', t1, t2, t3, t4, t5⟩ := hT
    have hany : fz.any (Nat.ble 1000000000) = true := List.any_eq_true.2 ⟨_, (memB_iff _ _).1 t5, Nat.ble_eq_true_of_le (by omega)⟩
    have hmg : mgOk n0 E B fz = true := by
      rcases hX with hX | hX
      · rw [hX] at t5; cases t5
      · exact (Bool.and_eq_true _ _ ▸ hX.2).2
    unfold mgOk at hmg
    rw [hany] at hmg
    simp only [Bool.and_eq_true] at hmg
    obtain ⟨⟨⟨⟨m1, m2⟩, m3⟩, m4⟩, m5⟩ := hmg
    have hmk : ∀ m, memB fz (m + 1000000000) = true → memB fz m = false ∧ lk B m = none ∧ n0 ≤ m := fun m hm => by
      have := List.all_eq_true.1 m2 _ ((memB_iff _ _).1 hm)
      rw [show Nat.ble 1000000000 (m + 1000000000) = true from Nat.ble_eq_true_of_le (by omega)] at this
      simp only [Nat.add_sub_cancel, Bool.and_eq_true, Bool.not_eq_true'] at this
      obtain ⟨⟨q1, q2⟩, q3⟩ := this
      refine ⟨q3, ?_, by have := Nat.le_of_ble_eq_true q1; omega⟩
      cases hl : lk B m with
      | none => rfl
      | some x => rw [hl] at q2; cases q2
    have hTn : n0 ≤ T := by
      have := List.all_eq_true.1 m3 _ ((memB_iff _ _).1 t5)
      rw [show Nat.ble 2000000000 (T + 2000000000) = true from Nat.ble_eq_true_of_le (by omega)] at this
      have := Nat.le_of_ble_eq_true this
      omega
    obtain ⟨l, hl, ⟨hH, hidx, r1, r2, r3, cs, r4, r5, r6⟩, hbb⟩ := h.ob T _ t2
    obtain ⟨g1, g2⟩ := mgL_get row row' 0 t4
    have hrowm : row ∈ xs.set idx row := List.mem_of_getElem? (List.getElem?_set_self hidx)
    have hrow : row.length = sz := r3 row hrowm
    let ent : Nat → Hd := fun off => match row[off]? with
      | some (.own m _) => (match μ m with | some lm => ⟨idx * sz + off, lm.b, lm.len, lm.cap⟩ | none => ⟨idx * sz + off, none, 0, 0⟩)
      | _ => ⟨idx * sz + off, none, 0, 0⟩
    have hek : ∀ j, (ent j).k = idx * sz + j := fun j => by
      show (match row[j]? with | some (.own m _) => (match μ m with | some lm => (⟨idx * sz + j, lm.b, lm.len, lm.cap⟩ : Hd) | none => ⟨idx * sz + j, none, 0, 0⟩) | _ => ⟨idx * sz + j, none, 0, 0⟩).k = _
      split
      · split <;> rfl
      · rfl
    have heo : ∀ j m len lm, row[j]? = some (.own m len) → μ m = some lm → ent j = ⟨idx * sz + j, lm.b, lm.len, lm.cap⟩ := fun j m len lm h1 h2 => by
      show (match row[j]? with | some (.own m _) => (match μ m with | some lm => (⟨idx * sz + j, lm.b, lm.len, lm.cap⟩ : Hd) | none => ⟨idx * sz + j, none, 0, 0⟩) | _ => ⟨idx * sz + j, none, 0, 0⟩) = _
      rw [h1]
      simp only
      rw [h2]
    have heb : ∀ j b, (ent j).b = some b → ∃ m len lm, row[j]? = some (.own m len) ∧ μ m = some lm ∧ lm.b = some b := fun j b hb' => by
      have : (match row[j]? with | some (.own m _) => (match μ m with | some lm => (⟨idx * sz + j, lm.b, lm.len, lm.cap⟩ : Hd) | none => ⟨idx * sz + j, none, 0, 0⟩) | _ => ⟨idx * sz + j, none, 0, 0⟩).b = some b := hb'
      split at this
      · rename_i m len h1
        split at this
        · rename_i lm h2
          exact ⟨m, len, lm, h1, h2, this⟩
        · cases this
      · cases this
    let l' : Loc := ⟨l.b, l.len, l.cap, l.sz, (List.range sz).map ent ++ l.fp⟩
    have hdin : ∀ off, off < sz → l'.hd (idx * sz + off) = some (ent off) := fun off ho => by
      show ((List.range sz).map ent ++ l.fp).find? _ = _
      rw [List.find?_append, find_ent ent (idx * sz) hek off sz ho]; rfl
    have hdout : ∀ k, k < idx * sz ∨ idx * sz + sz ≤ k → l'.hd k = l.hd k := fun k hk => by
      show ((List.range sz).map ent ++ l.fp).find? _ = l.fp.find? _
      rw [List.find?_append, find_ent_none ent (idx * sz) hek k sz hk]; rfl
    have hcase : ∀ k, (∃ off, off < sz ∧ k = idx * sz + off) ∨ (k < idx * sz ∨ idx * sz + sz ≤ k) := fun k => by
      by_cases c : idx * sz ≤ k ∧ k < idx * sz + sz
      · exact .inl ⟨k - idx * sz, by omega, by omega⟩
      · exact .inr (by omega)
    -- the slices that become the object's
    have hown : ∀ off m len, row[off]? = some (.own m len) → ∃ s ys v n', row'[off]? = some v ∧ v = .sl s n' ys ∧ σ.mem m = some (.arr (es.getD off 0) s ys) ∧ memB fz (m + 1000000000) = true ∧ (n' = len ∨ ys.length = n') ∧ BareO (.arr (es.getD off 0) s ys) := fun off m len hr => by
      obtain ⟨v, h1, h2⟩ := g2 off _ hr
      rw [Nat.zero_add] at h2
      rcases h2 with ⟨h2, h3⟩ | h2
      · rw [← h2] at h3; cases h3
      · cases v with
        | sl s n' ys =>
          rcases h2 with ⟨h2, _⟩ | ⟨m', len', h2, h3, h4, h5, h6⟩
          · cases h2
          · injection h2 with e1 e2; subst e1; subst e2
            exact ⟨s, ys, _, n', h1, rfl, h3, h4, h5, h6⟩
        | _ => exact h2.elim
    let mrg : Nat → Prop := fun m => ∃ (off len : Nat), row[off]? = some (V.own m len)
    have hmT : ∀ m om, σ.mem m = some om → (∃ (off len : Nat), row[off]? = some (V.own m len)) → m ≠ T := fun m om h1 ⟨off, len, h2⟩ e => by
      obtain ⟨s, ys, v, n', _, _, h3, _⟩ := hown off m len h2
      rw [e, t2] at h3; cases h3
    let μ' : Nat → Option Loc := fun i => if i = T then some l' else μ i
    have hμT : μ' T = some l' := if_pos rfl
    have hμo : ∀ i, i ≠ T → μ' i = μ i := fun i hi => if_neg hi
    have hμ : ∀ i l, μ i = some l → ∃ l', μ' i = some l' ∧ Core l l' := fun i li hli => by
      by_cases c : i = T
      · subst c
        rw [hl] at hli; injection hli with hli; subst hli
        exact ⟨l', hμT, rfl, rfl, rfl, rfl⟩
      · exact ⟨li, by rw [hμo i c]; exact hli, Core.refl _⟩
    have hE2 : ∀ (A' : Nat → Prop) (v : V), v.nod = true → ∀ x, Rv w A' μ v x → Rv w A' μ' v x := fun A' v hv x hx => hx.monoC (fun _ h => h) (fun _ _ _ h => h) hμ hv
    -- headers
    have hap : ∀ m lm b, (∃ (off len : Nat), row[off]? = some (V.own m len)) → μ m = some lm → lm.has b → ¬ l.has b := fun m lm b ⟨off, len, h1⟩ h2 h3 h4 => by
      obtain ⟨s, ys, v, n', _, _, h5, _⟩ := hown off m len h1
      have := h.ap m T lm l b (by rw [h5]; simp) (by rw [t2]; simp) h2 hl h3 h4
      exact hmT m _ h5 ⟨off, len, h1⟩ this
    have hH' : HdOk l' := fun k d b hk hdb => by
      rcases hcase k with ⟨off, ho, rfl⟩ | hout
      · rw [hdin off ho] at hk; injection hk with hk; subst hk
        obtain ⟨m, len, lm, q1, q2, q3⟩ := heb off b hdb
        refine ⟨fun hb' => hap m lm b ⟨off, len, q1⟩ q2 (.inl q3) (.inl hb'), fun k2 d2 hk2 hdb2 => ?_⟩
        rcases hcase k2 with ⟨off2, ho2, rfl⟩ | hout2
        · rw [hdin off2 ho2] at hk2; injection hk2 with hk2; subst hk2
          obtain ⟨m', len', lm', p1, p2, p3⟩ := heb off2 b hdb2
          obtain ⟨_, _, _, _, _, _, h5, _⟩ := hown off m len q1
          obtain ⟨_, _, _, _, _, _, h6, _⟩ := hown off2 m' len' p1
          have := h.ap m m' lm lm' b (by rw [h5]; simp) (by rw [h6]; simp) q2 p2 (.inl q3) (.inl p3)
          subst this
          rw [rowIds_inj row off off2 m len len' t3 q1 p1]
        · rw [hdout k2 hout2] at hk2
          exact absurd (Loc.hd_has hk2 hdb2) (hap m lm b ⟨off, len, q1⟩ q2 (.inl q3))
      · rw [hdout k hout] at hk
        refine ⟨(hH k d b hk hdb).1, fun k2 d2 hk2 hdb2 => ?_⟩
        rcases hcase k2 with ⟨off2, ho2, rfl⟩ | hout2
        · rw [hdin off2 ho2] at hk2; injection hk2 with hk2; subst hk2
          obtain ⟨m', len', lm', p1, p2, p3⟩ := heb off2 b hdb2
          exact absurd (Loc.hd_has hk hdb) (hap m' lm' b ⟨off2, len', p1⟩ p2 (.inl p3))
        · rw [hdout k2 hout2] at hk2
          exact (hH k d b hk hdb).2 k2 d2 hk2 hdb2
    have hOT : ObOk w A μ l' (.deep e sz es (xs.set idx row')) := by
      have hu' : ∀ p ∈ xs.set idx row', p.length = sz := fun p hp => by
        obtain ⟨j, hj⟩ := List.getElem?_of_mem hp
        by_cases c : j = idx
        · subst c
          rw [List.getElem?_set_self hidx] at hj; injection hj with hj; subst hj
          rw [← g1]; exact hrow
        · rw [List.getElem?_set_ne (fun e => c e.symm)] at hj
          exact r3 p (List.mem_of_getElem? (by rw [List.getElem?_set_ne (fun e => c e.symm)]; exact hj : (xs.set idx row)[j]? = some p))
      refine ⟨hH', r1, by simpa using r2, hu', cs, r4, r5, fun k u c hk hc => ?_⟩
      obtain ⟨q, k1, k2⟩ := flat_inv _ k u hu' hk
      have hk' : k = k / sz * sz + k % sz := by rw [Nat.mul_comm]; exact (Nat.div_add_mod k sz).symm
      have hpos : 0 < sz := by
        have hq := hu' q (List.mem_of_getElem? k1)
        have := (List.getElem?_eq_some_iff.1 k2).1
        omega
      have hms : k % sz < sz := Nat.mod_lt _ hpos
      by_cases cc : k / sz = idx
      · rw [cc, List.getElem?_set_self hidx] at k1
        injection k1 with k1; subst k1
        obtain ⟨u0, hu0⟩ : ∃ u0, row[k % sz]? = some u0 := ⟨_, List.getElem?_eq_getElem (by omega)⟩
        obtain ⟨v, e1, e2⟩ := g2 _ u0 hu0
        rw [k2] at e1; injection e1 with e1; subst e1
        rw [Nat.zero_add] at e2
        have hfl : (xs.set idx row).flatten[k]? = some u0 := by
          rw [hk', cc]
          exact flat_get _ idx (k % sz) row u0 r3 (List.getElem?_set_self hidx) hu0
        rcases r6 k u0 c hfl hc with q6 | q6
        · exact absurd cc q6.1
        obtain ⟨_, q7, q8⟩ := q6
        have hke : k = idx * sz + k % sz := by rw [← cc]; exact hk'
        rcases e2 with ⟨rfl, hbv⟩ | e2
        · exact dc_bare hbv (shut_rc q8 (bare_shut hbv))
        · cases u with
          | sl s n' ys =>
            rcases e2 with ⟨rfl, rfl, rfl⟩ | ⟨m, len, rfl, e3, e4, e5, e6⟩
            · have := q8.nil_inv; subst this
              refine ⟨ent (k % sz), by rw [hke]; rw [show (idx * sz + k % sz) % sz = k % sz by rw [Nat.mul_comm, Nat.mul_add_mod]; exact Nat.mod_mod _ _]; exact hdin _ hms, ?_⟩
              have : ent (k % sz) = ⟨idx * sz + k % sz, none, 0, 0⟩ := by
                show (match row[k % sz]? with | some (.own m _) => (match μ m with | some lm => (⟨idx * sz + k % sz, lm.b, lm.len, lm.cap⟩ : Hd) | none => ⟨idx * sz + k % sz, none, 0, 0⟩) | _ => ⟨idx * sz + k % sz, none, 0, 0⟩) = _
                rw [hu0]
              rw [this]
              exact ⟨rfl, rfl, rfl, rfl, fun _ h => (by cases h), [], ⟨by simp, .inl ⟨rfl, rfl⟩⟩, fun _ h => (by cases h), fun k u c hk => by simp at hk⟩
            · obtain ⟨lm, f1, f2, f3⟩ := q8.own_inv
              have hent := heo _ m len lm hu0 f1
              obtain ⟨lm', f4, f5, _⟩ := h.ob m _ e3
              rw [f1] at f4; injection f4 with f4; subst f4
              refine ⟨ent (k % sz), by rw [hke]; rw [show (idx * sz + k % sz) % sz = k % sz by rw [Nat.mul_comm, Nat.mul_add_mod]; exact Nat.mod_mod _ _]; exact hdin _ hms, ?_⟩
              rw [hent]
              refine ⟨?_, f3, row_bare (l := lm) (l' := ⟨lm.b, lm.len, lm.cap, s, []⟩) e6 rfl rfl rfl rfl (show Row w lm (es.getD (k % sz) 0) s ys (fun _ => Rc w A) from f5)⟩
              have := f5.2.1
              show lm.len = n'
              rcases e5 with e5 | e5 <;> omega
          | _ => exact e2.elim
      · rw [List.getElem?_set_ne (fun e => cc e.symm)] at k1
        have hfl : (xs.set idx row).flatten[k]? = some u := by
          rw [hk']
          exact flat_get _ _ (k % sz) q u r3 (by rw [List.getElem?_set_ne (fun e => cc e.symm)]; exact k1) k2
        rcases r6 k u c hfl hc with q6 | q6
        · have hD := q6.2
          have hout : k < idx * sz ∨ idx * sz + sz ≤ k := by
            rcases Nat.lt_or_gt_of_ne cc with hlt | hgt
            · left
              have := Nat.mul_le_mul_right sz hlt
              rw [Nat.succ_mul] at this
              omega
            · right
              have := Nat.mul_le_mul_right sz hgt
              rw [Nat.succ_mul] at this
              omega
          cases u with
          | sl s n' ys =>
            obtain ⟨d, f1, f2⟩ := hD
            exact ⟨d, by rw [hdout k hout]; exact f1, f2⟩
          | _ => exact hD
        · exact absurd q6.1 cc
    refine Exists.elim (low_core (μ' := μ') (mrg := mrg) (tg := fun i => i = T) hX' h hf hn he hb hμ (fun i li hli => ?_) (fun i j h1 h2 => h1.trans h2.symm) (fun m ⟨off, len, hr⟩ => ?_) (fun i li hi hli => ?_) (fun A' t v hv x hx => hE2 A' v (List.all_eq_true.1 m4 _ (lk_mem E t v hv)) x hx) (fun A' i cs hcs u hu x hx => ?_) (fun A' hA' i ob li hi hnb hli => ?_)) (fun A' z => ⟨A', μ', z.1, z.2⟩)
    · by_cases c : i = T
      · subst c
        rw [hμT] at hli; injection hli with hli; subst hli
        refine ⟨l, hl, ⟨rfl, rfl, rfl, rfl⟩, fun b hb' => ?_⟩
        rcases hb' with hb' | ⟨d, hd, hdb⟩
        · exact .inl (.inl hb')
        · rcases List.mem_append.1 hd with hd | hd
          · obtain ⟨j, _, rfl⟩ := List.mem_map.1 hd
            obtain ⟨m, len, lm, q1, q2, q3⟩ := heb j b hdb
            obtain ⟨_, _, _, _, _, _, h5, _⟩ := hown j m len q1
            exact .inr ⟨rfl, m, lm, _, ⟨j, len, q1⟩, h5, q2, .inl q3⟩
          · exact .inl (.inr ⟨d, hd, hdb⟩)
      · rw [hμo i c] at hli
        exact ⟨li, hli, Core.refl _, fun b hb' => .inl hb'⟩
    · obtain ⟨_, _, _, _, _, _, _, h6, _⟩ := hown off m len hr
      exact hmk m h6
    · rw [hμo i (by omega)]; exact hli
    · have := List.all_eq_true.1 m5 _ (lk_mem B i _ hcs)
      have := List.all_eq_true.1 (show cs.all V.nd1 = true from this) u hu
      exact hx.monoC1 (fun _ h => h) (fun _ _ _ h => h) hμ this
    · by_cases c : i = T
      · subst c
        rw [hμT] at hli; injection hli with hli; subst hli
        rw [t1] at hi; injection hi with hi; subst hi
        exact hOT
      · rw [hμo i c] at hli
        have hnd := List.all_eq_true.1 m5 _ (lk_mem B i _ hi)
        rcases CB_get B i ob hb hi with e0 | e0
        · obtain ⟨l2, hl2, hob2, _⟩ := h.ob i ob e0
          rw [hli] at hl2; injection hl2 with hl2; subst hl2
          have hia : ob.isA = true := by
            cases ob with
            | box cs => exact absurd rfl (hnb cs)
            | dirt e sz es xs idx row => cases hnd
            | _ => rfl
          exact ObOk.re hia (ObOk.mono (w := w) (w' := w) hA' (fun _ _ _ h => h) (fun _ _ h => h) (fun _ _ => rfl) hob2)
        · cases ob with
          | box cs => exact absurd rfl (hnb cs)
          | arr e sz xs => exact e0.elim
          | dirt e sz es xs idx row => exact e0.elim
          | deep e sz es vs =>
            obtain ⟨_, _, _, _, _, _, _, _, q5⟩ := e0
            have := two_eq (Nat.le_of_ble_eq_true m1) ((memB_iff _ _).1 q5) ((memB_iff _ _).1 t5) (Nat.ble_eq_true_of_le (by omega)) (Nat.ble_eq_true_of_le (by omega))
            omega
  · refine Exists.elim (low_core (μ' := μ) (mrg := fun _ => False) (tg := fun _ => False) hX' h hf hn he hb (fun i l hl => ⟨l, hl, Core.refl l⟩) (fun i l hl => ⟨l, hl, Core.refl l, fun b hb => .inl hb⟩) (fun i j h _ => h.elim) (fun m h => h.elim) (fun _ _ _ h => h) (fun _ _ _ _ _ h => h) (fun _ _ _ _ _ _ _ h => h) (fun A' hA' i ob li hi hnb hli => ?_)) (fun A' z => ⟨A', μ, z.1, z.2⟩)
    · rcases CB_get B i ob hb hi with e0 | e0
      · obtain ⟨l2, hl2, hob2, _⟩ := h.ob i ob e0
        rw [hli] at hl2; injection hl2 with hl2; subst hl2
        exact ObOk.mono (w := w) (w' := w) hA' (fun _ _ _ h => h) (fun _ _ h => h) (fun _ _ => rfl) hob2
      · cases ob with
        | box cs => exact absurd rfl (hnb cs)
        | arr e sz xs => exact e0.elim
        | dirt e sz es xs idx row => exact e0.elim
        | deep e sz es vs =>
          obtain ⟨xs, idx, row, row', q1, q2, q3, q4, q5⟩ := e0
          subst q4
          exact absurd ⟨i, e, sz, es, xs, idx, row, row', hi, q1, q2, q3, q5⟩ hT
/-- what is left at an exit -/
def NextW (n0 : Nat) (w0 : World) (X A0 : Nat → Prop) (N : Nat) (bd : Nat → Prop) (σ' : St) (hv : List Tmp) (a : Act) (w : World) (A : Nat → Prop) (μ : Nat → Option Loc) (a' : Act) (w' : World) : Prop :=
  ∃ A' μ', Ok w0 X A0 N bd σ' a' w' A' μ' ∧ ExtW n0 hv a w A μ a' w' A' μ'
def After (n0 : Nat) (w0 : World) (X A0 : Nat → Prop) (N : Nat) (Q : Exit → St → Prop) (hv : List Tmp) (a : Act) (w : World) (A : Nat → Prop) (μ : Nat → Option Loc) : Exit → Act → World → Prop :=
  fun e a' w' => (∀ c, e ≠ .panic c) ∧ e ≠ .outgrown ∧ ∃ σ', Q e σ' ∧ NextW n0 w0 X A0 N (fun j => j < σ'.next) σ' hv a w A μ a' w'

theorem After.mono {n0 : Nat} {Q : Exit → St → Prop} {hv hv' : List Tmp} {a a1 : Act} {w w1 : World} {A A1 : Nat → Prop} {μ μ1 : Nat → Option Loc} (hx : ExtW n0 hv' a w A μ a1 w1 A1 μ1) (hs : ∀ t ∈ hv', t ∈ hv) {hv2 : List Tmp} (hs2 : ∀ t ∈ hv2, t ∈ hv) {e : Exit} {a' : Act} {w' : World}
    (h : After n0 w0 X A0 N Q hv2 a1 w1 A1 μ1 e a' w') : After n0 w0 X A0 N Q hv a w A μ e a' w' := by
  obtain ⟨h1, h2, σ', h3, A', μ', h4, h5⟩ := h
  exact ⟨h1, h2, σ', h3, A', μ', h4, (hx.trans h5).mono (fun t ht => (List.mem_append.1 ht).elim (hs t) (hs2 t))⟩

theorem awp_sound {n0 : Nat} (hT : TOk P T) (hG : GX G w0 X A0) (hP : P.follows .mixedOrders = true) : ∀ (c : Code), codeOk N c = true → ∀ (J : Jt), J.fok n0 = true → ∀ (Q : Exit → St → Prop) (σ : St) (a : Act) (w : World) (A : Nat → Prop) (μ : Nat → Option Loc),
    awp P G T c J Q σ → Ok w0 X A0 N (fun j => j < σ.next) σ a w A μ → XB n0 X μ → c.wp P (After n0 w0 X A0 N Q (dsts c) a w A μ) a w
  | .skip, _, J, hJ, Q, σ, a, w, A, μ, h, hok, hX => wp_skip ⟨fun c h => (by cases h), fun h => (by cases h), σ, h, A, μ, hok, ExtW.refl _ _ _ _ _ _⟩
  | .ret, _, J, hJ, Q, σ, a, w, A, μ, h, hok, hX => wp_ret ⟨fun c h => (by cases h), fun h => (by cases h), σ, h, A, μ, hok, ExtW.refl _ _ _ _ _ _⟩
  | .exit id, _, J, hJ, Q, σ, a, w, A, μ, h, hok, hX => wp_exit ⟨fun c h => (by cases h), fun h => (by cases h), σ, h, A, μ, hok, ExtW.refl _ _ _ _ _ _⟩
  | .region id ops draw, hc, J, hJ, Q, σ, a, w, A, μ, h, hok, hX => by
    simp only [awp, natK_eq, lsK_eq] at h
    have := region_sound (id := id) (draw := draw) hT hG hP hc hok ⟨_, rfl⟩ h
    refine wp_mono this (fun e a' w' ⟨he, σ', hk, A', μ', h1, h2⟩ => ?_)
    subst he
    refine ⟨fun c h => (by cases h), fun h => (by cases h), _, hk, A', μ', ⟨h1.tm, h1.df, h1.env, h1.os, h1.tape, h1.out, h1.size, h1.old, h1.hA, h1.sub, h1.ob, h1.ap, fun i hi => ?_⟩, h2.w⟩
    exact h1.bd i hi
  | .seq x y, hc, J, hJ, Q, σ, a, w, A, μ, h, hok, hX => by
    simp only [codeOk, Bool.and_eq_true] at hc
    simp only [awp] at h
    split at h
    · simp only [Sq] at h
      obtain ⟨τ, I, md, E, B, M, h1, h2⟩ := h
      refine wp_seq (wp_mono (awp_sound hT hG hP x hc.1 _ (Jt.fok_a hJ) _ σ a w A μ h1 hok hX) (fun e a' w' ⟨g1, g2, σ', g3, A', μ', g4, g5⟩ => ?_))
      cases e with
      | normal =>
        obtain ⟨z, rn, hI, hF⟩ := g3
        obtain ⟨μ2, k1, k2⟩ := head_ok hok g4 g5 hF
        exact wp_mono (awp_sound hT hG hP y hc.2 _ (Jt.fok_b hJ) Q _ a' w' A' μ2 (by have := h2 z hI; rwa [headN_eq] at this) k1 (hX.mono k2.mu0)) (fun e a2 w2 h => After.mono k2 (fun t ht => List.mem_append_left _ ht) (fun t ht => List.mem_append_right _ ht) h)
      | exit id => exact ⟨g1, g2, σ', g3, A', μ', g4, g5.mono (fun t ht => List.mem_append_left _ ht)⟩
      | goto l => exact ⟨g1, g2, σ', g3, A', μ', g4, g5.mono (fun t ht => List.mem_append_left _ ht)⟩
      | ret => exact ⟨g1, g2, σ', g3, A', μ', g4, g5.mono (fun t ht => List.mem_append_left _ ht)⟩
      | panic c => exact absurd rfl (g1 c)
      | outgrown => exact absurd rfl g2
    · split at h
      · refine wp_seq (wp_mono (awp_sound hT hG hP x hc.1 _ (Jt.fok_a hJ) _ σ a w A μ h hok hX) (fun e a' w' ⟨h1, h2, σ', h3, A', μ', h4, h5⟩ => ?_))
        cases e with
        | normal =>
          obtain ⟨n, E, B, fz, hal, hf, hn, hE, hB, hK⟩ := h3
          have hX2 : fz = [] ∨ (XB n0 X μ' ∧ (keeps n0 B && mgOk n0 E B fz) = true) := by
            rcases Jt.fok_fz hJ with e | e
            · rw [e] at hal; exact .inl (List.isEmpty_iff.1 hal)
            · rw [e] at hal; exact .inr ⟨hX.mono h5.mu0, hal⟩
          obtain ⟨A2, μ2, k1, k2⟩ := low_ok hX2 h4 hf hn hE hB
          exact wp_mono (awp_sound hT hG hP y hc.2 _ (Jt.fok_b hJ) Q _ a' w' A2 μ2 hK k1 (hX.mono (h5.trans k2).mu0)) (fun e a2 w2 h => After.mono (h5.trans k2) (fun t ht => (List.mem_append.1 ht).elim (List.mem_append_left _) (fun h => by cases h)) (fun t ht => List.mem_append_right _ ht) h)
        | exit id => exact ⟨h1, h2, σ', h3, A', μ', h4, h5.mono (fun t ht => List.mem_append_left _ ht)⟩
        | goto l => exact ⟨h1, h2, σ', h3, A', μ', h4, h5.mono (fun t ht => List.mem_append_left _ ht)⟩
        | ret => exact ⟨h1, h2, σ', h3, A', μ', h4, h5.mono (fun t ht => List.mem_append_left _ ht)⟩
        | panic c => exact absurd rfl (h1 c)
        | outgrown => exact absurd rfl h2
      refine wp_seq (wp_mono (awp_sound hT hG hP x hc.1 _ (Jt.fok_a hJ) _ σ a w A μ h hok hX) (fun e a' w' ⟨h1, h2, σ', h3, A', μ', h4, h5⟩ => ?_))
      cases e with
      | normal => exact wp_mono (awp_sound hT hG hP y hc.2 _ (Jt.fok_b hJ) Q σ' a' w' A' μ' h3 h4 (hX.mono h5.mu0)) (fun e a2 w2 h => After.mono h5 (fun t ht => List.mem_append_left _ ht) (fun t ht => List.mem_append_right _ ht) h)
      | exit id => exact ⟨h1, h2, σ', h3, A', μ', h4, h5.mono (fun t ht => List.mem_append_left _ ht)⟩
      | goto l => exact ⟨h1, h2, σ', h3, A', μ', h4, h5.mono (fun t ht => List.mem_append_left _ ht)⟩
      | ret => exact ⟨h1, h2, σ', h3, A', μ', h4, h5.mono (fun t ht => List.mem_append_left _ ht)⟩
      | panic c => exact absurd rfl (h1 c)
      | outgrown => exact absurd rfl h2
  | .cond c x y, hc, J, hJ, Q, σ, a, w, A, μ, h, hok, hX => by
    simp only [codeOk, Bool.and_eq_true] at hc
    simp only [awp] at h
    split at h
    · rename_i b hb
      have hv := hok.ev c
      rw [hb] at hv
      split at h
      · refine wp_cond_split hv.bool_inv (fun ht => ?_) (fun ht => ?_)
        · obtain ⟨n, E, B, fz, hal, hf, hn, hE, hB, hK⟩ := h.out.1 ht
          have hX2 : fz = [] ∨ (XB n0 X μ ∧ (keeps n0 B && mgOk n0 E B fz) = true) := by
            rcases Jt.fok_fz hJ with e | e
            · rw [e] at hal; exact .inl (List.isEmpty_iff.1 hal)
            · rw [e] at hal; exact .inr ⟨hX, hal⟩
          obtain ⟨A2, μ2, k1, k2⟩ := low_ok hX2 hok hf hn hE hB
          exact wp_mono (awp_sound hT hG hP x hc.1 _ (Jt.fok_a hJ) Q _ a w A2 μ2 hK k1 (hX.mono k2.mu0)) (fun e a2 w2 h => After.mono k2 (fun t ht => by cases ht) (fun t ht => List.mem_append_left _ ht) h)
        · obtain ⟨n, E, B, fz, hal, hf, hn, hE, hB, hK⟩ := h.out.2 ht
          have hX2 : fz = [] ∨ (XB n0 X μ ∧ (keeps n0 B && mgOk n0 E B fz) = true) := by
            rcases Jt.fok_fz hJ with e | e
            · rw [e] at hal; exact .inl (List.isEmpty_iff.1 hal)
            · rw [e] at hal; exact .inr ⟨hX, hal⟩
          obtain ⟨A2, μ2, k1, k2⟩ := low_ok hX2 hok hf hn hE hB
          exact wp_mono (awp_sound hT hG hP y hc.2 _ (Jt.fok_b hJ) Q _ a w A2 μ2 hK k1 (hX.mono k2.mu0)) (fun e a2 w2 h => After.mono k2 (fun t ht => by cases ht) (fun t ht => List.mem_append_right _ ht) h)
      refine wp_cond_split hv.bool_inv (fun ht => ?_) (fun ht => ?_)
      · exact wp_mono (awp_sound hT hG hP x hc.1 _ (Jt.fok_a hJ) Q σ a w A μ (h.out.1 ht) hok hX) (fun e a' w' h => After.mono (ExtW.refl _ [] _ _ _ _) (fun t ht => by cases ht) (fun t ht => List.mem_append_left _ ht) h)
      · exact wp_mono (awp_sound hT hG hP y hc.2 _ (Jt.fok_b hJ) Q σ a w A μ (h.out.2 ht) hok hX) (fun e a' w' h => After.mono (ExtW.refl _ [] _ _ _ _) (fun t ht => by cases ht) (fun t ht => List.mem_append_right _ ht) h)
    · exact h.elim
  | .block id c, hc, J, hJ, Q, σ, a, w, A, μ, h, hok, hX => by
    refine wp_block (wp_mono (awp_sound hT hG hP c hc _ hJ _ σ a w A μ h hok hX) (fun e a' w' ⟨h1, h2, σ', h3, h4⟩ => ?_))
    cases e with
    | normal => exact ⟨h1, h2, σ', h3, h4⟩
    | exit id' =>
      simp only [Exit.inBlock]
      simp only at h3
      by_cases hid : id' = id
      · subst hid
        rw [if_pos rfl]
        have : Nat.beq id' id' = true := Nat.beq_refl _
        rw [this] at h3
        exact ⟨fun c h => (by cases h), fun h => (by cases h), σ', h3, h4⟩
      · rw [if_neg hid]
        have : Nat.beq id' id = false := by
          cases hb : Nat.beq id' id with
          | false => rfl
          | true => exact absurd (Nat.eq_of_beq_eq_true hb) hid
        rw [this] at h3
        exact ⟨h1, h2, σ', h3, h4⟩
    | goto l => exact ⟨h1, h2, σ', h3, h4⟩
    | ret => exact ⟨h1, h2, σ', h3, h4⟩
    | panic c => exact absurd rfl (h1 c)
    | outgrown => exact absurd rfl h2
  | .loop c, hc, J, hJ, Q, σ, a, w, A, μ, h, hok, hX => by
    simp only [awp, Lp] at h
    obtain ⟨τ, I, m, md, E, B, M, ⟨x0, rn0, hI0, hF0⟩, hround⟩ := h
    have hc' : codeOk N c = true := hc
    refine wp_loop_ex (fun n a' w' => ∃ x A' μ', I x ∧ m x = n ∧ Ok w0 X A0 N (fun j => j < (head σ (dsts c) md (E x) (B x) (M x)).next) (head σ (dsts c) md (E x) (B x) (M x)) a' w' A' μ' ∧ ExtW n0 (dsts c) a w A μ a' w' A' μ') ?_ ?_
    · obtain ⟨μ', h1, h2⟩ := head_ok hok hok (ExtW.refl n0 (dsts c) _ _ _ _) hF0
      exact ⟨m x0, x0, A, μ', hI0, rfl, h1, h2⟩
    · rintro n a1 w1 ⟨x, A1, μ1, hI, rfl, h1, h2⟩
      have hr := hround x hI
      rw [headN_eq] at hr
      refine wp_mono (awp_sound hT hG hP c hc' _ hJ _ _ a1 w1 A1 μ1 hr h1 (hX.mono h2.mu0)) (fun e a' w' ⟨g1, g2, σ', g3, A', μ', g4, g5⟩ => ?_)
      cases e with
      | normal =>
        obtain ⟨y, rn, hIy, hlt, hF⟩ := g3
        obtain ⟨μ2, k1, k2⟩ := head_ok hok g4 (h2.trans' g5) hF
        exact ⟨m y, hlt, y, A', μ2, hIy, rfl, k1, k2⟩
      | exit id => exact ⟨g1, g2, σ', g3, A', μ', g4, h2.trans' g5⟩
      | goto l => exact ⟨g1, g2, σ', g3, A', μ', g4, h2.trans' g5⟩
      | ret => exact ⟨g1, g2, σ', g3, A', μ', g4, h2.trans' g5⟩
      | panic c => exact absurd rfl (g1 c)
      | outgrown => exact absurd rfl g2
  | .rangeFunc .., _, J, hJ, Q, σ, a, w, A, μ, h, hok, hX => h.elim
  | .scope _, _, J, hJ, Q, σ, a, w, A, μ, h, hok, hX => h.elim
  | .label _, _, J, hJ, Q, σ, a, w, A, μ, h, hok, hX => h.elim
  | .goto _, _, J, hJ, Q, σ, a, w, A, μ, h, hok, hX => h.elim
  | .refuse _, _, J, hJ, Q, σ, a, w, A, μ, h, hok, hX => h.elim
end
end Go.Aw

set_option linter.unusedVariables false
namespace Go.Aw
def St.start (mi : List Ob) (Vs : List V) : St := { env := fun t => (Vs[t]?).getD .und, mem := fun i => mi[i]?, next := mi.length, ids := List.range mi.length }
def St.startN (n : Nat) (mi : List Ob) (Vs : List V) : St := { env := fun t => (Vs[t]?).getD .und, mem := fun i => mi[i]?, next := n, ids := List.range n }
/-- a value that is given back: u is there, r is told -/
def Rt (σ : St) (rn : List (Option Nat)) (fz : List Nat) (u r : V) : Prop :=
  match r with
  | .own j len => match rn[j]? with
    | some (some i) => u = .own i len
    | some none => u = .nil ∧ len = 0
    | none => False
  | .sl sz n xs => u = .sl sz n xs ∨ (u = .nil ∧ n = 0 ∧ xs = []) ∨ ∃ i len e, (u = .own i len ∧ len = n) ∧ σ.mem i = some (.arr e sz xs) ∧ i ∈ fz
  | .bp j off => match rn[j]? with
    | some (some i) => u = .bp i off
    | _ => False
  | .agg _ | .tup _ | .ep .. | .cf .. | .dsl .. => False
  | v => u = v
def RtL (σ : St) (rn : List (Option Nat)) (fz : List Nat) : List V → List V → Prop
  | [], l => l = []
  | u :: us, l => ∃ r rs, l = r :: rs ∧ Rt σ rn fz u r ∧ RtL σ rn fz us rs
def RtA (σ : St) (rn : List (Option Nat)) (fz : List Nat) (u r : V) : Prop :=
  match r with
  | .agg rs => ∃ us, u = .agg us ∧ RtL σ rn fz us rs
  | r => Rt σ rn fz u r
def RtAL (σ : St) (rn : List (Option Nat)) (fz : List Nat) : List V → List V → Prop
  | [], l => l = []
  | u :: us, l => ∃ r rs, l = r :: rs ∧ RtA σ rn fz u r ∧ RtAL σ rn fz us rs
/-- the values at the results' places -/
def rvs (T : TypeId → Option TI) (σ : St) : List ResultVar → (List V → Prop) → Prop
  | [], k => k []
  | .tmp t :: l, k => rvs T σ l (fun us => k (σ.env t :: us))
  | .cell a t :: l, k => match T t with
    | some ti => rdP (fun _ => true) σ.mem ti.size ti.agg (σ.env a) (fun u => rvs T σ l (fun us => k (u :: us)))
    | none => False
def Rus (σ : St) (mi mo : List Ob) (r : V) (us : List V) : Prop :=
  ∃ (rn : List (Option Nat)) (fz : List Nat), (match us with | [u] => RtA σ rn fz u r | us => ∃ xs, r = .tup xs ∧ RtAL σ rn fz us xs) ∧
    rn.length = mo.length ∧ (rn.filterMap id).Nodup ∧ (∀ (j i : Nat), rn[j]? = some (some i) → σ.mem i = mo[j]?) ∧ (∀ (j : Nat), rn[j]? = some none → ∃ ob, mo[j]? = some ob ∧ ob.emp = true) ∧ mo.all Ob.isA = true ∧
    (∀ m, m < mi.length → rn[m]? = some (some m)) ∧ (∀ i ∈ fz, i ∉ rn.filterMap id)
/-- what the function gives back -/
def RetOk (mi mo : List Ob) (r : V) (σ : St) (us : List V) : Prop := Rus σ mi mo r us
def Ret (T : TypeId → Option TI) (rs : List ResultVar) (mi mo : List Ob) (r : V) : Exit → St → Prop
  | .normal, σ => rvs T σ rs (RetOk mi mo r σ)
  | .ret, σ => rvs T σ rs (RetOk mi mo r σ)
  | _, _ => False

section
variable {P : Program} {G : Nat → Option Obj} {T : TypeId → Option TI} {w0 w : World} {X A0 A : Nat → Prop} {N : Nat} {bd : Nat → Prop} {σ : St} {a : Act} {μ : Nat → Option Loc}

def rval (tmps : Array Value) : ResultVar → Sem Value
  | .tmp t => pure (tmps.getD t undef)
  | .cell b t => do loadVar t (← asAddr (tmps.getD b undef))
theorem rvs_run (hT : TOk P T) (h : Ok w0 X A0 N bd σ a w A μ) : ∀ (rs : List ResultVar) (k : List V → Prop), rvs T σ rs k → ∃ (us : List V) (vs : List Value), k us ∧
    (rs.mapM (rval a.tmps)).run P w = .ok vs w ∧ us.length = rs.length ∧ vs.length = us.length ∧ ∀ (i : Nat) (u : V) (v : Value), us[i]? = some u → vs[i]? = some v → Rv w A μ u v
  | [], k, hk => ⟨[], [], hk, by simp, rfl, rfl, fun i u v h => by simp at h⟩
  | .tmp t :: l, k, hk => by
    obtain ⟨us, vs, h1, h2, h3, h4, h5⟩ := rvs_run hT h l _ hk
    refine ⟨_, a.tmps.getD t undef :: vs, h1, by simp [List.mapM_cons, rval, h2], by simp [h3], by simp [h4], fun i u v hu hv => ?_⟩
    cases i with
    | zero => simp only [List.getElem?_cons_zero, Option.some.injEq] at hu hv; subst hu; subst hv; exact h.env t
    | succ i => exact h5 i u v (by simpa using hu) (by simpa using hv)
  | .cell b t :: l, k, hk => by
    simp only [rvs] at hk
    split at hk
    · rename_i ti ht
      obtain ⟨u0, g1, g2⟩ := rdP_ex hk
      obtain ⟨cv, g3, g4⟩ := rdP_run (hT _ _ ht) h.mok (h.env b) g1
      obtain ⟨us, vs, h1, h2, h3, h4, h5⟩ := rvs_run hT h l _ g2
      have hp : ∃ ad, a.tmps.getD b undef = .pointer (some ad) := by
        have he := h.env b
        unfold rdP at g1
        split at g1
        · rename_i e; rw [e] at he; obtain ⟨_, _, _, _, hv⟩ := he.bp_inv; exact ⟨_, hv⟩
        · rename_i e; rw [e] at he; obtain ⟨_, _, _, _, hv⟩ := he.ep_inv; exact ⟨_, hv⟩
        · rename_i e; rw [e] at he; obtain ⟨_, _, hv, _⟩ := he.rp_inv; exact ⟨_, hv⟩
        · exact g1.elim
      obtain ⟨ad, hp⟩ := hp
      have g5 : (loadVar t ad).run P w = .ok cv w := by
        rw [hp] at g3; simpa [Instr.loadAt, Instr.sureAddr] using g3
      refine ⟨_, cv :: vs, h1, by simp [List.mapM_cons, rval, h2, hp, asAddr, g5], by simp [h3], by simp [h4], fun i u v hu hv => ?_⟩
      cases i with
      | zero => simp only [List.getElem?_cons_zero, Option.some.injEq] at hu hv; subst hu; subst hv; exact g4
      | succ i => exact h5 i u v (by simpa using hu) (by simpa using hv)
    · exact hk.elim
def resV : List Value → Value
  | [v] => v
  | vs => .tuple vs.toArray
theorem results_run {fn : Func} {rs : List ResultVar} {vs : List Value} (h : fn.results.toList = rs) (hr : (rs.mapM (rval a.tmps)).run P w = .ok vs w) :
    (results fn a.tmps).run P w = .ok (resV vs) w := by
  have e : results fn a.tmps = (do let vs ← fn.results.mapM (rval a.tmps); pure (if h : vs.size = 1 then vs[0] else .tuple vs)) := rfl
  rw [e, Array.mapM_eq_mapM_toList, h]
  simp only [Sem.run_bind, Sem.run_map, hr, Result.andThen_ok, Sem.run_pure]
  congr 1
  match vs with
  | [] => rfl
  | [v] => rfl
  | _ :: _ :: _ => rfl

theorem rt_ok (h : Ok w0 X A0 N bd σ a w A μ) {rn : List (Option Nat)} {fz : List Nat} {A' : Nat → Prop} {μ' : Nat → Option Loc} (hA : ∀ b, A b → A' b) (hfz : ∀ i l b, i ∈ fz → μ i = some l → l.has b → A' b)
    (hμ : ∀ (j i : Nat), rn[j]? = some (some i) → μ' j = μ i) (hμ0 : ∀ j : Nat, rn[j]? = some none → ∃ sz, μ' j = some ⟨none, 0, 0, sz, []⟩) {u r : V} {c : Value} (hr : Rt σ rn fz u r) (hu : Rv w A μ u c) : Rv w A' μ' r c := by
  have plain : u = r → r.shut = true → Rv w A' μ' r c := fun e hs => by subst e; exact .c ((shut_rc hu hs).mono hA (fun _ _ _ h => h))
  cases r with
  | own j len =>
    simp only [Rt] at hr
    split at hr
    · rename_i i hi
      subst hr
      obtain ⟨l, hl, rfl, rfl⟩ := hu.own_inv
      exact .own _ l (by rw [hμ _ _ hi]; exact hl)
    · rename_i hi
      obtain ⟨rfl, rfl⟩ := hr
      obtain ⟨sz, hs⟩ := hμ0 _ hi
      have := hu.nil_inv; subst this
      exact .own _ ⟨none, 0, 0, sz, []⟩ hs
    · exact hr.elim
  | sl sz n xs =>
    rcases hr with rfl | ⟨rfl, rfl, rfl⟩ | ⟨i, len, e, ⟨rfl, rfl⟩, hm, hf⟩
    · exact plain rfl rfl
    · have := hu.nil_inv; subst this
      exact .c (.sl sz 0 [] rfl none 0 (fun _ => undef) (Nat.le_refl _) (fun _ h => (by cases h)) (fun h => absurd rfl h) (fun _ k u _ hk => (by simp at hk)) (fun k u hk => (by simp at hk)) (fun k u hk => (by simp at hk)))
    · obtain ⟨l, hl, rfl, rfl⟩ := hu.own_inv
      obtain ⟨l', hl', hob, _⟩ := h.ob i _ hm
      rw [hl] at hl'; injection hl' with hl'; subst hl'
      exact .c (rc_arr hob hA (fun b hb => hfz i l b hf hl hb))
  | agg xs => exact hr.elim
  | tup xs => exact hr.elim
  | bp j off =>
    simp only [Rt] at hr
    split at hr
    · rename_i i hi
      subst hr
      obtain ⟨l, b, hl, hb, rfl⟩ := hu.bp_inv
      exact .bp _ off l b (by rw [hμ _ _ hi]; exact hl) hb
    · exact hr.elim
  | ep i j off => exact hr.elim
  | cf f i => exact hr.elim
  | dsl i j off n => exact hr.elim
  | und => exact .c (.und _)
  | _ => exact plain hr rfl
theorem rtL_get {rn : List (Option Nat)} {fz : List Nat} : ∀ (us rs : List V), RtL σ rn fz us rs → us.length = rs.length ∧ ∀ (i : Nat) (u r : V), us[i]? = some u → rs[i]? = some r → Rt σ rn fz u r
  | [], l, h => by simp only [RtL] at h; subst h; exact ⟨rfl, fun i u x hu => by simp at hu⟩
  | u :: us, l, h => by
    obtain ⟨x, xs, rfl, h1, h2⟩ := h
    obtain ⟨g1, g2⟩ := rtL_get us xs h2
    refine ⟨by simp [g1], fun i u' x' hu hx => ?_⟩
    cases i with
    | zero => simp at hu hx; subst hu; subst hx; exact h1
    | succ i => exact g2 i u' x' (by simpa using hu) (by simpa using hx)
theorem rtAL_get {rn : List (Option Nat)} {fz : List Nat} : ∀ (us rs : List V), RtAL σ rn fz us rs → us.length = rs.length ∧ ∀ (i : Nat) (u r : V), us[i]? = some u → rs[i]? = some r → RtA σ rn fz u r
  | [], l, h => by simp only [RtAL] at h; subst h; exact ⟨rfl, fun i u x hu => by simp at hu⟩
  | u :: us, l, h => by
    obtain ⟨x, xs, rfl, h1, h2⟩ := h
    obtain ⟨g1, g2⟩ := rtAL_get us xs h2
    refine ⟨by simp [g1], fun i u' x' hu hx => ?_⟩
    cases i with
    | zero => simp at hu hx; subst hu; subst hx; exact h1
    | succ i => exact g2 i u' x' (by simpa using hu) (by simpa using hx)
theorem rtA_ok (h : Ok w0 X A0 N bd σ a w A μ) {rn : List (Option Nat)} {fz : List Nat} {A' : Nat → Prop} {μ' : Nat → Option Loc} (hA : ∀ b, A b → A' b) (hfz : ∀ i l b, i ∈ fz → μ i = some l → l.has b → A' b)
    (hμ : ∀ (j i : Nat), rn[j]? = some (some i) → μ' j = μ i) (hμ0 : ∀ j : Nat, rn[j]? = some none → ∃ sz, μ' j = some ⟨none, 0, 0, sz, []⟩) {u r : V} {c : Value} (hr : RtA σ rn fz u r) (hu : Rv w A μ u c) : Rv w A' μ' r c := by
  by_cases hx : ∃ xs, r = .agg xs
  · obtain ⟨rs, rfl⟩ := hx
    obtain ⟨us, rfl, hl⟩ := hr
    obtain ⟨cs, rfl, hs, hc⟩ := hu.agg_inv
    obtain ⟨g1, g2⟩ := rtL_get _ _ hl
    refine .agg rs cs (by omega) (fun i y c hy hcc => ?_)
    have hlt : i < us.length := by rw [g1]; exact (List.getElem?_eq_some_iff.1 hy).1
    exact rt_ok h hA hfz hμ hμ0 (g2 i _ y (List.getElem?_eq_getElem hlt) hy) (hc i _ c (List.getElem?_eq_getElem hlt) hcc)
  · have e : RtA σ rn fz u r = Rt σ rn fz u r := by cases r <;> first | rfl | exact absurd ⟨_, rfl⟩ hx
    rw [e] at hr
    exact rt_ok h hA hfz hμ hμ0 hr hu

theorem acalls_of {f : FuncId} {fn : Func} {c : Code} (hT : TOk P T) (hP : P.follows .mixedOrders = true) (hf : P.funcs[f]? = some fn) (hb : fn.body = some c) (hnm : (fn.name == "runtime.NumGoroutine") = false) (rs : List ResultVar) (hres : fn.results.toList = rs)
    (hcode : codeOk fn.ntmps c = true) {mi mo : List Ob} {Vs : List V} {r : V} (hn : Vs.length ≤ fn.ntmps) (J : Jt) (hJ : J.fok mi.length = true) (h0 : natF mi.length fun n => awp P G T c J (Ret T rs mi mo r) (St.startN n mi Vs)) : ACalls P G f mi Vs mo r := by
  refine ⟨⟨fn, hf, hnm, by rw [hb]; rfl⟩, fun w A μ vs hsz hargs hAlt hGl hobj => ?_⟩
  have h : awp P G T c J (Ret T rs mi mo r) (St.start mi Vs) := by rw [natF_eq] at h0; exact h0
  let X : Nat → Prop := blk μ mi.length
  have hstart : Ok w X A fn.ntmps (fun j => j < (St.start mi Vs).next) (St.start mi Vs) { tmps := vs ++ Array.replicate (fn.ntmps - vs.size) undef, defers := [] } w A μ := by
    refine ⟨by simp; omega, rfl, fun t => ?_, rfl, rfl, rfl, Nat.le_refl _, fun _ _ _ => rfl, fun b hb => ⟨hAlt b hb, .inl hb⟩, fun _ h => h, fun i ob hi => ?_, fun i j li lj b hi hj h1 h2 h3 h4 => ?_, fun i hi => hobj.bd i hi⟩
    · show Rv w A μ ((Vs[t]?).getD .und) _
      cases hV : Vs[t]? with
      | none => exact .c (.und _)
      | some x =>
        have hlt : t < vs.size := by rw [hsz]; exact (List.getElem?_eq_some_iff.1 hV).1
        have e : (vs ++ Array.replicate (fn.ntmps - vs.size) undef).getD t undef = vs[t] := by
          simp [Array.getD_eq_getD_getElem?, Array.getElem?_append, hlt]
        rw [e]
        exact hargs t x _ hV (Array.getElem?_eq_getElem hlt)
    · obtain ⟨l, h1, h2, h3⟩ := hobj.ob i ob hi
      exact ⟨l, h1, h2, fun b hb => ⟨(h3 b hb).1, (h3 b hb).2.1, .inl ⟨i, l, (List.getElem?_eq_some_iff.1 hi).1, h1, hb⟩⟩⟩
    · obtain ⟨oi, hoi⟩ := Option.ne_none_iff_exists'.1 hi
      obtain ⟨oj, hoj⟩ := Option.ne_none_iff_exists'.1 hj
      exact hobj.ap i j li lj b (List.getElem?_eq_some_iff.1 hoi).1 (List.getElem?_eq_some_iff.1 hoj).1 h1 h2 h3 h4
  refine calls_of_wp hf hb (wp_mono (awp_sound hT (fun g o hg => ⟨(hGl g o hg).1, hAlt g (hGl g o hg).1, fun ⟨m, l, hm, hl, hb⟩ => (by
      obtain ⟨l', hl', _, hbb⟩ := hobj.ob m _ (List.getElem?_eq_getElem hm)
      rw [hl] at hl'; injection hl' with hl'; subst hl'
      exact (hbb g hb).2.1 (hGl g o hg).1), (hGl g o hg).2⟩) hP c hcode J hJ _ _ _ w A μ h hstart (fun b ⟨m, l, hm, hl, hb⟩ => ⟨m, l, hm, hl, hb⟩)) (fun e a' w' ⟨g1, g2, σ', g3, A1, μ1, g4, g5⟩ => ?_))
  have main : rvs T σ' rs (RetOk mi mo r σ') → a'.defers = [] ∧ ∃ v, (results fn a'.tmps).run P w' = .ok v w' ∧ ∃ v' A' μ', Ending.returned v = .returned v' ∧ Post w A μ mi.length mo r v' w' A' μ' := fun hrv => by
    obtain ⟨us, vls, ⟨rn, fz, k1, k2, k3, k4, k5, k6, k7, k9⟩, q1, q2, q3, q4⟩ := rvs_run hT g4 rs _ hrv
    refine ⟨g4.df, _, results_run hres q1, ?_⟩
    let A' : Nat → Prop := fun b => A1 b ∨ ∃ i l, i ∈ fz ∧ μ1 i = some l ∧ l.has b ∧ σ'.mem i ≠ none
    let μ' : Nat → Option Loc := fun j => match rn[j]? with
      | some (some i) => μ1 i
      | some none => (match mo[j]? with | some ob => some ⟨none, 0, 0, ob.sz0, []⟩ | none => none)
      | none => none
    have hμ : ∀ (j i : Nat), rn[j]? = some (some i) → μ' j = μ1 i := fun j i hj => by show (match rn[j]? with | some (some i) => μ1 i | some none => _ | none => none) = _; rw [hj]
    have hμ0 : ∀ j : Nat, rn[j]? = some none → ∃ sz, μ' j = some ⟨none, 0, 0, sz, []⟩ := fun j hj => by
      obtain ⟨eo, hm, _⟩ := k5 j hj
      exact ⟨eo.sz0, by show (match rn[j]? with | some (some i) => μ1 i | some none => (match mo[j]? with | some ob => some (⟨none, 0, 0, ob.sz0, []⟩ : Loc) | none => none) | none => none) = _; rw [hj, hm]⟩
    -- frozen objects are the function's own
    have hfr : ∀ b, (∃ i l, i ∈ fz ∧ μ1 i = some l ∧ l.has b ∧ σ'.mem i ≠ none) → b < w'.heap.size ∧ w.heap.size ≤ b := fun b ⟨i, l, h1, h2, h3, h4⟩ => by
      obtain ⟨ob, hob⟩ := Option.ne_none_iff_exists'.1 h4
      obtain ⟨l', hl', _, hbb⟩ := g4.ob i ob hob
      rw [h2] at hl'; injection hl' with hl'; subst hl'
      obtain ⟨q1, _, q3⟩ := hbb b h3
      refine ⟨q1, q3.resolve_left (fun ⟨m, lm, hm, hlm, hbm⟩ => ?_)⟩
      have hrm := k7 m hm
      have hml : m < mo.length := by rw [← k2]; exact (List.getElem?_eq_some_iff.1 hrm).1
      have := g4.ap i m l lm b h4 (by rw [k4 m m hrm, List.getElem?_eq_getElem hml]; simp) h2 (g5.mu0 m lm hm hlm) h3 hbm
      subst this
      exact k9 i h1 (List.mem_filterMap.2 ⟨some i, List.mem_of_getElem? hrm, rfl⟩)
    have hval : ∀ {u x : V} {c : Value}, RtA σ' rn fz u x → Rv w' A1 μ1 u c → Rv w' A' μ' x c := fun {u x c} hr hu => by
      -- only objects that are there count
      have hr' : RtA σ' rn (fz.filter (fun i => (σ'.mem i).isSome)) u x := by
        have one : ∀ {u x : V}, Rt σ' rn fz u x → Rt σ' rn (fz.filter (fun i => (σ'.mem i).isSome)) u x := fun {u x} hr => by
          cases x <;> try exact hr
          rcases hr with h | h | ⟨i, len, e, h1, h2, h3⟩
          · exact .inl h
          · exact .inr (.inl h)
          · exact .inr (.inr ⟨i, len, e, h1, h2, List.mem_filter.2 ⟨h3, by rw [h2]; rfl⟩⟩)
        have many : ∀ (us rs : List V), RtL σ' rn fz us rs → RtL σ' rn (fz.filter (fun i => (σ'.mem i).isSome)) us rs := fun us => by
          induction us with
          | nil => exact fun rs h => h
          | cons u us ih => exact fun rs ⟨r, rs', h1, h2, h3⟩ => ⟨r, rs', h1, one h2, ih _ h3⟩
        by_cases hx : ∃ xs, x = .agg xs
        · obtain ⟨xs, rfl⟩ := hx
          obtain ⟨us, h1, h2⟩ := hr
          exact ⟨us, h1, many _ _ h2⟩
        · have e : ∀ fz, RtA σ' rn fz u x = Rt σ' rn fz u x := fun fz => by cases x <;> first | rfl | exact absurd ⟨_, rfl⟩ hx
          rw [e] at hr ⊢
          exact one hr
      refine rtA_ok g4 (fun b hb => .inl hb) (fun i l b hi hl hb => .inr ⟨i, l, (List.mem_filter.1 hi).1, hl, hb, ?_⟩) hμ hμ0 hr' hu
      have := (List.mem_filter.1 hi).2
      intro e; rw [e] at this; cases this
    refine ⟨_, A', μ', rfl, ⟨g4.os, g4.tape, g4.out, g4.size, g4.old, fun b hb => ?_, fun b hb => .inl (g4.sub b hb), ?_, fun m hm => ?_, ⟨fun m ob hm => ?_, fun i j li lj b hi hj h1 h2 h3 h4 => ?_, fun i hi => ?_⟩⟩⟩
    · rcases hb with hb | hb
      · exact g4.hA b hb
      · exact ⟨(hfr b hb).1, .inr (hfr b hb).2⟩
    · -- the value
      clear q1
      match us, vls, q3, k1, q4 with
      | [u], [v], _, k1, q4 => exact hval k1 (q4 0 u v rfl rfl)
      | [], [], _, ⟨xs, e, hl⟩, q4 =>
        subst e
        obtain ⟨p1, p2⟩ := rtAL_get _ _ hl
        exact .tup xs _ (by simpa using p1) (fun i x c hx hc => by simp at hc)
      | u1 :: u2 :: us, v1 :: v2 :: vls, hlen, ⟨xs, e, hl⟩, q4 =>
        subst e
        obtain ⟨p1, p2⟩ := rtAL_get _ _ hl
        refine .tup xs _ (by simp at hlen p1 ⊢; omega) (fun i x c hx hc => ?_)
        have hc' : (v1 :: v2 :: vls)[i]? = some c := by simpa using hc
        have hlt : i < (u1 :: u2 :: us).length := by rw [p1]; exact (List.getElem?_eq_some_iff.1 hx).1
        exact hval (p2 i _ x (List.getElem?_eq_getElem hlt) hx) (q4 i _ c (List.getElem?_eq_getElem hlt) hc')
    · rw [hμ m m (k7 m hm)]
      cases hμm : μ m with
      | none =>
        obtain ⟨l, hl, _⟩ := hobj.ob m _ (List.getElem?_eq_getElem hm)
        rw [hμm] at hl; cases hl
      | some l => exact g5.mu0 m l hm hμm
    · have hml : m < rn.length := by rw [k2]; exact (List.getElem?_eq_some_iff.1 hm).1
      have hia := List.all_eq_true.1 k6 ob (List.mem_of_getElem? hm)
      cases hr : rn[m]? with
      | none => rw [List.getElem?_eq_none_iff] at hr; omega
      | some q =>
        cases q with
        | some i =>
          obtain ⟨l, hl, ho, hbb⟩ := g4.ob i ob (by rw [k4 m i hr]; exact hm)
          refine ⟨l, by rw [hμ m i hr]; exact hl, ?_, fun b hb => ⟨(hbb b hb).1, fun hA => ?_, (hbb b hb).2.2⟩⟩
          · exact ObOk.mono (w := w') (fun b hb => .inl hb) (fun _ _ _ h => h) (fun i l h => h) (fun _ _ => rfl) (show ObOk w' A1 μ' l ob from ObOk.re hia ho)
          · next _ =>
            · rcases hA with hA | ⟨i2, l2, p1, p2, p3, p4⟩
              · exact (hbb b hb).2.1 hA
              · have := g4.ap i i2 l l2 b (by rw [k4 m i hr, hm]; simp) p4 hl p2 hb p3
                subst this
                exact k9 i p1 (List.mem_filterMap.2 ⟨some i, List.mem_of_getElem? hr, rfl⟩)
        | none =>
          obtain ⟨eo, hM, he0⟩ := k5 m hr
          rw [hm] at hM; injection hM with hM; subst hM
          refine ⟨⟨none, 0, 0, ob.sz0, []⟩, ?_, emp_ok he0, fun b hb => by cases has_flat hb⟩
          show (match rn[m]? with | some (some i) => μ1 i | some none => (match mo[m]? with | some ob => some (⟨none, 0, 0, ob.sz0, []⟩ : Loc) | none => none) | none => none) = _
          rw [hr, hm]
    · have at1 : ∀ (i : Nat) (l : Loc) (b : Nat), i < mo.length → μ' i = some l → l.has b → ∃ k, rn[i]? = some (some k) ∧ μ1 k = some l ∧ σ'.mem k ≠ none := fun i l b hi h1 hb => by
        have hil : i < rn.length := by omega
        cases hr : rn[i]? with
        | none => rw [List.getElem?_eq_none_iff] at hr; omega
        | some q =>
          cases q with
          | some k => exact ⟨k, rfl, by rw [← hμ i k hr]; exact h1, by rw [k4 i k hr, List.getElem?_eq_getElem hi]; simp⟩
          | none =>
            obtain ⟨sz, hs⟩ := hμ0 i hr
            rw [hs] at h1; injection h1 with h1; subst h1; cases has_flat hb
      obtain ⟨ki, p1, p2, p3⟩ := at1 i li b hi h1 h3
      obtain ⟨kj, r1, r2, r3⟩ := at1 j lj b hj h2 h4
      have := g4.ap ki kj li lj b p3 r3 p2 r2 h3 h4
      subst this
      exact rn_inj rn k3 i j ki p1 r1
    · cases hr : rn[i]? with
      | none =>
        exfalso; apply hi
        show (match rn[i]? with | some (some i) => μ1 i | some none => _ | none => none) = _
        rw [hr]
      | some q => have := (List.getElem?_eq_some_iff.1 hr).1; omega
  cases e with
  | normal => exact main g3
  | ret => exact main g3
  | exit id => exact g3.elim
  | goto l => exact g3.elim
  | panic c => exact absurd rfl (g1 c)
  | outgrown => exact absurd rfl g2
end
end Go.Aw

set_option linter.unusedVariables false
namespace Go.Aw
def veq : V → V → Bool
  | .int k n, .int k' n' => decide (k = k') && decide (n = n')
  | .bool a, .bool b => decide (a = b)
  | .str a, .str b => decide (a.data.toList = b.data.toList)
  | .nil, .nil => true
  | _, _ => false
theorem veq_ok {a b : V} (h : veq a b = true) : a = b := by
  cases a <;> cases b <;> simp only [veq, Bool.and_eq_true, decide_eq_true_eq, Bool.false_eq_true] at h <;> first | exact h.elim | skip
  · obtain ⟨rfl, rfl⟩ := h; rfl
  · subst h; rfl
  · rename_i x y
    have : x = y := ByteArray.ext (Array.toList_inj.1 h)
    rw [this]
  · rfl
def veqL : List V → List V → Bool
  | [], [] => true
  | a :: xs, b :: bs => veq a b && veqL xs bs
  | _, _ => false
theorem veqL_ok : ∀ (xs bs : List V), veqL xs bs = true → xs = bs
  | [], [], _ => rfl
  | a :: xs, b :: bs, h => by
    simp only [veqL, Bool.and_eq_true] at h
    rw [veq_ok h.1, veqL_ok xs bs h.2]
  | [], _ :: _, h => by cases h
  | _ :: _, [], h => by cases h

def fldB (P : Program) : List Field → List (Nat × TypeId) → List (Nat × Nat) → Bool
  | [], [], [] => true
  | f :: fs, (off, ft) :: l, (o2, sz) :: m => Nat.beq f.offset off && Nat.beq f.type ft && Nat.beq o2 off && (match P.info? ft with | some i => Nat.beq i.size sz && Nat.blt 0 i.size | none => false) && fldB P fs l m
  | _, _, _ => false
def plcB (s : Nat) : Nat → List (Nat × Nat) → Bool
  | _, [] => true
  | n, (a, b) :: l => Nat.beq a (n * s) && Nat.beq b s && plcB s (n + 1) l
/-- what the table says of a type is so -/
def tiB (P : Program) (t : TypeId) (ti : TI) : Bool :=
  (ti.agg || Nat.beq ti.size 1) && Nat.blt 0 ti.size && Nat.blt 0 ti.bytes &&
  (match P.info? t with
    | some i => Nat.beq i.size ti.size && Nat.beq i.bytes ti.bytes && (match i.zero with | some z => veqL (z.cells.toList.map cv) ti.zero && Nat.beq z.cells.size ti.size | none => false)
    | none => false) &&
  (match P.underlying t with
    | some (.struct fs) => Nat.beq ti.alen 0 && ti.agg && !ti.sl && ti.int.isNone && !ti.str && !ti.bool && fldB P fs.toList ti.flds ti.plc
    | some (.array n e) => Nat.beq ti.alen n && ti.agg && !ti.sl && ti.int.isNone && !ti.str && !ti.bool && ti.flds.isEmpty && Nat.beq ti.elem e && (match P.info? e with | some i => plcB i.size 0 ti.plc | none => false)
    | some (.slice e) => Nat.beq ti.alen 0 && !ti.agg && ti.sl && Nat.beq ti.elem e && ti.int.isNone && !ti.str && !ti.bool && ti.flds.isEmpty
    | some (.int k) => Nat.beq ti.alen 0 && !ti.agg && !ti.sl && decide (ti.int = some k) && !ti.str && !ti.bool && ti.flds.isEmpty
    | some .string => Nat.beq ti.alen 0 && !ti.agg && !ti.sl && ti.int.isNone && ti.str && !ti.bool && ti.flds.isEmpty
    | some .bool => Nat.beq ti.alen 0 && !ti.agg && !ti.sl && ti.int.isNone && !ti.str && ti.bool && ti.flds.isEmpty
    | _ => false)
theorem fldB_ok {P : Program} : ∀ (fs : List Field) (l : List (Nat × TypeId)) (m : List (Nat × Nat)), fldB P fs l m = true →
    (∀ (f off : Nat) (ft : TypeId), l[f]? = some (off, ft) → ∃ fl, fs[f]? = some fl ∧ fl.offset = off ∧ fl.type = ft ∧ ∃ fi, P.info? ft = some fi ∧ fi.size ≠ 0) ∧ fs.mapM (fun f => (P.info? f.type).map fun i => (f.offset, i.size)) = some m
  | [], [], [], _ => ⟨fun f off ft h => by simp at h, rfl⟩
  | f :: fs, (off, ft) :: l, (o2, sz) :: m, h => by
    simp only [fldB, Bool.and_eq_true] at h
    obtain ⟨⟨⟨⟨h1, h2⟩, h3⟩, h4⟩, h5⟩ := h
    have e1 := Nat.eq_of_beq_eq_true h1
    have e2 := Nat.eq_of_beq_eq_true h2
    have e3 := Nat.eq_of_beq_eq_true h3
    obtain ⟨g1, g2⟩ := fldB_ok fs l m h5
    cases hi : P.info? ft with
    | none => rw [hi] at h4; cases h4
    | some i =>
      rw [hi] at h4
      simp only [Bool.and_eq_true] at h4
      have e4 := Nat.eq_of_beq_eq_true h4.1
      have e5 : 0 < i.size := Nat.le_of_ble_eq_true h4.2
      refine ⟨fun n off' ft' hn => ?_, ?_⟩
      · cases n with
        | zero => simp at hn; obtain ⟨rfl, rfl⟩ := hn; exact ⟨f, rfl, e1, e2, i, hi, by omega⟩
        | succ n => exact g1 n off' ft' (by simpa using hn)
      · rw [List.mapM_cons, e2, hi, g2, e1, e3]; simp [e4]
  | [], _ :: _, _, h => by cases h
  | [], [], _ :: _, h => by cases h
  | _ :: _, [], _, h => by cases h
  | _ :: _, (_, _) :: _, [], h => by cases h
theorem plcB_ok (s : Nat) : ∀ (l : List (Nat × Nat)) (n : Nat), plcB s n l = true → ∀ (i : Nat) (p : Nat × Nat), l[i]? = some p → some ((n + i) * s, s) = some p
  | [], n, _, i, p, h => by simp at h
  | (a, b) :: l, n, h, i, p, hi => by
    simp only [plcB, Bool.and_eq_true] at h
    obtain ⟨⟨h1, h2⟩, h3⟩ := h
    cases i with
    | zero => simp at hi; subst hi; rw [Nat.eq_of_beq_eq_true h1, Nat.eq_of_beq_eq_true h2, Nat.add_zero]
    | succ i =>
      have := plcB_ok s l (n + 1) h3 i p (by simpa using hi)
      rw [show n + (i + 1) = n + 1 + i by omega]; exact this
theorem tiB_ok {P : Program} {t : TypeId} {ti : TI} (h : tiB P t ti = true) : TIb P t ti := by
  simp only [tiB, Bool.and_eq_true] at h
  obtain ⟨⟨⟨⟨h1, h2⟩, h3⟩, h4⟩, h5⟩ := h
  cases hi : P.info? t with
  | none => rw [hi] at h4; cases h4
  | some i =>
    rw [hi] at h4
    simp only [Bool.and_eq_true] at h4
    obtain ⟨⟨a1, a2⟩, a3⟩ := h4
    cases hz : i.zero with
    | none => rw [hz] at a3; cases a3
    | some z =>
      rw [hz] at a3
      simp only [Bool.and_eq_true] at a3
      have ez := veqL_ok _ _ a3.1
      have es := Nat.eq_of_beq_eq_true a3.2
      have base : ∃ i z, P.info? t = some i ∧ i.size = ti.size ∧ i.bytes = ti.bytes ∧ i.zero = some z ∧ z.cells.toList.map cv = ti.zero ∧ z.cells.size = ti.size :=
        ⟨i, z, hi, Nat.eq_of_beq_eq_true a1, Nat.eq_of_beq_eq_true a2, hz, ez, es⟩
      have hone : ti.agg = false → ti.size = 1 := fun hf => by rw [hf, Bool.false_or] at h1; exact Nat.eq_of_beq_eq_true h1
      have hp : 0 < ti.size := Nat.le_of_ble_eq_true h2
      have hbp : 0 < ti.bytes := Nat.le_of_ble_eq_true h3
      cases hu : P.underlying t with
      | none => rw [hu] at h5; cases h5
      | some d =>
        rw [hu] at h5
        cases d with
        | struct fs =>
          simp only [Bool.and_eq_true, Bool.not_eq_true'] at h5
          obtain ⟨⟨⟨⟨⟨⟨c0, c1⟩, c2⟩, c3⟩, c4⟩, c5⟩, c6⟩ := h5
          obtain ⟨g1, g2⟩ := fldB_ok _ _ _ c6
          refine ⟨fun _ => ⟨z, fun n => ti.plc.toArray[n]?, ez, fun n p hn => by simpa using hn, fun parts => ?_⟩, hone, hp, hbp, base, _, hu, fun _ => .inl ⟨fs, rfl⟩, fun hf => (by rw [c1] at hf; cases hf), fun f off ft hf => ?_, fun hs => (by rw [c2] at hs; cases hs), fun k hk => (by rw [hk] at c3; cases c3), fun hs => (by rw [c4] at hs; cases hs), fun hs => (by rw [c5] at hs; cases hs), fun ha => absurd ha (by rw [Nat.eq_of_beq_eq_true c0]; exact Nat.lt_irrefl _)⟩
          · unfold Program.built
            simp only [hi, hu, hz, g2]
          · obtain ⟨fl, k1, k2, k3, k4⟩ := g1 f off ft hf
            exact ⟨fs, fl, rfl, by simpa using k1, k2, k3, k4⟩
        | array n e =>
          simp only [Bool.and_eq_true, Bool.not_eq_true'] at h5
          obtain ⟨⟨⟨⟨⟨⟨⟨⟨c0, c1⟩, c2⟩, c3⟩, c4⟩, c5⟩, c6⟩, c7⟩, c8⟩ := h5
          cases hie : P.info? e with
          | none => rw [hie] at c8; cases c8
          | some ie =>
            rw [hie] at c8
            refine ⟨fun _ => ⟨z, fun n => some (n * ie.size, ie.size), ez, fun n p hn => by have := plcB_ok _ _ 0 c8 n p hn; rwa [Nat.zero_add] at this, fun parts => ?_⟩, hone, hp, hbp, base, _, hu, fun _ => .inr ⟨n, e, rfl⟩, fun hf => (by rw [c1] at hf; cases hf), fun f off ft hf => ?_, fun hs => (by rw [c2] at hs; cases hs), fun k hk => (by rw [hk] at c3; cases c3), fun hs => (by rw [c4] at hs; cases hs), fun hs => (by rw [c5] at hs; cases hs), fun _ => (by rw [Nat.eq_of_beq_eq_true c0, Nat.eq_of_beq_eq_true c7])⟩
            · unfold Program.built
              simp only [hi, hu, hz, hie]
            · rw [List.isEmpty_iff] at c6; rw [c6] at hf; simp at hf
        | slice e =>
          simp only [Bool.and_eq_true, Bool.not_eq_true'] at h5
          obtain ⟨⟨⟨⟨⟨⟨⟨c0, c1⟩, c2⟩, c3⟩, c4⟩, c5⟩, c6⟩, c7⟩ := h5
          refine ⟨fun hh => (by rw [c1] at hh; cases hh), hone, hp, hbp, base, _, hu, fun hh => (by rw [c1] at hh; cases hh), fun _ => ⟨fun _ h => (by cases h), fun _ _ h => (by cases h)⟩, fun f off ft hf => ?_, fun _ => ⟨by rw [Nat.eq_of_beq_eq_true c3], hp⟩, fun k hk => (by rw [hk] at c4; cases c4), fun hs => (by rw [c5] at hs; cases hs), fun hs => (by rw [c6] at hs; cases hs), fun ha => absurd ha (by rw [Nat.eq_of_beq_eq_true c0]; exact Nat.lt_irrefl _)⟩
          rw [List.isEmpty_iff] at c7; rw [c7] at hf; simp at hf
        | int k =>
          simp only [Bool.and_eq_true, Bool.not_eq_true', decide_eq_true_eq] at h5
          obtain ⟨⟨⟨⟨⟨⟨c0, c1⟩, c2⟩, c3⟩, c4⟩, c5⟩, c6⟩ := h5
          refine ⟨fun hh => (by rw [c1] at hh; cases hh), hone, hp, hbp, base, _, hu, fun hh => (by rw [c1] at hh; cases hh), fun _ => ⟨fun _ h => (by cases h), fun _ _ h => (by cases h)⟩, fun f off ft hf => ?_, fun hs => (by rw [c2] at hs; cases hs), fun k' hk => (by rw [c3] at hk; injection hk with hk; rw [hk]), fun hs => (by rw [c4] at hs; cases hs), fun hs => (by rw [c5] at hs; cases hs), fun ha => absurd ha (by rw [Nat.eq_of_beq_eq_true c0]; exact Nat.lt_irrefl _)⟩
          rw [List.isEmpty_iff] at c6; rw [c6] at hf; simp at hf
        | string =>
          simp only [Bool.and_eq_true, Bool.not_eq_true'] at h5
          obtain ⟨⟨⟨⟨⟨⟨c0, c1⟩, c2⟩, c3⟩, c4⟩, c5⟩, c6⟩ := h5
          refine ⟨fun hh => (by rw [c1] at hh; cases hh), hone, hp, hbp, base, _, hu, fun hh => (by rw [c1] at hh; cases hh), fun _ => ⟨fun _ h => (by cases h), fun _ _ h => (by cases h)⟩, fun f off ft hf => ?_, fun hs => (by rw [c2] at hs; cases hs), fun k hk => (by rw [hk] at c3; cases c3), fun _ => rfl, fun hs => (by rw [c5] at hs; cases hs), fun ha => absurd ha (by rw [Nat.eq_of_beq_eq_true c0]; exact Nat.lt_irrefl _)⟩
          rw [List.isEmpty_iff] at c6; rw [c6] at hf; simp at hf
        | bool =>
          simp only [Bool.and_eq_true, Bool.not_eq_true'] at h5
          obtain ⟨⟨⟨⟨⟨⟨c0, c1⟩, c2⟩, c3⟩, c4⟩, c5⟩, c6⟩ := h5
          refine ⟨fun hh => (by rw [c1] at hh; cases hh), hone, hp, hbp, base, _, hu, fun hh => (by rw [c1] at hh; cases hh), fun _ => ⟨fun _ h => (by cases h), fun _ _ h => (by cases h)⟩, fun f off ft hf => ?_, fun hs => (by rw [c2] at hs; cases hs), fun k hk => (by rw [hk] at c3; cases c3), fun hs => (by rw [c4] at hs; cases hs), fun _ => rfl, fun ha => absurd ha (by rw [Nat.eq_of_beq_eq_true c0]; exact Nat.lt_irrefl _)⟩
          rw [List.isEmpty_iff] at c6; rw [c6] at hf; simp at hf
        | _ => cases h5
def kindN (P : Program) (e : TypeId) : Nat := match P.underlying e with | some (.int _) => 1 | some .string => 2 | some .bool => 3 | _ => 0
def natsB (n : Nat) : List Nat → Nat → Bool
  | [], 0 => true
  | m :: l, k + 1 => Nat.beq m n && natsB n l k
  | _, _ => false
def eqfB (P : Program) : List Field → List Nat → Nat → Bool
  | [], [], _ => true
  | f :: fs, n :: ns, o => (!(f.name == "_") && Nat.beq f.offset o) && ((Nat.blt 0 n && Nat.beq (kindN P f.type) n) && eqfB P fs ns (o + 1))
  | _, _, _ => false
def eqB (P : Program) (t : TypeId) (ti : TI) : Bool :=
  match ti.eqk with
  | [] => true
  | n :: ns => Nat.blt 0 n && !P.eqGuardType P.depth t && (match P.underlying t with
    | some (.array m e) => Nat.beq (kindN P e) n && natsB n (n :: ns) m && (match P.info? e with | some i => Nat.beq i.size 1 | none => false)
    | some (.struct fs) => !P.stoodInHeld t && eqfB P fs.toList (n :: ns) 0
    | _ => false)
theorem natsB_ok {n : Nat} : ∀ (l : List Nat) (k : Nat), natsB n l k = true → l = List.replicate k n
  | [], 0, _ => rfl
  | m :: l, k + 1, h => by
    simp only [natsB, Bool.and_eq_true] at h
    rw [Nat.eq_of_beq_eq_true h.1, natsB_ok l k h.2]; rfl
  | [], _ + 1, h => by cases h
  | _ :: _, 0, h => by cases h
theorem run_eq1 {P : Program} {w : World} {d : Nat} {e : TypeId} {n : Nat} (hn : kindN P e = n) (h0 : 0 < n) {a b : Value} {r : Bool} (h : ceq1 n a b = some r) : (Op.equalIn (d + 1) e a b).run P w = .ok r w := by
  unfold ceq1 at h
  unfold kindN at hn
  split at h
  · rename_i k x k' y
    split at h
    · rename_i hk; subst hk; injection h with h; subst h
      split at hn <;> first | exact absurd hn (by decide) | skip
      rename_i k1 hu
      rw [run_equalIn_int w d e k k1 x y hu]; congr 1
    · cases h
  · injection h with h; subst h
    split at hn <;> first | exact absurd hn (by decide) | skip
    rename_i hu
    rw [run_equalIn_string w d e _ _ hu]; congr 1; rw [Bool.eq_iff_iff, beq_iff_eq, decide_eq_true_iff]
  · injection h with h; subst h
    split at hn <;> first | exact absurd hn (by decide) | skip
    rename_i hu
    exact run_equalIn_bool' w d e _ _ hu
  · cases h
theorem run_part1 {P : Program} {w : World} {e : TypeId} {n : Nat} (hn : kindN P e = n) (h0 : 0 < n) {xs : Array Value} {i : Nat} {v : Value} (hv : xs[i]? = some v) : (part e xs i).run P w = .ok v w := by
  have ha : (isAgg e).run P w = .ok false w := by
    unfold kindN at hn
    split at hn <;> first | exact absurd hn (by omega) | skip
    all_goals (rename_i hu; unfold isAgg; simp only [Sem.run_bind, run_underlying hu, Result.andThen_ok]; rfl)
  simp only [part, Sem.run_bind, ha, Result.andThen_ok, hv]
  rfl
theorem run_equal_arr {P : Program} {t e : TypeId} {m n : Nat} (hu : P.underlying t = some (.array m e)) (hn : kindN P e = n) (h0 : 0 < n) {i : TypeInfo} (hi : P.info? e = some i) (hs : i.size = 1) (w : World) (xs ys : Array Value) (b : Bool)
    (h : ceqL (List.replicate m n) xs.toList ys.toList = some b) : (Op.equal t (.agg xs) (.agg ys)).run P w = .ok b w := by
  have hsz : (sizeOf e).run P w = .ok 1 w := by simp [sizeOf, typeInfo, hi, hs]
  have hM : Op.equal t (.agg xs) (.agg ys) = Op.equalIn (9998 + 1 + 1) t (.agg xs) (.agg ys) := rfl
  rw [hM]
  generalize 9998 = d
  rw [Op.equalIn]
  simp only [Sem.run_bind, run_underlying hu, Result.andThen_ok, hsz]
  rw [Std.Legacy.Range.forIn_eq_forIn_range']
  have key : ∀ (k o : Nat) (b : Bool), ceqL (List.replicate k n) (xs.toList.drop o) (ys.toList.drop o) = some b →
      ∃ s : Option Bool, Sem.run P (forIn (List.range' o k 1) ((none : Option Bool), ()) fun i __s => do
        let a ← part e xs (i * 1)
        let b ← part e ys (i * 1)
        let r ← Op.equalIn (d + 1) e a b
        if (!r) = true then pure (ForInStep.done (some false, ())) else pure (ForInStep.yield (none, ()))) w = Result.ok (s, ()) w ∧ s.getD true = b := by
    intro k
    induction k with
    | zero =>
      intro o b h
      have : b = true := by
        cases hx : xs.toList.drop o <;> cases hy : ys.toList.drop o <;> rw [hx, hy] at h <;> simp [ceqL] at h
        exact h
      subst this
      exact ⟨none, by simp, rfl⟩
    | succ k ih =>
      intro o b h
      rw [List.replicate_succ] at h
      cases hx : xs.toList.drop o with
      | nil => rw [hx] at h; cases hy : ys.toList.drop o <;> rw [hy] at h <;> cases h
      | cons x xr =>
        cases hy : ys.toList.drop o with
        | nil => rw [hx, hy] at h; cases h
        | cons y yr =>
          rw [hx, hy] at h
          simp only [ceqL] at h
          split at h
          · rename_i p q e1 e2
            injection h with h; subst h
            have hxo : xs[o * 1]? = some x := by
              have := congrArg (·[0]?) hx; simpa using this
            have hyo : ys[o * 1]? = some y := by
              have := congrArg (·[0]?) hy; simpa using this
            have hxr : xs.toList.drop (o + 1) = xr := by
              have := congrArg (List.drop 1) hx; simpa [Nat.add_comm] using this
            have hyr : ys.toList.drop (o + 1) = yr := by
              have := congrArg (List.drop 1) hy; simpa [Nat.add_comm] using this
            obtain ⟨s, hh, hs⟩ := ih (o + 1) q (by rw [hxr, hyr]; exact e2)
            rw [List.range'_succ]
            simp only [List.forIn_cons, Sem.run_bind, run_part1 hn h0 hxo, run_part1 hn h0 hyo, Result.andThen_ok, run_eq1 hn h0 e1]
            cases p with
            | false => exact ⟨some false, by simp, rfl⟩
            | true => exact ⟨s, by simpa using hh, hs⟩
          · cases h
  rw [show ([:m] : Std.Legacy.Range).size = m by simp [Std.Legacy.Range.size]]
  obtain ⟨s, hh, hs⟩ := key m 0 b h
  refine (congrArg (Result.andThen · _) hh).trans ?_
  subst hs
  cases s <;> simp
theorem run_equal_str {P : Program} {t : TypeId} {fs : Array Field} {ns : List Nat} (hu : P.underlying t = some (.struct fs)) (hst : P.stoodInHeld t = false) (hf : eqfB P fs.toList ns 0 = true) (w : World) (xs ys : Array Value) (b : Bool)
    (h : ceqL ns xs.toList ys.toList = some b) : (Op.equal t (.agg xs) (.agg ys)).run P w = .ok b w := by
  have hM : Op.equal t (.agg xs) (.agg ys) = Op.equalIn (9998 + 1 + 1) t (.agg xs) (.agg ys) := rfl
  rw [hM]
  generalize 9998 = d
  rw [Op.equalIn]
  have hp : (Sem.run P program w) = .ok P w := rfl
  simp only [Sem.run_bind, run_underlying hu, Result.andThen_ok, hp, hst, if_neg Bool.false_ne_true]
  rw [← Array.forIn_toList]
  have key : ∀ (fl : List Field) (ns : List Nat) (o : Nat) (b : Bool), eqfB P fl ns o = true → ceqL ns (xs.toList.drop o) (ys.toList.drop o) = some b →
      ∃ s : Option Bool, Sem.run P (forIn fl ((none : Option Bool), ()) fun f __s =>
        if f.name ≠ "_" then do
          let a ← part f.type xs f.offset
          let b ← part f.type ys f.offset
          let r ← Op.equalIn (d + 1) f.type a b
          if (!r) = true then pure (ForInStep.done (some false, ())) else pure (ForInStep.yield (none, ()))
        else pure (ForInStep.yield (none, ()))) w = Result.ok (s, ()) w ∧ s.getD true = b := by
    intro fl
    induction fl with
    | nil =>
      intro ns o b hf h
      cases ns with
      | nil =>
        have : b = true := by
          cases hx : xs.toList.drop o <;> cases hy : ys.toList.drop o <;> rw [hx, hy] at h <;> simp [ceqL] at h
          exact h
        subst this
        exact ⟨none, by simp, rfl⟩
      | cons n ns => cases hf
    | cons f fl ih =>
      intro ns o b hf h
      cases ns with
      | nil => cases hf
      | cons n ns =>
        simp only [eqfB, Bool.and_eq_true, Bool.not_eq_true'] at hf
        obtain ⟨⟨hname, hoff⟩, ⟨h0, hn⟩, hf⟩ := hf
        have hoff := Nat.eq_of_beq_eq_true hoff
        have hn := Nat.eq_of_beq_eq_true hn
        have h0 : 0 < n := Nat.le_of_ble_eq_true h0
        have hname : f.name ≠ "_" := by rw [beq_eq_false_iff_ne] at hname; exact hname
        cases hx : xs.toList.drop o with
        | nil => rw [hx] at h; cases hy : ys.toList.drop o <;> rw [hy] at h <;> cases h
        | cons x xr =>
          cases hy : ys.toList.drop o with
          | nil => rw [hx, hy] at h; cases h
          | cons y yr =>
            rw [hx, hy] at h
            simp only [ceqL] at h
            split at h
            · rename_i p q e1 e2
              injection h with h; subst h
              have hxo : xs[f.offset]? = some x := by
                have := congrArg (·[0]?) hx; rw [hoff]; simpa using this
              have hyo : ys[f.offset]? = some y := by
                have := congrArg (·[0]?) hy; rw [hoff]; simpa using this
              have hxr : xs.toList.drop (o + 1) = xr := by
                have := congrArg (List.drop 1) hx; simpa [Nat.add_comm] using this
              have hyr : ys.toList.drop (o + 1) = yr := by
                have := congrArg (List.drop 1) hy; simpa [Nat.add_comm] using this
              obtain ⟨s, hh, hs⟩ := ih ns (o + 1) q hf (by rw [hxr, hyr]; exact e2)
              simp only [List.forIn_cons, if_pos hname, Sem.run_bind, run_part1 hn h0 hxo, run_part1 hn h0 hyo, Result.andThen_ok, run_eq1 hn h0 e1]
              cases p with
              | false => exact ⟨some false, by simp, rfl⟩
              | true => exact ⟨s, by simpa using hh, hs⟩
            · cases h
  obtain ⟨s, hh, hs⟩ := key fs.toList ns 0 b hf h
  refine (congrArg (Result.andThen · _) hh).trans ?_
  subst hs
  cases s <;> simp
theorem eqB_ok {P : Program} {t : TypeId} {ti : TI} (h : eqB P t ti = true) : ti.eqk ≠ [] → P.eqGuardType P.depth t = false ∧ ∀ (w : World) (xs ys : Array Value) (b : Bool), ceqL ti.eqk xs.toList ys.toList = some b → (Op.equal t (.agg xs) (.agg ys)).run P w = .ok b w := fun hne => by
  unfold eqB at h
  split at h
  · rename_i e; exact absurd e hne
  · rename_i n ns e
    simp only [Bool.and_eq_true, Bool.not_eq_true'] at h
    obtain ⟨⟨h1, h2⟩, h3⟩ := h
    refine ⟨h2, fun w xs ys b hb => ?_⟩
    split at h3
    · rename_i m el hu
      simp only [Bool.and_eq_true] at h3
      obtain ⟨⟨h4, h5⟩, h6⟩ := h3
      cases hi : P.info? el with
      | none => rw [hi] at h6; cases h6
      | some i =>
        rw [hi] at h6
        rw [e, natsB_ok _ _ h5] at hb
        exact run_equal_arr hu (Nat.eq_of_beq_eq_true h4) (Nat.le_of_ble_eq_true h1) hi (Nat.eq_of_beq_eq_true h6) w xs ys b hb
    · rename_i fs hu
      simp only [Bool.and_eq_true, Bool.not_eq_true'] at h3
      rw [e] at hb
      exact run_equal_str hu h3.1 h3.2 w xs ys b hb
    · cases h3
theorem tok_of {P : Program} (tab : List (TypeId × TI)) (h : tab.all (fun p => tiB P p.1 p.2 && eqB P p.1 p.2) = true) : TOk P (lk tab) := fun t ti ht => by
  have h' := List.all_eq_true.1 h _ (lk_mem _ _ _ ht)
  simp only [Bool.and_eq_true] at h'
  exact { toTIb := tiB_ok h'.1, eq := eqB_ok h'.2 }
end Go.Aw

set_option linter.unusedVariables false
namespace Go.Aw
def FE (rn : List (Option Nat)) (env : Nat → V) : List (Nat × V) → Prop
  | [] => True
  | (t, v) :: l => Mt rn (env t) v ∧ FE rn env l
def FM (mem : Nat → Option Ob) : List (Option Nat) → List Ob → Prop
  | [], [] => True
  | some i :: rn, ob :: M => mem i = some ob ∧ FM mem rn M
  | none :: rn, ob :: M => ob.emp = true ∧ FM mem rn M
  | _, _ => False
def FI (md : List Nat) (m m0 : Nat → Option Ob) : List Nat → Prop
  | [] => True
  | i :: l => match memB md i with | true => FI md m m0 l | false => m i = m0 i ∧ FI md m m0 l
def FB (rn : List (Option Nat)) (m m0 : Nat → Option Ob) : List (Nat × Ob) → Prop
  | [] => True
  | (i, p) :: l => (∃ ob, m0 i = some ob) ∧ ObMt rn (m i) p ∧ FB rn m m0 l
def ndB : List Nat → Bool
  | [] => true
  | i :: l => match memB l i with | true => false | false => ndB l
def FS (ids md : List Nat) (nx : Nat) (rn : List (Option Nat)) (B : List (Nat × Ob)) (M : List Ob) : Bool :=
  ndB (rn.filterMap id) && (rn.filterMap id).all (fun i => match memB ids i with | true => memB md i | false => true) && M.all Ob.isA &&
  B.all (fun p => memB md p.1 && Nat.blt p.1 nx && !memB (rn.filterMap id) p.1)
theorem ndB_ok : ∀ (l : List Nat), ndB l = true → l.Nodup
  | [], _ => List.nodup_nil
  | i :: l, h => by
    simp only [ndB] at h
    cases hm : memB l i with
    | true => rw [hm] at h; cases h
    | false =>
      rw [hm] at h
      exact List.nodup_cons.2 ⟨fun hi => (by rw [(memB_iff l i).2 hi] at hm; cases hm), ndB_ok l h⟩
theorem fits_of {σ0 σ : St} {md : List Nat} {E : List (Nat × V)} {B : List (Nat × Ob)} {M : List Ob} {rn : List (Option Nat)} (h1 : FE rn σ.env E) (h2 : FM σ.mem rn M) (h3 : FI md σ.mem σ0.mem σ0.ids) (h4 : FB rn σ.mem σ0.mem B) (h5 : FS σ0.ids md σ0.next rn B M = true) :
    Fits σ0 σ md E B M rn := by
  simp only [FS, Bool.and_eq_true] at h5
  obtain ⟨⟨⟨s1, s2⟩, s3⟩, s4⟩ := h5
  have e1 : ∀ (E : List (Nat × V)), FE rn σ.env E → ∀ p ∈ E, Mt rn (σ.env p.1) p.2 := fun E => by
    induction E with
    | nil => exact fun _ p hp => by cases hp
    | cons q E ih =>
        intro h p hp
        obtain ⟨a, b⟩ := h
        rcases List.mem_cons.1 hp with rfl | hp
        · exact a
        · exact ih b p hp
  have e2 : ∀ (rn : List (Option Nat)) (M : List Ob), FM σ.mem rn M → rn.length = M.length ∧ (∀ (j i : Nat), rn[j]? = some (some i) → σ.mem i = M[j]?) ∧ ∀ (j : Nat), rn[j]? = some none → ∃ ob, M[j]? = some ob ∧ ob.emp = true := fun rn => by
    induction rn with
    | nil => intro M h; cases M with
      | nil => exact ⟨rfl, fun j i h => by simp at h, fun j h => by simp at h⟩
      | cons _ _ => exact h.elim
    | cons r rn ih =>
      intro M h
      cases M with
      | nil => cases r <;> exact h.elim
      | cons ob M =>
        cases r with
        | some i =>
          obtain ⟨a, b⟩ := h
          obtain ⟨g1, g2, g3⟩ := ih M b
          refine ⟨by simp [g1], fun j k hj => ?_, fun j hj => ?_⟩
          · cases j with
            | zero => simp at hj; subst hj; exact a
            | succ j => exact g2 j k (by simpa using hj)
          · cases j with
            | zero => simp at hj
            | succ j => exact g3 j (by simpa using hj)
        | none =>
          obtain ⟨he0, b⟩ := h
          obtain ⟨g1, g2, g3⟩ := ih M b
          refine ⟨by simp [g1], fun j k hj => ?_, fun j hj => ?_⟩
          · cases j with
            | zero => simp at hj
            | succ j => exact g2 j k (by simpa using hj)
          · cases j with
            | zero => exact ⟨ob, rfl, he0⟩
            | succ j => exact g3 j (by simpa using hj)
  have e3 : ∀ (l : List Nat), FI md σ.mem σ0.mem l → ∀ i ∈ l, memB md i = true ∨ σ.mem i = σ0.mem i := fun l => by
    induction l with
    | nil => exact fun _ i hi => by cases hi
    | cons k l ih =>
      intro h i hi
      simp only [FI] at h
      cases hm : memB md k with
      | true =>
        rw [hm] at h
        rcases List.mem_cons.1 hi with rfl | hi
        · exact .inl hm
        · exact ih h i hi
      | false =>
        rw [hm] at h
        rcases List.mem_cons.1 hi with rfl | hi
        · exact .inr h.1
        · exact ih h.2 i hi
  have e4 : ∀ (B : List (Nat × Ob)), FB rn σ.mem σ0.mem B → ∀ p ∈ B, (∃ ob, σ0.mem p.1 = some ob) ∧ ObMt rn (σ.mem p.1) p.2 := fun B => by
    induction B with
    | nil => exact fun _ p hp => by cases hp
    | cons q B ih =>
        intro h p hp
        obtain ⟨a, b, c⟩ := h
        rcases List.mem_cons.1 hp with rfl | hp
        · exact ⟨a, b⟩
        · exact ih c p hp
  obtain ⟨g1, g2, g3⟩ := e2 rn M h2
  refine ⟨e1 E h1, g1, ndB_ok _ s1, fun i hi hm => ?_, g2, g3, e3 _ h3, s3, fun p hp => ?_⟩
  · have := List.all_eq_true.1 s2 i hi
    rw [hm] at this; exact this
  · obtain ⟨a, b⟩ := e4 B h4 p hp
    have := List.all_eq_true.1 s4 p hp
    simp only [Bool.and_eq_true, Bool.not_eq_true'] at this
    exact ⟨this.1.1, this.1.2, a, fun hm => (by rw [(memB_iff _ _).2 hm] at this; cases this.2), b⟩

/-- a loop, told by a family -/
theorem Lp.mk {F : (Exit → St → Prop) → St → Prop} {hv : List Tmp} {Q : Exit → St → Prop} {σ : St} {τ : Type} (I : τ → Prop) (m : τ → Nat) (md : List Nat) (E : τ → List (Nat × V)) (B : τ → List (Nat × Ob)) (M : τ → List Ob) (x : τ) (rn : List (Option Nat))
    (h0 : I x) (h1 : Fits σ σ md (E x) (B x) (M x) rn) (h2 : ∀ x, I x → headN σ hv md (E x) (B x) (M x) (F (fun e σ' => match e with | .normal => ∃ y rn, I y ∧ m y < m x ∧ Fits σ σ' md (E y) (B y) (M y) rn | e => Q e σ'))) : Lp F hv Q σ :=
  ⟨τ, I, m, md, E, B, M, ⟨x, rn, h0, h1⟩, h2⟩
/-- a call that takes data and gives data -/
theorem call_mk {P : Program} {G : Nat → Option Obj} {ck : Nat → Bool} {id : Nat} {us : List V} {m : Nat → Option Ob} {f : FuncId}  {k : V → Eff → Prop} {Vs : List V} {mo : List Ob} {r : V} (h : ACalls P G f [] Vs mo r) (ha : AvAL ck m us Vs)
    (hs : (us.all V.shutA = true) ∨ (bareV r = true ∧ ∀ ob ∈ mo, BareO ob)) (hf : r.flat = true) (hi : mo.all Ob.isA = true) (hl : mo.length ≤ 8) (hk : k (r.ren (id + ·)) (Eff.setL id mo)) : callE P G ck id us m f k := .inl ⟨Vs, mo, r, h, ha, hs, hf, hi, hl, hk⟩
end Go.Aw

set_option linter.unusedVariables false
namespace Go.Aw
theorem none_elim {α : Type} {r : α} {G : Prop} (h : (none : Option α) = some r) : G := by cases h
theorem ite_elim {α : Type} {p : Prop} [Decidable p] {a b : Option α} {r : α} {G : Prop} (h1 : p → a = some r → G) (h2 : ¬ p → b = some r → G) : (if p then a else b) = some r → G := fun h => by
  by_cases c : p
  · rw [if_pos c] at h; exact h1 c h
  · rw [if_neg c] at h; exact h2 c h
theorem ite_elimB {α : Type} {q : Bool} {a b : Option α} {r : α} {G : Prop} (h1 : q = true → a = some r → G) (h2 : q = false → b = some r → G) : (if q = true then a else b) = some r → G := fun h => by
  cases q
  · exact h2 rfl h
  · exact h1 rfl h
theorem bind_elim {α β : Type} {o : Option α} {g : α → Option β} {r : β} {G : Prop} (h : ∀ t, o = some t → g t = some r → G) : o.bind g = some r → G := fun hb => by
  cases o with
  | none => cases hb
  | some t => exact h t rfl hb
/-- a test that the way decides -/
theorem ft_ {b : Bool} (h : b = true := by
    first | with_reducible assumption | with_reducible exact decide_eq_true (by with_reducible assumption) | (simp only [List.length_map, Bool.not_eq_true', Bool.not_eq_false', decide_eq_true_eq, decide_eq_false_iff_not]; first | with_reducible assumption | omega) | rfl) : b = true := h
theorem ff_ {b : Bool} (h : b = false := by
    first | with_reducible assumption | with_reducible exact decide_eq_false (by with_reducible assumption) | (simp only [List.length_map, Bool.not_eq_true', Bool.not_eq_false', decide_eq_true_eq, decide_eq_false_iff_not]; first | with_reducible assumption | omega) | rfl) : b = false := h
theorem nf_ {p : Prop} (h : p := by
    first | with_reducible assumption | omega | (simp only [List.length_set, List.length_map, List.length_cons, List.length_nil, List.length_replicate, List.length_append, List.length_take] <;> first | with_reducible assumption | omega) | (simp only [List.length_map, List.length_cons, List.length_nil, List.length_replicate] at * <;> first | with_reducible assumption | omega)) : p := h

theorem avAL_nil {ck : Nat → Bool} {m : Nat → Option Ob} : AvAL ck m [] [] := rfl
theorem avAL_cons {ck : Nat → Bool} {m : Nat → Option Ob} {u x : V} {us xs : List V} (h : AvA ck m u x) (t : AvAL ck m us xs) : AvAL ck m (u :: us) (x :: xs) := ⟨x, xs, rfl, h, t⟩
theorem avL_nil {ck : Nat → Bool} {m : Nat → Option Ob} : AvL ck m [] [] := rfl
theorem avL_cons {ck : Nat → Bool} {m : Nat → Option Ob} {u x : V} {us xs : List V} (h : Av ck m u x) (t : AvL ck m us xs) : AvL ck m (u :: us) (x :: xs) := ⟨x, xs, rfl, h, t⟩
theorem avA_agg {ck : Nat → Bool} {m : Nat → Option Ob} {us xs : List V} (h : AvL ck m us xs) : AvA ck m (.agg us) (.agg xs) := ⟨xs, rfl, h⟩
theorem av_shut' {ck : Nat → Bool} {m : Nat → Option Ob} {u : V} (h : u.shut = true) : Av ck m u u := by
  cases u <;> first | rfl | exact .inl rfl | cases h
theorem avA_shut' {ck : Nat → Bool} {m : Nat → Option Ob} {u : V} (h : u.shut = true) : AvA ck m u u := by
  cases u <;> first | rfl | exact .inl rfl | cases h
theorem av_own {ck : Nat → Bool} {m : Nat → Option Ob} {i len : Nat} {e sz : Nat} {xs : List (List V)} (hc : ck i = true) (hm : m i = some (.arr e sz xs)) : Av ck m (.own i len) (.sl sz len xs) := by
  unfold Av; simp only [hc, hm]; exact ⟨len, .inl rfl, rfl⟩
theorem avA_own {ck : Nat → Bool} {m : Nat → Option Ob} {i len : Nat} {e sz : Nat} {xs : List (List V)} (hc : ck i = true) (hm : m i = some (.arr e sz xs)) : AvA ck m (.own i len) (.sl sz len xs) := av_own (len := len) hc hm
theorem av_nil {ck : Nat → Bool} {m : Nat → Option Ob} {sz : Nat} : Av ck m .nil (.sl sz 0 []) := .inr ⟨sz, rfl⟩
theorem avA_nil {ck : Nat → Bool} {m : Nat → Option Ob} {sz : Nat} : AvA ck m .nil (.sl sz 0 []) := .inr ⟨sz, rfl⟩

theorem rtL_nil {σ : St} {rn : List (Option Nat)} {fz : List Nat} : RtL σ rn fz [] [] := rfl
theorem rtL_cons {σ : St} {rn : List (Option Nat)} {fz : List Nat} {u r : V} {us rs : List V} (h : Rt σ rn fz u r) (t : RtL σ rn fz us rs) : RtL σ rn fz (u :: us) (r :: rs) := ⟨r, rs, rfl, h, t⟩
theorem rtAL_nil {σ : St} {rn : List (Option Nat)} {fz : List Nat} : RtAL σ rn fz [] [] := rfl
theorem rtAL_cons {σ : St} {rn : List (Option Nat)} {fz : List Nat} {u r : V} {us rs : List V} (h : RtA σ rn fz u r) (t : RtAL σ rn fz us rs) : RtAL σ rn fz (u :: us) (r :: rs) := ⟨r, rs, rfl, h, t⟩
theorem rtA_agg {σ : St} {rn : List (Option Nat)} {fz : List Nat} {us rs : List V} (h : RtL σ rn fz us rs) : RtA σ rn fz (.agg us) (.agg rs) := ⟨us, rfl, h⟩
theorem rt_eq {σ : St} {rn : List (Option Nat)} {fz : List Nat} {u : V} (h : (match u with | .own .. | .agg _ | .tup _ | .bp .. | .ep .. | .cf .. | .dsl .. => false | _ => true) = true) : Rt σ rn fz u u := by
  cases u <;> first | rfl | exact .inl rfl | cases h
theorem rtA_eq {σ : St} {rn : List (Option Nat)} {fz : List Nat} {u : V} (h : (match u with | .own .. | .agg _ | .tup _ | .bp .. | .ep .. | .cf .. | .dsl .. => false | _ => true) = true) : RtA σ rn fz u u := by
  cases u <;> first | rfl | exact .inl rfl | cases h
theorem rt_nil {σ : St} {rn : List (Option Nat)} {fz : List Nat} {sz : Nat} : Rt σ rn fz .nil (.sl sz 0 []) := .inr (.inl ⟨rfl, rfl, rfl⟩)
theorem rtA_nil {σ : St} {rn : List (Option Nat)} {fz : List Nat} {sz : Nat} : RtA σ rn fz .nil (.sl sz 0 []) := .inr (.inl ⟨rfl, rfl, rfl⟩)
theorem rtA_fz {σ : St} {rn : List (Option Nat)} {fz : List Nat} {i len e sz : Nat} {xs : List (List V)} (h : σ.mem i = some (.arr e sz xs)) (hf : i ∈ fz) : RtA σ rn fz (.own i len) (.sl sz len xs) := .inr (.inr ⟨i, len, e, ⟨rfl, rfl⟩, h, hf⟩)
theorem rt_fz {σ : St} {rn : List (Option Nat)} {fz : List Nat} {i len e sz : Nat} {xs : List (List V)} (h : σ.mem i = some (.arr e sz xs)) (hf : i ∈ fz) : Rt σ rn fz (.own i len) (.sl sz len xs) := .inr (.inr ⟨i, len, e, ⟨rfl, rfl⟩, h, hf⟩)
/-- one result, no object given -/
theorem ret_fz {r u : V} {σ : St} (fz : List Nat) (h : RtA σ [] fz u r) : RetOk [] [] r σ [u] :=
  ⟨[], fz, h, rfl, List.nodup_nil, fun j i h => (by simp at h), fun j h => (by simp at h), rfl, fun m h => (by simp at h), fun i _ h => (by cases h)⟩
theorem ret_tup {u1 u2 : V} {us rs : List V} {σ : St} (fz : List Nat) (h : RtAL σ [] fz (u1 :: u2 :: us) rs) : RetOk [] [] (.tup rs) σ (u1 :: u2 :: us) :=
  ⟨[], fz, ⟨rs, rfl, h⟩, rfl, List.nodup_nil, fun j i h => (by simp at h), fun j h => (by simp at h), rfl, fun m h => (by simp at h), fun i _ h => (by cases h)⟩
/-- one slice of the function's own -/
theorem ret_own {i len e sz : Nat} {xs : List (List V)} {σ : St} (h : σ.mem i = some (.arr e sz xs)) : RetOk [] [.arr e sz xs] (.own 0 len) σ [.own i len] :=
  ⟨[some i], [], rfl, rfl, (by simp), fun j k hj => (by cases j with
    | zero => simp at hj; subst hj; exact h
    | succ j => simp at hj), fun j hj => (by cases j with
    | zero => simp at hj
    | succ j => simp at hj), rfl, fun m h => (by simp at h), fun i h => (by cases h)⟩
theorem ret_own0 {e sz : Nat} {σ : St} : RetOk [] [.arr e sz []] (.own 0 0) σ [.nil] :=
  ⟨[none], [], ⟨rfl, rfl⟩, rfl, (by simp), fun j k hj => (by cases j with
    | zero => simp at hj
    | succ j => simp at hj), fun j hj => (by cases j with
    | zero => exact ⟨_, rfl, rfl⟩
    | succ j => simp at hj), rfl, fun m h => (by simp at h), fun i h => (by cases h)⟩

theorem chk_ {α : Type} {p : Prop} [Decidable p] {A : Option α} {r : α} {X : Prop} (H : (if p then A else none) = some r) (h : p → A = some r → X) : X := by
  by_cases c : p
  · rw [if_pos c] at H; exact h c H
  · rw [if_neg c] at H; cases H
theorem FM_ok {mem : Nat → Option Ob} : ∀ (rn : List (Option Nat)) (M : List Ob), FM mem rn M → rn.length = M.length ∧ (∀ (j i : Nat), rn[j]? = some (some i) → mem i = M[j]?) ∧ ∀ (j : Nat), rn[j]? = some none → ∃ ob, M[j]? = some ob ∧ ob.emp = true
  | [], [], _ => ⟨rfl, fun j i h => by simp at h, fun j h => by simp at h⟩
  | [], _ :: _, h => h.elim
  | some _ :: _, [], h => h.elim
  | none :: _, [], h => h.elim
  | some i :: rn, ob :: M, ⟨a, b⟩ => by
    obtain ⟨g1, g2, g3⟩ := FM_ok rn M b
    refine ⟨by simp [g1], fun j k hj => ?_, fun j hj => ?_⟩
    · cases j with
      | zero => simp at hj; subst hj; exact a
      | succ j => exact g2 j k (by simpa using hj)
    · cases j with
      | zero => simp at hj
      | succ j => exact g3 j (by simpa using hj)
  | none :: rn, ob :: M, ⟨he0, b⟩ => by
    obtain ⟨g1, g2, g3⟩ := FM_ok rn M b
    refine ⟨by simp [g1], fun j k hj => ?_, fun j hj => ?_⟩
    · cases j with
      | zero => simp at hj
      | succ j => exact g2 j k (by simpa using hj)
    · cases j with
      | zero => exact ⟨ob, rfl, he0⟩
      | succ j => exact g3 j (by simpa using hj)
/-- the first n are kept under their numbers -/
def pre (m : Nat) : Nat → List (Option Nat) → Bool
  | 0, _ => true
  | n + 1, some i :: l => Nat.beq i m && pre (m + 1) n l
  | _ + 1, _ => false
theorem pre_ok : ∀ (n m : Nat) (l : List (Option Nat)), pre m n l = true → ∀ j, j < n → l[j]? = some (some (m + j))
  | 0, m, l, _, j, hj => absurd hj (Nat.not_lt_zero j)
  | n + 1, m, [], h, j, hj => by cases h
  | n + 1, m, none :: l, h, j, hj => by cases h
  | n + 1, m, some i :: l, h, j, hj => by
    simp only [pre, Bool.and_eq_true] at h
    cases j with
    | zero => rw [Nat.eq_of_beq_eq_true h.1]; rfl
    | succ j =>
      have := pre_ok n (m + 1) l h.2 j (Nat.lt_of_succ_lt_succ hj)
      rw [show m + (j + 1) = m + 1 + j by omega]; simpa using this
def RB (rn : List (Option Nat)) (fz : List Nat) (n : Nat) (mo : List Ob) : Bool :=
  ndB (rn.filterMap id) && mo.all Ob.isA && pre 0 n rn && fz.all (fun i => !memB (rn.filterMap id) i)
theorem ret_gen {mi mo : List Ob} {r : V} {σ : St} {us : List V} (rn : List (Option Nat)) (fz : List Nat) (h : match us with | [u] => RtA σ rn fz u r | us => ∃ xs, r = .tup xs ∧ RtAL σ rn fz us xs) (hm : FM σ.mem rn mo) (hb : RB rn fz mi.length mo = true) : RetOk mi mo r σ us := by
  simp only [RB, Bool.and_eq_true] at hb
  obtain ⟨⟨⟨b1, b2⟩, b3⟩, b5⟩ := hb
  obtain ⟨g1, g2, g3⟩ := FM_ok rn mo hm
  refine ⟨rn, fz, h, g1, ndB_ok _ b1, g2, g3, b2, fun m hm => ?_, fun i hi hc => ?_⟩
  · have := pre_ok _ 0 rn b3 m hm
    rwa [Nat.zero_add] at this
  · have := List.all_eq_true.1 b5 i hi
    rw [(memB_iff _ _).2 hc] at this; cases this
def MI (m : Nat → Option Ob) : List Nat → List Ob → Prop
  | [], [] => True
  | i :: ids, ob :: mi => m i = some ob ∧ MI m ids mi
  | _, _ => False
theorem MI_ok {m : Nat → Option Ob} : ∀ (ids : List Nat) (mi : List Ob), MI m ids mi → ids.length = mi.length ∧ ∀ (n i : Nat), ids[n]? = some i → m i = mi[n]?
  | [], [], _ => ⟨rfl, fun n i h => by simp at h⟩
  | [], _ :: _, h => h.elim
  | _ :: _, [], h => h.elim
  | k :: ids, ob :: mi, ⟨a, b⟩ => by
    obtain ⟨g1, g2⟩ := MI_ok ids mi b
    refine ⟨by simp [g1], fun n i h => ?_⟩
    cases n with
    | zero => simp at h; subst h; exact a
    | succ n => exact g2 n i (by simpa using h)
/-- a call that writes into objects of the caller's own -/
theorem call_mk2 {P : Program} {G : Nat → Option Obj} {ck : Nat → Bool} {id : Nat} {us : List V} {m : Nat → Option Ob} {f : FuncId}  {k : V → Eff → Prop} {Vs : List V} {mi mo : List Ob} {r : V} (ids : List Nat) (h : ACalls P G f mi Vs mo r)
    (hm : MI m ids mi) (hlo : Nat.beq mo.length mi.length = true) (hnd : ndB ids = true) (hck : ids.all ck = true) (hck2 : ck 1000000007 = true) (harr : (mi ++ mo).all Ob.isA = true) (ha : us = Vs.map (V.ren fun n => ids.getD n 0))
    (hV : Vs.all (fun v => v.flat2 && v.refs ids.length) = true) (hr : V.clo r = true) (hk : k r (Eff.at ids mo)) : callE P G ck id us m f k := by
  obtain ⟨g1, g2⟩ := MI_ok ids mi hm
  exact .inr (.inl ⟨ids, Vs, mi, mo, r, h, g1, Nat.eq_of_beq_eq_true hlo, ndB_ok _ hnd, hck, hck2, g2, harr, ha, hV, hr, hk⟩)
theorem cut_ {K : St → Prop} {σ : St} (n : Nat) (E : List (Nat × V)) (B : List (Nat × Ob)) (h0 : σ.next = n) (h1 : CE0 σ.mem [] σ.env E) (h2 : CB0 σ.mem B) (k : K (low n E B)) : Cut none K σ :=
  ⟨n, E, B, [], rfl, List.all_eq_true.2 (fun p _ => rfl), h0, h1.up, h2.up, k⟩
theorem cutF_ {m : Nat} {K : St → Prop} {σ : St} (n : Nat) (fz : List Nat) (E : List (Nat × V)) (B : List (Nat × Ob)) (hf : (B.all fun p => !memB fz p.1) = true) (h0 : σ.next = n) (h1 : CE σ.mem fz σ.env E) (h2 : CB σ.mem fz B) (k : K (low n E B)) (hk : (keeps m B && mgOk m E B fz) = true := by rfl) : Cut (some m) K σ := ⟨n, E, B, fz, hk, hf, h0, h1, h2, k⟩
theorem fz_own {mem : Nat → Option Ob} {fz : List Nat} {i len e sz n : Nat} {xs ys : List (List V)} (hm : mem i = some (.arr e sz xs)) (hf : memB fz i = true) (hn : n = len ∨ xs.length = n) (hx : xs = ys) : Fz mem fz (.own i len) (.sl sz n ys) := by
  subst hx
  exact .inr ⟨i, len, e, rfl, hm, hf, hn⟩
theorem av_ownX {ck : Nat → Bool} {m : Nat → Option Ob} {i len n : Nat} {e sz : Nat} {xs ys : List (List V)} (hc : ck i = true) (hm : m i = some (.arr e sz xs)) (hn : xs.length = n) (hx : xs = ys) : Av ck m (.own i len) (.sl sz n ys) := by
  subst hx
  unfold Av; simp only [hc, hm]; exact ⟨n, .inr hn, rfl⟩
theorem avA_ownX {ck : Nat → Bool} {m : Nat → Option Ob} {i len n : Nat} {e sz : Nat} {xs ys : List (List V)} (hc : ck i = true) (hm : m i = some (.arr e sz xs)) (hn : xs.length = n) (hx : xs = ys) : AvA ck m (.own i len) (.sl sz n ys) := av_ownX (len := len) hc hm hn hx
/-- a call that writes into a slice in an object's cell -/
theorem call_mk3 {P : Program} {G : Nat → Option Obj} {ck : Nat → Bool} {id : Nat} {us : List V} {m : Nat → Option Ob} {f : FuncId} {k : V → Eff → Prop} {Vs : List V} {i idx off n : Nat} (n' : Nat) {e e' : TypeId} {sz s : Nat} {es : List TypeId} {xs : List (List V)} {p : List V} {ys ys' : List (List V)} {r : V} (h : ACalls P G f [.arr e' s ys] Vs [.arr e' s ys'] r)
    (hm : m i = some (.deep e sz es xs)) (hp : xs[idx]? = some p) (hq : p[off]? = some (.sl s n ys)) (hc : ck i = true) (hck2 : ck 1000000007 = true) (he : es.getD off 0 = e') (ha : us = Vs.map (V.inn i idx off)) (hV : Vs.all V.inOk = true) (hn : ys'.length = n') (hb : BareO (.arr e' s ys')) (hr : V.clo r = true)
    (hk : k r (Eff.set i (.deep e sz es (xs.set idx (p.set off (.sl s n' ys')))))) : callE P G ck id us m f k :=
  .inr (.inr ⟨i, idx, off, n, n', Vs, e, e', sz, s, es, xs, p, ys, ys', r, h, hc, hck2, hm, hp, hq, he, ha, hV, hn, hb, hr, hk⟩)
theorem av_dp {ck : Nat → Bool} {m : Nat → Option Ob} {i len n : Nat} {e sz : Nat} {es : List TypeId} {xs ys : List (List V)} (hc : ck i = true) (hm : m i = some (.deep e sz es xs)) (hn : xs.length = n) (hx : xs = ys) : Av ck m (.own i len) (.sl sz n ys) := by
  subst hx
  unfold Av; simp only [hc, hm]; exact ⟨n, .inr hn, rfl⟩
theorem avA_dp {ck : Nat → Bool} {m : Nat → Option Ob} {i len n : Nat} {e sz : Nat} {es : List TypeId} {xs ys : List (List V)} (hc : ck i = true) (hm : m i = some (.deep e sz es xs)) (hn : xs.length = n) (hx : xs = ys) : AvA ck m (.own i len) (.sl sz n ys) := av_dp (len := len) hc hm hn hx
/-- slices of the function's own become an object's -/
theorem mg_row {mem : Nat → Option Ob} {fz : List Nat} {i e sz idx : Nat} {es : List TypeId} {xs vs : List (List V)} {row : List V} {o : Option Ob} (row' : List V) (h0 : o = some (.dirt e sz es xs idx row)) (hnd : ndB (rowIds row) = true) (hm : MgL mem fz es 0 row row') (hv : xs.set idx row' = vs) (hf : memB fz (i + 2000000000) = true) : FzB mem fz i o (.deep e sz es vs) :=
  .inr ⟨xs, idx, row, row', h0, ndB_ok _ hnd, hm, hv.symm, hf⟩
theorem set_app {α : Type} {xs ys : List (List α)} (row : List α) (h : xs ++ [row] = ys) : (xs ++ [[]]).set xs.length row = ys := by rw [← h]; simp
theorem mg_own {mem : Nat → Option Ob} {fz : List Nat} {e m len s n : Nat} {xs ys : List (List V)} (hm : mem m = some (.arr e s xs)) (hf : memB fz (m + 1000000000) = true) (hn : n = len ∨ xs.length = n) (hx : xs = ys) (hb : BareO (.arr e s ys)) : Mg mem fz e (.own m len) (.sl s n ys) := by
  subst hx
  exact .inr (.inr ⟨m, len, rfl, hm, hf, hn, hb⟩)
theorem fz_sl {mem : Nat → Option Ob} {fz : List Nat} {u : V} {sz a n : Nat} {xs ys : List (List V)} (h0 : u = .sl sz a xs) (h : a = n) (k : xs = ys) : Fz mem fz u (.sl sz n ys) := .inl (by rw [h0, h, k])
end Go.Aw

