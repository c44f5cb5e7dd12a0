/- Words of a way to tell what a function does with data: an interpreter over values, and the proof that what it tells is so. -/
import Derived.Test.YtjhkgbfmigfmfaaY1
set_option linter.unusedVariables false
set_option linter.unusedSimpArgs false
set_option linter.unusedVariables false
namespace Go.Aw
def veq : V → V → Bool
  | .int k n, .int k' n' => decide (k = k') && decide (n = n')
  | .bool a, .bool b => decide (a = b)
  | .str a, .str b => decide (a.data.toList = b.data.toList)
  | .nil, .nil => true
  | _, _ => false
theorem aHY {a b : V} (h : veq a b = true) : a = b := by
  cases a <;> cases b <;> simp only [veq, Bool.and_eq_true, decide_eq_true_eq, Bool.false_eq_true] at h <;> first | exact h.elim | skip
  · obtain ⟨rfl, rfl⟩ := h; rfl
  · subst h; rfl
  · rename_i x y
    have : x = y := ByteArray.ext (Array.toList_inj.1 h)
    rw [this]
  · rfl
def aFI : List V → List V → Bool
  | [], [] => true
  | a :: xs, b :: bs => veq a b && aFI xs bs
  | _, _ => false
theorem aAK : ∀ (xs bs : List V), aFI xs bs = true → xs = bs
  | [], [], _ => rfl
  | a :: xs, b :: bs, h => by
    simp only [aFI, Bool.and_eq_true] at h
    rw [aHY h.1, aAK xs bs h.2]
  | [], _ :: _, h => by cases h
  | _ :: _, [], h => by cases h

def aFX (P : Program) : List Field → List (Nat × TypeId) → List (Nat × Nat) → Bool
  | [], [], [] => true
  | f :: fs, (off, ft) :: l, (o2, sz) :: m => Nat.beq f.offset off && Nat.beq f.type ft && Nat.beq o2 off && (match P.info? ft with | some i => Nat.beq i.size sz && Nat.blt 0 i.size | none => false) && aFX P fs l m
  | _, _, _ => false
def aER (s : Nat) : Nat → List (Nat × Nat) → Bool
  | _, [] => true
  | n, (a, b) :: l => Nat.beq a (n * s) && Nat.beq b s && aER s (n + 1) l
/-- what the table says of a type is so -/
def tiB (P : Program) (t : TypeId) (ti : TI) : Bool :=
  (ti.agg || Nat.beq ti.size 1) && Nat.blt 0 ti.size && Nat.blt 0 ti.bytes &&
  (match P.info? t with
    | some i => Nat.beq i.size ti.size && Nat.beq i.bytes ti.bytes && (match i.zero with | some z => aFI (z.cells.toList.map cv) ti.zero && Nat.beq z.cells.size ti.size | none => false)
    | none => false) &&
  (match P.underlying t with
    | some (.struct fs) => Nat.beq ti.alen 0 && ti.agg && !ti.sl && ti.int.isNone && !ti.str && !ti.bool && aFX P fs.toList ti.flds ti.plc
    | some (.array n e) => Nat.beq ti.alen n && ti.agg && !ti.sl && ti.int.isNone && !ti.str && !ti.bool && ti.flds.isEmpty && Nat.beq ti.elem e && (match P.info? e with | some i => aER i.size 0 ti.plc | none => false)
    | some (.slice e) => Nat.beq ti.alen 0 && !ti.agg && ti.sl && Nat.beq ti.elem e && ti.int.isNone && !ti.str && !ti.bool && ti.flds.isEmpty
    | some (.int k) => Nat.beq ti.alen 0 && !ti.agg && !ti.sl && decide (ti.int = some k) && !ti.str && !ti.bool && ti.flds.isEmpty
    | some .string => Nat.beq ti.alen 0 && !ti.agg && !ti.sl && ti.int.isNone && ti.str && !ti.bool && ti.flds.isEmpty
    | some .bool => Nat.beq ti.alen 0 && !ti.agg && !ti.sl && ti.int.isNone && !ti.str && ti.bool && ti.flds.isEmpty
    | _ => false)
theorem zL {P : Program} : ∀ (fs : List Field) (l : List (Nat × TypeId)) (m : List (Nat × Nat)), aFX P fs l m = true →
    (∀ (f off : Nat) (ft : TypeId), l[f]? = some (off, ft) → ∃ fl, fs[f]? = some fl ∧ fl.offset = off ∧ fl.type = ft ∧ ∃ fi, P.info? ft = some fi ∧ fi.size ≠ 0) ∧ fs.mapM (fun f => (P.info? f.type).map fun i => (f.offset, i.size)) = some m
  | [], [], [], _ => ⟨fun f off ft h => by simp at h, rfl⟩
  | f :: fs, (off, ft) :: l, (o2, sz) :: m, h => by
    simp only [aFX, Bool.and_eq_true] at h
    obtain ⟨⟨⟨⟨h1, h2⟩, h3⟩, h4⟩, h5⟩ := h
    have e1 := Nat.eq_of_beq_eq_true h1
    have e2 := Nat.eq_of_beq_eq_true h2
    have e3 := Nat.eq_of_beq_eq_true h3
    obtain ⟨g1, g2⟩ := zL fs l m h5
    cases hi : P.info? ft with
    | none => rw [hi] at h4; cases h4
    | some i =>
      rw [hi] at h4
      simp only [Bool.and_eq_true] at h4
      have e4 := Nat.eq_of_beq_eq_true h4.1
      have e5 : 0 < i.size := Nat.le_of_ble_eq_true h4.2
      refine ⟨fun n off' ft' hn => ?_, ?_⟩
      · cases n with
        | zero => simp at hn; obtain ⟨rfl, rfl⟩ := hn; exact ⟨f, rfl, e1, e2, i, hi, by omega⟩
        | succ n => exact g1 n off' ft' (by simpa using hn)
      · rw [List.mapM_cons, e2, hi, g2, e1, e3]; simp [e4]
  | [], _ :: _, _, h => by cases h
  | [], [], _ :: _, h => by cases h
  | _ :: _, [], _, h => by cases h
  | _ :: _, (_, _) :: _, [], h => by cases h
theorem aAH (s : Nat) : ∀ (l : List (Nat × Nat)) (n : Nat), aER s n l = true → ∀ (i : Nat) (p : Nat × Nat), l[i]? = some p → some ((n + i) * s, s) = some p
  | [], n, _, i, p, h => by simp at h
  | (a, b) :: l, n, h, i, p, hi => by
    simp only [aER, Bool.and_eq_true] at h
    obtain ⟨⟨h1, h2⟩, h3⟩ := h
    cases i with
    | zero => simp at hi; subst hi; rw [Nat.eq_of_beq_eq_true h1, Nat.eq_of_beq_eq_true h2, Nat.add_zero]
    | succ i =>
      have := aAH s l (n + 1) h3 i p (by simpa using hi)
      rw [show n + (i + 1) = n + 1 + i by omega]; exact this
theorem aHF {P : Program} {t : TypeId} {ti : TI} (h : tiB P t ti = true) : TIb P t ti := by
  simp only [tiB, Bool.and_eq_true] at h
  obtain ⟨⟨⟨⟨h1, h2⟩, h3⟩, h4⟩, h5⟩ := h
  cases hi : P.info? t with
  | none => rw [hi] at h4; cases h4
  | some i =>
    rw [hi] at h4
    simp only [Bool.and_eq_true] at h4
    obtain ⟨⟨a1, a2⟩, a3⟩ := h4
    cases hz : i.zero with
    | none => rw [hz] at a3; cases a3
    | some z =>
      rw [hz] at a3
      simp only [Bool.and_eq_true] at a3
      have ez := aAK _ _ a3.1
      have es := Nat.eq_of_beq_eq_true a3.2
      have base : ∃ i z, P.info? t = some i ∧ i.size = ti.size ∧ i.bytes = ti.bytes ∧ i.zero = some z ∧ z.cells.toList.map cv = ti.zero ∧ z.cells.size = ti.size :=
        ⟨i, z, hi, Nat.eq_of_beq_eq_true a1, Nat.eq_of_beq_eq_true a2, hz, ez, es⟩
      have hone : ti.agg = false → ti.size = 1 := fun hf => by rw [hf, Bool.false_or] at h1; exact Nat.eq_of_beq_eq_true h1
      have hp : 0 < ti.size := Nat.le_of_ble_eq_true h2
      have hbp : 0 < ti.bytes := Nat.le_of_ble_eq_true h3
      cases hu : P.underlying t with
      | none => rw [hu] at h5; cases h5
      | some d =>
        rw [hu] at h5
        cases d with
        | struct fs =>
          simp only [Bool.and_eq_true, Bool.not_eq_true'] at h5
          obtain ⟨⟨⟨⟨⟨⟨c0, c1⟩, c2⟩, c3⟩, c4⟩, c5⟩, c6⟩ := h5
          obtain ⟨g1, g2⟩ := zL _ _ _ c6
          refine ⟨fun _ => ⟨z, fun n => ti.plc.toArray[n]?, ez, fun n p hn => by simpa using hn, fun parts => ?_⟩, hone, hp, hbp, base, _, hu, fun _ => .inl ⟨fs, rfl⟩, fun hf => (by rw [c1] at hf; cases hf), fun f off ft hf => ?_, fun hs => (by rw [c2] at hs; cases hs), fun k hk => (by rw [hk] at c3; cases c3), fun hs => (by rw [c4] at hs; cases hs), fun hs => (by rw [c5] at hs; cases hs), fun ha => absurd ha (by rw [Nat.eq_of_beq_eq_true c0]; exact Nat.lt_irrefl _)⟩
          · unfold Program.built
            simp only [hi, hu, hz, g2]
          · obtain ⟨fl, k1, k2, k3, k4⟩ := g1 f off ft hf
            exact ⟨fs, fl, rfl, by simpa using k1, k2, k3, k4⟩
        | array n e =>
          simp only [Bool.and_eq_true, Bool.not_eq_true'] at h5
          obtain ⟨⟨⟨⟨⟨⟨⟨⟨c0, c1⟩, c2⟩, c3⟩, c4⟩, c5⟩, c6⟩, c7⟩, c8⟩ := h5
          cases hie : P.info? e with
          | none => rw [hie] at c8; cases c8
          | some ie =>
            rw [hie] at c8
            refine ⟨fun _ => ⟨z, fun n => some (n * ie.size, ie.size), ez, fun n p hn => by have := aAH _ _ 0 c8 n p hn; rwa [Nat.zero_add] at this, fun parts => ?_⟩, hone, hp, hbp, base, _, hu, fun _ => .inr ⟨n, e, rfl⟩, fun hf => (by rw [c1] at hf; cases hf), fun f off ft hf => ?_, fun hs => (by rw [c2] at hs; cases hs), fun k hk => (by rw [hk] at c3; cases c3), fun hs => (by rw [c4] at hs; cases hs), fun hs => (by rw [c5] at hs; cases hs), fun _ => (by rw [Nat.eq_of_beq_eq_true c0, Nat.eq_of_beq_eq_true c7])⟩
            · unfold Program.built
              simp only [hi, hu, hz, hie]
            · rw [List.isEmpty_iff] at c6; rw [c6] at hf; simp at hf
        | slice e =>
          simp only [Bool.and_eq_true, Bool.not_eq_true'] at h5
          obtain ⟨⟨⟨⟨⟨⟨⟨c0, c1⟩, c2⟩, c3⟩, c4⟩, c5⟩, c6⟩, c7⟩ := h5
          refine ⟨fun hh => (by rw [c1] at hh; cases hh), hone, hp, hbp, base, _, hu, fun hh => (by rw [c1] at hh; cases hh), fun _ => ⟨fun _ h => (by cases h), fun _ _ h => (by cases h)⟩, fun f off ft hf => ?_, fun _ => ⟨by rw [Nat.eq_of_beq_eq_true c3], hp⟩, fun k hk => (by rw [hk] at c4; cases c4), fun hs => (by rw [c5] at hs; cases hs), fun hs => (by rw [c6] at hs; cases hs), fun ha => absurd ha (by rw [Nat.eq_of_beq_eq_true c0]; exact Nat.lt_irrefl _)⟩
          rw [List.isEmpty_iff] at c7; rw [c7] at hf; simp at hf
        | int k =>
          simp only [Bool.and_eq_true, Bool.not_eq_true', decide_eq_true_eq] at h5
          obtain ⟨⟨⟨⟨⟨⟨c0, c1⟩, c2⟩, c3⟩, c4⟩, c5⟩, c6⟩ := h5
          refine ⟨fun hh => (by rw [c1] at hh; cases hh), hone, hp, hbp, base, _, hu, fun hh => (by rw [c1] at hh; cases hh), fun _ => ⟨fun _ h => (by cases h), fun _ _ h => (by cases h)⟩, fun f off ft hf => ?_, fun hs => (by rw [c2] at hs; cases hs), fun k' hk => (by rw [c3] at hk; injection hk with hk; rw [hk]), fun hs => (by rw [c4] at hs; cases hs), fun hs => (by rw [c5] at hs; cases hs), fun ha => absurd ha (by rw [Nat.eq_of_beq_eq_true c0]; exact Nat.lt_irrefl _)⟩
          rw [List.isEmpty_iff] at c6; rw [c6] at hf; simp at hf
        | string =>
          simp only [Bool.and_eq_true, Bool.not_eq_true'] at h5
          obtain ⟨⟨⟨⟨⟨⟨c0, c1⟩, c2⟩, c3⟩, c4⟩, c5⟩, c6⟩ := h5
          refine ⟨fun hh => (by rw [c1] at hh; cases hh), hone, hp, hbp, base, _, hu, fun hh => (by rw [c1] at hh; cases hh), fun _ => ⟨fun _ h => (by cases h), fun _ _ h => (by cases h)⟩, fun f off ft hf => ?_, fun hs => (by rw [c2] at hs; cases hs), fun k hk => (by rw [hk] at c3; cases c3), fun _ => rfl, fun hs => (by rw [c5] at hs; cases hs), fun ha => absurd ha (by rw [Nat.eq_of_beq_eq_true c0]; exact Nat.lt_irrefl _)⟩
          rw [List.isEmpty_iff] at c6; rw [c6] at hf; simp at hf
        | bool =>
          simp only [Bool.and_eq_true, Bool.not_eq_true'] at h5
          obtain ⟨⟨⟨⟨⟨⟨c0, c1⟩, c2⟩, c3⟩, c4⟩, c5⟩, c6⟩ := h5
          refine ⟨fun hh => (by rw [c1] at hh; cases hh), hone, hp, hbp, base, _, hu, fun hh => (by rw [c1] at hh; cases hh), fun _ => ⟨fun _ h => (by cases h), fun _ _ h => (by cases h)⟩, fun f off ft hf => ?_, fun hs => (by rw [c2] at hs; cases hs), fun k hk => (by rw [hk] at c3; cases c3), fun hs => (by rw [c4] at hs; cases hs), fun _ => rfl, fun ha => absurd ha (by rw [Nat.eq_of_beq_eq_true c0]; exact Nat.lt_irrefl _)⟩
          rw [List.isEmpty_iff] at c6; rw [c6] at hf; simp at hf
        | _ => cases h5
def tA (P : Program) (e : TypeId) : Nat := match P.underlying e with | some (.int _) => 1 | some .string => 2 | some .bool => 3 | _ => 0
def zJ (n : Nat) : List Nat → Nat → Bool
  | [], 0 => true
  | m :: l, k + 1 => Nat.beq m n && zJ n l k
  | _, _ => false
def aDB (P : Program) : List Field → List Nat → Nat → Bool
  | [], [], _ => true
  | f :: fs, n :: ns, o => (!(f.name == "_") && Nat.beq f.offset o) && ((Nat.blt 0 n && Nat.beq (tA P f.type) n) && aDB P fs ns (o + 1))
  | _, _, _ => false
def eqB (P : Program) (t : TypeId) (ti : TI) : Bool :=
  match ti.eqk with
  | [] => true
  | n :: ns => Nat.blt 0 n && !P.eqGuardType P.depth t && (match P.underlying t with
    | some (.array m e) => Nat.beq (tA P e) n && zJ n (n :: ns) m && (match P.info? e with | some i => Nat.beq i.size 1 | none => false)
    | some (.struct fs) => !P.stoodInHeld t && aDB P fs.toList (n :: ns) 0
    | _ => false)
theorem wB {n : Nat} : ∀ (l : List Nat) (k : Nat), zJ n l k = true → l = List.replicate k n
  | [], 0, _ => rfl
  | m :: l, k + 1, h => by
    simp only [zJ, Bool.and_eq_true] at h
    rw [Nat.eq_of_beq_eq_true h.1, wB l k h.2]; rfl
  | [], _ + 1, h => by cases h
  | _ :: _, 0, h => by cases h
theorem aAG {P : Program} {w : World} {d : Nat} {e : TypeId} {n : Nat} (hn : tA P e = n) (h0 : 0 < n) {a b : Value} {r : Bool} (h : aDJ n a b = some r) : (Op.equalIn (d + 1) e a b).run P w = .ok r w := by
  unfold aDJ at h
  unfold tA at hn
  split at h
  · rename_i k x k' y
    split at h
    · rename_i hk; subst hk; injection h with h; subst h
      split at hn <;> first | exact absurd hn (by decide) | skip
      rename_i k1 hu
      rw [run_equalIn_int w d e k k1 x y hu]; congr 1
    · cases h
  · injection h with h; subst h
    split at hn <;> first | exact absurd hn (by decide) | skip
    rename_i hu
    rw [run_equalIn_string w d e _ _ hu]; congr 1; rw [Bool.eq_iff_iff, beq_iff_eq, decide_eq_true_iff]
  · injection h with h; subst h
    split at hn <;> first | exact absurd hn (by decide) | skip
    rename_i hu
    exact run_equalIn_bool' w d e _ _ hu
  · cases h
theorem nX {P : Program} {w : World} {e : TypeId} {n : Nat} (hn : tA P e = n) (h0 : 0 < n) {xs : Array Value} {i : Nat} {v : Value} (hv : xs[i]? = some v) : (part e xs i).run P w = .ok v w := by
  have ha : (isAgg e).run P w = .ok false w := by
    unfold tA at hn
    split at hn <;> first | exact absurd hn (by omega) | skip
    all_goals (rename_i hu; unfold isAgg; simp only [Sem.run_bind, run_underlying hu, Result.andThen_ok]; rfl)
  simp only [part, Sem.run_bind, ha, Result.andThen_ok, hv]
  rfl
theorem tG {P : Program} {t e : TypeId} {m n : Nat} (hu : P.underlying t = some (.array m e)) (hn : tA P e = n) (h0 : 0 < n) {i : TypeInfo} (hi : P.info? e = some i) (hs : i.size = 1) (w : World) (xs ys : Array Value) (b : Bool)
    (h : pG (List.replicate m n) xs.toList ys.toList = some b) : (Op.equal t (.agg xs) (.agg ys)).run P w = .ok b w := by
  have hsz : (sizeOf e).run P w = .ok 1 w := by simp [sizeOf, typeInfo, hi, hs]
  have hM : Op.equal t (.agg xs) (.agg ys) = Op.equalIn (9998 + 1 + 1) t (.agg xs) (.agg ys) := rfl
  rw [hM]
  generalize 9998 = d
  rw [Op.equalIn]
  simp only [Sem.run_bind, run_underlying hu, Result.andThen_ok, hsz]
  rw [Std.Legacy.Range.forIn_eq_forIn_range']
  have key : ∀ (k o : Nat) (b : Bool), pG (List.replicate k n) (xs.toList.drop o) (ys.toList.drop o) = some b →
      ∃ s : Option Bool, Sem.run P (forIn (List.range' o k 1) ((none : Option Bool), ()) fun i __s => do
        let a ← part e xs (i * 1)
        let b ← part e ys (i * 1)
        let r ← Op.equalIn (d + 1) e a b
        if (!r) = true then pure (ForInStep.done (some false, ())) else pure (ForInStep.yield (none, ()))) w = Result.ok (s, ()) w ∧ s.getD true = b := by
    intro k
    induction k with
    | zero =>
      intro o b h
      have : b = true := by
        cases hx : xs.toList.drop o <;> cases hy : ys.toList.drop o <;> rw [hx, hy] at h <;> simp [pG] at h
        exact h
      subst this
      exact ⟨none, by simp, rfl⟩
    | succ k ih =>
      intro o b h
      rw [List.replicate_succ] at h
      cases hx : xs.toList.drop o with
      | nil => rw [hx] at h; cases hy : ys.toList.drop o <;> rw [hy] at h <;> cases h
      | cons x xr =>
        cases hy : ys.toList.drop o with
        | nil => rw [hx, hy] at h; cases h
        | cons y yr =>
          rw [hx, hy] at h
          simp only [pG] at h
          split at h
          · rename_i p q e1 e2
            injection h with h; subst h
            have hxo : xs[o * 1]? = some x := by
              have := congrArg (·[0]?) hx; simpa using this
            have hyo : ys[o * 1]? = some y := by
              have := congrArg (·[0]?) hy; simpa using this
            have hxr : xs.toList.drop (o + 1) = xr := by
              have := congrArg (List.drop 1) hx; simpa [Nat.add_comm] using this
            have hyr : ys.toList.drop (o + 1) = yr := by
              have := congrArg (List.drop 1) hy; simpa [Nat.add_comm] using this
            obtain ⟨s, hh, hs⟩ := ih (o + 1) q (by rw [hxr, hyr]; exact e2)
            rw [List.range'_succ]
            simp only [List.forIn_cons, Sem.run_bind, nX hn h0 hxo, nX hn h0 hyo, Result.andThen_ok, aAG hn h0 e1]
            cases p with
            | false => exact ⟨some false, by simp, rfl⟩
            | true => exact ⟨s, by simpa using hh, hs⟩
          · cases h
  rw [show ([:m] : Std.Legacy.Range).size = m by simp [Std.Legacy.Range.size]]
  obtain ⟨s, hh, hs⟩ := key m 0 b h
  refine (congrArg (Result.andThen · _) hh).trans ?_
  subst hs
  cases s <;> simp
theorem tL {P : Program} {t : TypeId} {fs : Array Field} {ns : List Nat} (hu : P.underlying t = some (.struct fs)) (hst : P.stoodInHeld t = false) (hf : aDB P fs.toList ns 0 = true) (w : World) (xs ys : Array Value) (b : Bool)
    (h : pG ns xs.toList ys.toList = some b) : (Op.equal t (.agg xs) (.agg ys)).run P w = .ok b w := by
  have hM : Op.equal t (.agg xs) (.agg ys) = Op.equalIn (9998 + 1 + 1) t (.agg xs) (.agg ys) := rfl
  rw [hM]
  generalize 9998 = d
  rw [Op.equalIn]
  have hp : (Sem.run P program w) = .ok P w := rfl
  simp only [Sem.run_bind, run_underlying hu, Result.andThen_ok, hp, hst, if_neg Bool.false_ne_true]
  rw [← Array.forIn_toList]
  have key : ∀ (fl : List Field) (ns : List Nat) (o : Nat) (b : Bool), aDB P fl ns o = true → pG ns (xs.toList.drop o) (ys.toList.drop o) = some b →
      ∃ s : Option Bool, Sem.run P (forIn fl ((none : Option Bool), ()) fun f __s =>
        if f.name ≠ "_" then do
          let a ← part f.type xs f.offset
          let b ← part f.type ys f.offset
          let r ← Op.equalIn (d + 1) f.type a b
          if (!r) = true then pure (ForInStep.done (some false, ())) else pure (ForInStep.yield (none, ()))
        else pure (ForInStep.yield (none, ()))) w = Result.ok (s, ()) w ∧ s.getD true = b := by
    intro fl
    induction fl with
    | nil =>
      intro ns o b hf h
      cases ns with
      | nil =>
        have : b = true := by
          cases hx : xs.toList.drop o <;> cases hy : ys.toList.drop o <;> rw [hx, hy] at h <;> simp [pG] at h
          exact h
        subst this
        exact ⟨none, by simp, rfl⟩
      | cons n ns => cases hf
    | cons f fl ih =>
      intro ns o b hf h
      cases ns with
      | nil => cases hf
      | cons n ns =>
        simp only [aDB, Bool.and_eq_true, Bool.not_eq_true'] at hf
        obtain ⟨⟨hname, hoff⟩, ⟨h0, hn⟩, hf⟩ := hf
        have hoff := Nat.eq_of_beq_eq_true hoff
        have hn := Nat.eq_of_beq_eq_true hn
        have h0 : 0 < n := Nat.le_of_ble_eq_true h0
        have hname : f.name ≠ "_" := by rw [beq_eq_false_iff_ne] at hname; exact hname
        cases hx : xs.toList.drop o with
        | nil => rw [hx] at h; cases hy : ys.toList.drop o <;> rw [hy] at h <;> cases h
        | cons x xr =>
          cases hy : ys.toList.drop o with
          | nil => rw [hx, hy] at h; cases h
          | cons y yr =>
            rw [hx, hy] at h
            simp only [pG] at h
            split at h
            · rename_i p q e1 e2
              injection h with h; subst h
              have hxo : xs[f.offset]? = some x := by
                have := congrArg (·[0]?) hx; rw [hoff]; simpa using this
              have hyo : ys[f.offset]? = some y := by
                have := congrArg (·[0]?) hy; rw [hoff]; simpa using this
              have hxr : xs.toList.drop (o + 1) = xr := by
                have := congrArg (List.drop 1) hx; simpa [Nat.add_comm] using this
              have hyr : ys.toList.drop (o + 1) = yr := by
                have := congrArg (List.drop 1) hy; simpa [Nat.add_comm] using this
              obtain ⟨s, hh, hs⟩ := ih ns (o + 1) q hf (by rw [hxr, hyr]; exact e2)
              simp only [List.forIn_cons, if_pos hname, Sem.run_bind, nX hn h0 hxo, nX hn h0 hyo, Result.andThen_ok, aAG hn h0 e1]
              cases p with
              | false => exact ⟨some false, by simp, rfl⟩
              | true => exact ⟨s, by simpa using hh, hs⟩
            · cases h
  obtain ⟨s, hh, hs⟩ := key fs.toList ns 0 b hf h
  refine (congrArg (Result.andThen · _) hh).trans ?_
  subst hs
  cases s <;> simp
theorem aHU {P : Program} {t : TypeId} {ti : TI} (h : eqB P t ti = true) : ti.eqk ≠ [] → P.eqGuardType P.depth t = false ∧ ∀ (w : World) (xs ys : Array Value) (b : Bool), pG ti.eqk xs.toList ys.toList = some b → (Op.equal t (.agg xs) (.agg ys)).run P w = .ok b w := fun hne => by
  unfold eqB at h
  split at h
  · rename_i e; exact absurd e hne
  · rename_i n ns e
    simp only [Bool.and_eq_true, Bool.not_eq_true'] at h
    obtain ⟨⟨h1, h2⟩, h3⟩ := h
    refine ⟨h2, fun w xs ys b hb => ?_⟩
    split at h3
    · rename_i m el hu
      simp only [Bool.and_eq_true] at h3
      obtain ⟨⟨h4, h5⟩, h6⟩ := h3
      cases hi : P.info? el with
      | none => rw [hi] at h6; cases h6
      | some i =>
        rw [hi] at h6
        rw [e, wB _ _ h5] at hb
        exact tG hu (Nat.eq_of_beq_eq_true h4) (Nat.le_of_ble_eq_true h1) hi (Nat.eq_of_beq_eq_true h6) w xs ys b hb
    · rename_i fs hu
      simp only [Bool.and_eq_true, Bool.not_eq_true'] at h3
      rw [e] at hb
      exact tL hu h3.1 h3.2 w xs ys b hb
    · cases h3
theorem aHI {P : Program} (tab : List (TypeId × TI)) (h : tab.all (fun p => tiB P p.1 p.2 && eqB P p.1 p.2) = true) : TOk P (lk tab) := fun t ti ht => by
  have h' := List.all_eq_true.1 h _ (jN _ _ _ ht)
  simp only [Bool.and_eq_true] at h'
  exact { toTIb := aHF h'.1, eq := aHU h'.2 }
end Go.Aw

set_option linter.unusedVariables false
namespace Go.Aw
def FE (rn : List (Option Nat)) (env : Nat → V) : List (Nat × V) → Prop
  | [] => True
  | (t, v) :: l => Mt rn (env t) v ∧ FE rn env l
def FM (mem : Nat → Option Ob) : List (Option Nat) → List Ob → Prop
  | [], [] => True
  | some i :: rn, ob :: M => mem i = some ob ∧ FM mem rn M
  | none :: rn, ob :: M => ob.emp = true ∧ FM mem rn M
  | _, _ => False
def FI (md : List Nat) (m m0 : Nat → Option Ob) : List Nat → Prop
  | [] => True
  | i :: l => match fS md i with | true => FI md m m0 l | false => m i = m0 i ∧ FI md m m0 l
def FB (rn : List (Option Nat)) (m m0 : Nat → Option Ob) : List (Nat × Ob) → Prop
  | [] => True
  | (i, p) :: l => (∃ ob, m0 i = some ob) ∧ aHX rn (m i) p ∧ FB rn m m0 l
def ndB : List Nat → Bool
  | [] => true
  | i :: l => match fS l i with | true => false | false => ndB l
def FS (ids md : List Nat) (nx : Nat) (rn : List (Option Nat)) (B : List (Nat × Ob)) (M : List Ob) : Bool :=
  ndB (rn.filterMap id) && (rn.filterMap id).all (fun i => match fS ids i with | true => fS md i | false => true) && M.all Ob.isA &&
  B.all (fun p => fS md p.1 && Nat.blt p.1 nx && !fS (rn.filterMap id) p.1)
theorem pY : ∀ (l : List Nat), ndB l = true → l.Nodup
  | [], _ => List.nodup_nil
  | i :: l, h => by
    simp only [ndB] at h
    cases hm : fS l i with
    | true => rw [hm] at h; cases h
    | false =>
      rw [hm] at h
      exact List.nodup_cons.2 ⟨fun hi => (by rw [(iE l i).2 hi] at hm; cases hm), pY l h⟩
theorem bG {σ0 σ : St} {md : List Nat} {E : List (Nat × V)} {B : List (Nat × Ob)} {M : List Ob} {rn : List (Option Nat)} (h1 : FE rn σ.env E) (h2 : FM σ.mem rn M) (h3 : FI md σ.mem σ0.mem σ0.ids) (h4 : FB rn σ.mem σ0.mem B) (h5 : FS σ0.ids md σ0.next rn B M = true) :
    cM σ0 σ md E B M rn := by
  simp only [FS, Bool.and_eq_true] at h5
  obtain ⟨⟨⟨s1, s2⟩, s3⟩, s4⟩ := h5
  have e1 : ∀ (E : List (Nat × V)), FE rn σ.env E → ∀ p ∈ E, Mt rn (σ.env p.1) p.2 := fun E => by
    induction E with
    | nil => exact fun _ p hp => by cases hp
    | cons q E ih =>
        intro h p hp
        obtain ⟨a, b⟩ := h
        rcases List.mem_cons.1 hp with rfl | hp
        · exact a
        · exact ih b p hp
  have e2 : ∀ (rn : List (Option Nat)) (M : List Ob), FM σ.mem rn M → rn.length = M.length ∧ (∀ (j i : Nat), rn[j]? = some (some i) → σ.mem i = M[j]?) ∧ ∀ (j : Nat), rn[j]? = some none → ∃ ob, M[j]? = some ob ∧ ob.emp = true := fun rn => by
    induction rn with
    | nil => intro M h; cases M with
      | nil => exact ⟨rfl, fun j i h => by simp at h, fun j h => by simp at h⟩
      | cons _ _ => exact h.elim
    | cons r rn ih =>
      intro M h
      cases M with
      | nil => cases r <;> exact h.elim
      | cons ob M =>
        cases r with
        | some i =>
          obtain ⟨a, b⟩ := h
          obtain ⟨g1, g2, g3⟩ := ih M b
          refine ⟨by simp [g1], fun j k hj => ?_, fun j hj => ?_⟩
          · cases j with
            | zero => simp at hj; subst hj; exact a
            | succ j => exact g2 j k (by simpa using hj)
          · cases j with
            | zero => simp at hj
            | succ j => exact g3 j (by simpa using hj)
        | none =>
          obtain ⟨he0, b⟩ := h
          obtain ⟨g1, g2, g3⟩ := ih M b
          refine ⟨by simp [g1], fun j k hj => ?_, fun j hj => ?_⟩
          · cases j with
            | zero => simp at hj
            | succ j => exact g2 j k (by simpa using hj)
          · cases j with
            | zero => exact ⟨ob, rfl, he0⟩
            | succ j => exact g3 j (by simpa using hj)
  have e3 : ∀ (l : List Nat), FI md σ.mem σ0.mem l → ∀ i ∈ l, fS md i = true ∨ σ.mem i = σ0.mem i := fun l => by
    induction l with
    | nil => exact fun _ i hi => by cases hi
    | cons k l ih =>
      intro h i hi
      simp only [FI] at h
      cases hm : fS md k with
      | true =>
        rw [hm] at h
        rcases List.mem_cons.1 hi with rfl | hi
        · exact .inl hm
        · exact ih h i hi
      | false =>
        rw [hm] at h
        rcases List.mem_cons.1 hi with rfl | hi
        · exact .inr h.1
        · exact ih h.2 i hi
  have e4 : ∀ (B : List (Nat × Ob)), FB rn σ.mem σ0.mem B → ∀ p ∈ B, (∃ ob, σ0.mem p.1 = some ob) ∧ aHX rn (σ.mem p.1) p.2 := fun B => by
    induction B with
    | nil => exact fun _ p hp => by cases hp
    | cons q B ih =>
        intro h p hp
        obtain ⟨a, b, c⟩ := h
        rcases List.mem_cons.1 hp with rfl | hp
        · exact ⟨a, b⟩
        · exact ih c p hp
  obtain ⟨g1, g2, g3⟩ := e2 rn M h2
  refine ⟨e1 E h1, g1, pY _ s1, fun i hi hm => ?_, g2, g3, e3 _ h3, s3, fun p hp => ?_⟩
  · have := List.all_eq_true.1 s2 i hi
    rw [hm] at this; exact this
  · obtain ⟨a, b⟩ := e4 B h4 p hp
    have := List.all_eq_true.1 s4 p hp
    simp only [Bool.and_eq_true, Bool.not_eq_true'] at this
    exact ⟨this.1.1, this.1.2, a, fun hm => (by rw [(iE _ _).2 hm] at this; cases this.2), b⟩

/-- a loop, told by a family -/
theorem Lp.mk {F : (Exit → St → Prop) → St → Prop} {hv : List Tmp} {Q : Exit → St → Prop} {σ : St} {τ : Type} (I : τ → Prop) (m : τ → Nat) (md : List Nat) (E : τ → List (Nat × V)) (B : τ → List (Nat × Ob)) (M : τ → List Ob) (x : τ) (rn : List (Option Nat))
    (h0 : I x) (h1 : cM σ σ md (E x) (B x) (M x) rn) (h2 : ∀ x, I x → dF σ hv md (E x) (B x) (M x) (F (fun e σ' => match e with | .normal => ∃ y rn, I y ∧ m y < m x ∧ cM σ σ' md (E y) (B y) (M y) rn | e => Q e σ'))) : Lp F hv Q σ :=
  ⟨τ, I, m, md, E, B, M, ⟨x, rn, h0, h1⟩, h2⟩
/-- a call that takes data and gives data -/
theorem fM {P : Program} {G : Nat → Option Obj} {ck : Nat → Bool} {id : Nat} {us : List V} {m : Nat → Option Ob} {f : FuncId}  {k : V → Eff → Prop} {Vs : List V} {mo : List Ob} {r : V} (h : cK P G f [] Vs mo r) (ha : rA ck m us Vs)
    (hs : (us.all V.shutA = true) ∨ (zV r = true ∧ ∀ ob ∈ mo, lS ob)) (hf : r.flat = true) (hi : mo.all Ob.isA = true) (hl : mo.length ≤ 8) (hk : k (r.ren (id + ·)) (Eff.setL id mo)) : kW P G ck id us m f k := .inl ⟨Vs, mo, r, h, ha, hs, hf, hi, hl, hk⟩
end Go.Aw

set_option linter.unusedVariables false
namespace Go.Aw
theorem bD {α : Type} {r : α} {G : Prop} (h : (none : Option α) = some r) : G := by cases h
theorem aK {α β : Type} {o : Option α} {g : α → Option β} {r : β} {G : Prop} (h : ∀ t, o = some t → g t = some r → G) : o.bind g = some r → G := fun hb => by
  cases o with
  | none => cases hb
  | some t => exact h t rfl hb
/-- a test that the way decides -/
theorem ft_ {b : Bool} (h : b = true := by
    first | with_reducible assumption | with_reducible exact decide_eq_true (by with_reducible assumption) | (simp only [List.length_map, Bool.not_eq_true', Bool.not_eq_false', decide_eq_true_eq, decide_eq_false_iff_not]; first | with_reducible assumption | omega) | rfl) : b = true := h
theorem ff_ {b : Bool} (h : b = false := by
    first | with_reducible assumption | with_reducible exact decide_eq_false (by with_reducible assumption) | (simp only [List.length_map, Bool.not_eq_true', Bool.not_eq_false', decide_eq_true_eq, decide_eq_false_iff_not]; first | with_reducible assumption | omega) | rfl) : b = false := h
theorem nf_ {p : Prop} (h : p := by
    first | with_reducible assumption | omega | (simp only [List.length_set, List.length_map, List.length_cons, List.length_nil, List.length_replicate, List.length_append, List.length_take] <;> first | with_reducible assumption | omega) | (simp only [List.length_map, List.length_cons, List.length_nil, List.length_replicate] at * <;> first | with_reducible assumption | omega)) : p := h

theorem fE {ck : Nat → Bool} {m : Nat → Option Ob} : rA ck m [] [] := rfl
theorem bW {ck : Nat → Bool} {m : Nat → Option Ob} {u x : V} {us xs : List V} (h : AvA ck m u x) (t : rA ck m us xs) : rA ck m (u :: us) (x :: xs) := ⟨x, xs, rfl, h, t⟩
theorem gB {ck : Nat → Bool} {m : Nat → Option Ob} : AvL ck m [] [] := rfl
theorem bR {ck : Nat → Bool} {m : Nat → Option Ob} {u x : V} {us xs : List V} (h : Av ck m u x) (t : AvL ck m us xs) : AvL ck m (u :: us) (x :: xs) := ⟨x, xs, rfl, h, t⟩
theorem gC {ck : Nat → Bool} {m : Nat → Option Ob} {us xs : List V} (h : AvL ck m us xs) : AvA ck m (.agg us) (.agg xs) := ⟨xs, rfl, h⟩
theorem bS {ck : Nat → Bool} {m : Nat → Option Ob} {u : V} (h : u.shut = true) : Av ck m u u := by
  cases u <;> first | rfl | exact .inl rfl | cases h
theorem hY {ck : Nat → Bool} {m : Nat → Option Ob} {u : V} (h : u.shut = true) : AvA ck m u u := by
  cases u <;> first | rfl | exact .inl rfl | cases h
theorem aHA {ck : Nat → Bool} {m : Nat → Option Ob} {i len : Nat} {e sz : Nat} {xs : List (List V)} (hc : ck i = true) (hm : m i = some (.arr e sz xs)) : Av ck m (.own i len) (.sl sz len xs) := by
  unfold Av; simp only [hc, hm]; exact ⟨len, .inl rfl, rfl⟩
theorem nV {ck : Nat → Bool} {m : Nat → Option Ob} {i len : Nat} {e sz : Nat} {xs : List (List V)} (hc : ck i = true) (hm : m i = some (.arr e sz xs)) : AvA ck m (.own i len) (.sl sz len xs) := aHA (len := len) hc hm
theorem aFG {ck : Nat → Bool} {m : Nat → Option Ob} {sz : Nat} : AvA ck m .nil (.sl sz 0 []) := .inr ⟨sz, rfl⟩

theorem hQ {σ : St} {rn : List (Option Nat)} {fz : List Nat} : RtL σ rn fz [] [] := rfl
theorem cC {σ : St} {rn : List (Option Nat)} {fz : List Nat} {u r : V} {us rs : List V} (h : Rt σ rn fz u r) (t : RtL σ rn fz us rs) : RtL σ rn fz (u :: us) (r :: rs) := ⟨r, rs, rfl, h, t⟩
theorem gJ {σ : St} {rn : List (Option Nat)} {fz : List Nat} : tK σ rn fz [] [] := rfl
theorem dL {σ : St} {rn : List (Option Nat)} {fz : List Nat} {u r : V} {us rs : List V} (h : RtA σ rn fz u r) (t : tK σ rn fz us rs) : tK σ rn fz (u :: us) (r :: rs) := ⟨r, rs, rfl, h, t⟩
theorem gW {σ : St} {rn : List (Option Nat)} {fz : List Nat} {us rs : List V} (h : RtL σ rn fz us rs) : RtA σ rn fz (.agg us) (.agg rs) := ⟨us, rfl, h⟩
theorem fW {σ : St} {rn : List (Option Nat)} {fz : List Nat} {u : V} (h : (match u with | .own .. | .agg _ | .tup _ | .bp .. | .ep .. | .cf .. | .dsl .. | .ip .. => false | _ => true) = true) : Rt σ rn fz u u := by
  cases u <;> first | rfl | exact .inl rfl | cases h
theorem gX {σ : St} {rn : List (Option Nat)} {fz : List Nat} {u : V} (h : (match u with | .own .. | .agg _ | .tup _ | .bp .. | .ep .. | .cf .. | .dsl .. | .ip .. => false | _ => true) = true) : RtA σ rn fz u u := by
  cases u <;> first | rfl | exact .inl rfl | cases h
theorem aHH {σ : St} {rn : List (Option Nat)} {fz : List Nat} {sz : Nat} : Rt σ rn fz .nil (.sl sz 0 []) := .inr (.inl ⟨rfl, rfl, rfl⟩)
theorem vI {σ : St} {rn : List (Option Nat)} {fz : List Nat} {sz : Nat} : RtA σ rn fz .nil (.sl sz 0 []) := .inr (.inl ⟨rfl, rfl, rfl⟩)
theorem aEG {σ : St} {rn : List (Option Nat)} {fz : List Nat} {i len e sz : Nat} {xs : List (List V)} (h : σ.mem i = some (.arr e sz xs)) (hf : i ∈ fz) : RtA σ rn fz (.own i len) (.sl sz len xs) := .inr (.inr ⟨i, len, e, ⟨rfl, rfl⟩, h, hf⟩)
theorem aGB {σ : St} {rn : List (Option Nat)} {fz : List Nat} {i len e sz : Nat} {xs : List (List V)} (h : σ.mem i = some (.arr e sz xs)) (hf : i ∈ fz) : Rt σ rn fz (.own i len) (.sl sz len xs) := .inr (.inr ⟨i, len, e, ⟨rfl, rfl⟩, h, hf⟩)
/-- one result, no object given -/
theorem jL {r u : V} {σ : St} (fz : List Nat) (h : RtA σ [] fz u r) : mV [] [] r σ [u] :=
  ⟨[], fz, h, rfl, List.nodup_nil, fun j i h => (by simp at h), fun j h => (by simp at h), rfl, fun m h => (by simp at h), fun i _ h => (by cases h)⟩
theorem iG {u1 u2 : V} {us rs : List V} {σ : St} (fz : List Nat) (h : tK σ [] fz (u1 :: u2 :: us) rs) : mV [] [] (.tup rs) σ (u1 :: u2 :: us) :=
  ⟨[], fz, ⟨rs, rfl, h⟩, rfl, List.nodup_nil, fun j i h => (by simp at h), fun j h => (by simp at h), rfl, fun m h => (by simp at h), fun i _ h => (by cases h)⟩
theorem aDO {mem : Nat → Option Ob} : ∀ (rn : List (Option Nat)) (M : List Ob), FM mem rn M → rn.length = M.length ∧ (∀ (j i : Nat), rn[j]? = some (some i) → mem i = M[j]?) ∧ ∀ (j : Nat), rn[j]? = some none → ∃ ob, M[j]? = some ob ∧ ob.emp = true
  | [], [], _ => ⟨rfl, fun j i h => by simp at h, fun j h => by simp at h⟩
  | [], _ :: _, h => h.elim
  | some _ :: _, [], h => h.elim
  | none :: _, [], h => h.elim
  | some i :: rn, ob :: M, ⟨a, b⟩ => by
    obtain ⟨g1, g2, g3⟩ := aDO rn M b
    refine ⟨by simp [g1], fun j k hj => ?_, fun j hj => ?_⟩
    · cases j with
      | zero => simp at hj; subst hj; exact a
      | succ j => exact g2 j k (by simpa using hj)
    · cases j with
      | zero => simp at hj
      | succ j => exact g3 j (by simpa using hj)
  | none :: rn, ob :: M, ⟨he0, b⟩ => by
    obtain ⟨g1, g2, g3⟩ := aDO rn M b
    refine ⟨by simp [g1], fun j k hj => ?_, fun j hj => ?_⟩
    · cases j with
      | zero => simp at hj
      | succ j => exact g2 j k (by simpa using hj)
    · cases j with
      | zero => exact ⟨ob, rfl, he0⟩
      | succ j => exact g3 j (by simpa using hj)
/-- the first n are kept under their numbers -/
def pre (m : Nat) : Nat → List (Option Nat) → Bool
  | 0, _ => true
  | n + 1, some i :: l => Nat.beq i m && pre (m + 1) n l
  | _ + 1, _ => false
theorem aDP : ∀ (n m : Nat) (l : List (Option Nat)), pre m n l = true → ∀ j, j < n → l[j]? = some (some (m + j))
  | 0, m, l, _, j, hj => absurd hj (Nat.not_lt_zero j)
  | n + 1, m, [], h, j, hj => by cases h
  | n + 1, m, none :: l, h, j, hj => by cases h
  | n + 1, m, some i :: l, h, j, hj => by
    simp only [pre, Bool.and_eq_true] at h
    cases j with
    | zero => rw [Nat.eq_of_beq_eq_true h.1]; rfl
    | succ j =>
      have := aDP n (m + 1) l h.2 j (Nat.lt_of_succ_lt_succ hj)
      rw [show m + (j + 1) = m + 1 + j by omega]; simpa using this
def RB (rn : List (Option Nat)) (fz : List Nat) (n : Nat) (mo : List Ob) : Bool :=
  ndB (rn.filterMap id) && mo.all Ob.isA && pre 0 n rn && fz.all (fun i => !fS (rn.filterMap id) i)
theorem eT {mi mo : List Ob} {r : V} {σ : St} {us : List V} (rn : List (Option Nat)) (fz : List Nat) (h : match us with | [u] => RtA σ rn fz u r | us => ∃ xs, r = .tup xs ∧ tK σ rn fz us xs) (hm : FM σ.mem rn mo) (hb : RB rn fz mi.length mo = true) : mV mi mo r σ us := by
  simp only [RB, Bool.and_eq_true] at hb
  obtain ⟨⟨⟨b1, b2⟩, b3⟩, b5⟩ := hb
  obtain ⟨g1, g2, g3⟩ := aDO rn mo hm
  refine ⟨rn, fz, h, g1, pY _ b1, g2, g3, b2, fun m hm => ?_, fun i hi hc => ?_⟩
  · have := aDP _ 0 rn b3 m hm
    rwa [Nat.zero_add] at this
  · have := List.all_eq_true.1 b5 i hi
    rw [(iE _ _).2 hc] at this; cases this
def MI (m : Nat → Option Ob) : List Nat → List Ob → Prop
  | [], [] => True
  | i :: ids, ob :: mi => m i = some ob ∧ MI m ids mi
  | _, _ => False
theorem aGG {m : Nat → Option Ob} : ∀ (ids : List Nat) (mi : List Ob), MI m ids mi → ids.length = mi.length ∧ ∀ (n i : Nat), ids[n]? = some i → m i = mi[n]?
  | [], [], _ => ⟨rfl, fun n i h => by simp at h⟩
  | [], _ :: _, h => h.elim
  | _ :: _, [], h => h.elim
  | k :: ids, ob :: mi, ⟨a, b⟩ => by
    obtain ⟨g1, g2⟩ := aGG ids mi b
    refine ⟨by simp [g1], fun n i h => ?_⟩
    cases n with
    | zero => simp at h; subst h; exact a
    | succ n => exact g2 n i (by simpa using h)
/-- a call that writes into objects of the caller's own -/
theorem bQ {P : Program} {G : Nat → Option Obj} {ck : Nat → Bool} {id : Nat} {us : List V} {m : Nat → Option Ob} {f : FuncId}  {k : V → Eff → Prop} {Vs : List V} {mi mo : List Ob} {r : V} (ids : List Nat) (h : cK P G f mi Vs mo r)
    (hm : MI m ids mi) (hlo : Nat.beq mo.length mi.length = true) (hnd : ndB ids = true) (hck : ids.all ck = true) (hck2 : ck 1000000007 = true) (harr : (mi ++ mo).all Ob.isA = true) (ha : us = Vs.map (V.ren fun n => ids.getD n 0))
    (hV : Vs.all (fun v => v.flat2 && v.refs ids.length) = true) (hr : V.clo r = true) (hk : k r (Eff.at ids mo)) : kW P G ck id us m f k := by
  obtain ⟨g1, g2⟩ := aGG ids mi hm
  exact .inr (.inl ⟨ids, Vs, mi, mo, r, h, g1, Nat.eq_of_beq_eq_true hlo, pY _ hnd, hck, hck2, g2, harr, ha, hV, hr, hk⟩)
theorem iQ {K : St → Prop} {σ : St} (n : Nat) (E : List (Nat × V)) (B : List (Nat × Ob)) (h0 : σ.next = n) (h1 : CE0 σ.mem [] σ.env E) (h2 : CB0 σ.mem B) (k : K (low n E B)) (hk : (B.all fun p => !p.2.isT) = true := by rfl) : Cut none K σ :=
  ⟨n, E, B, [], hk, List.all_eq_true.2 (fun p _ => rfl), h0, h1.up, h2.up, k⟩
theorem jE {m : Nat} {K : St → Prop} {σ : St} (n : Nat) (fz : List Nat) (E : List (Nat × V)) (B : List (Nat × Ob)) (hf : (B.all fun p => !fS fz p.1) = true) (h0 : σ.next = n) (h1 : CE σ.mem fz σ.env E) (h2 : CB σ.mem fz B B) (k : K (low n E B)) (hk : (oR m B && vZ m E B fz) = true := by rfl) : Cut (some m) K σ := ⟨n, E, B, fz, hk, hf, h0, h1, h2, k⟩
theorem oH {mem : Nat → Option Ob} {fz : List Nat} {i len e sz n : Nat} {xs ys : List (List V)} (hm : mem i = some (.arr e sz xs)) (hf : fS fz i = true) (hn : n = len ∨ xs.length = n) (hx : xs = ys) : Fz mem fz (.own i len) (.sl sz n ys) := by
  subst hx
  exact .inr (.inl ⟨i, len, e, rfl, hm, hf, hn⟩)
theorem mW {mem : Nat → Option Ob} {fz : List Nat} {i idx off q e s sz n n' : Nat} {es : List TypeId} {ys : List (List V)} {p : List V} {xs xs' : List (List V)} (hm : mem i = some (.deep e s es ys)) (hf : fS fz i = true) (hp : ys[idx]? = some p) (hq : p[off]? = some (.sl sz n xs)) (hn : n = n') (hx : xs = xs') : Fz mem fz (.dsl i idx off q) (.sl sz n' xs') := by
  subst hn; subst hx
  exact .inr (.inr (.inr ⟨i, idx, off, q, e, s, es, ys, p, rfl, hm, hf, hp, hq⟩))
theorem aFB {ck : Nat → Bool} {m : Nat → Option Ob} {i len n : Nat} {e sz : Nat} {xs ys : List (List V)} (hc : ck i = true) (hm : m i = some (.arr e sz xs)) (hn : xs.length = n) (hx : xs = ys) : Av ck m (.own i len) (.sl sz n ys) := by
  subst hx
  unfold Av; simp only [hc, hm]; exact ⟨n, .inr hn, rfl⟩
theorem wF {ck : Nat → Bool} {m : Nat → Option Ob} {i len n : Nat} {e sz : Nat} {xs ys : List (List V)} (hc : ck i = true) (hm : m i = some (.arr e sz xs)) (hn : xs.length = n) (hx : xs = ys) : AvA ck m (.own i len) (.sl sz n ys) := aFB (len := len) hc hm hn hx
theorem aAA {ck : Nat → Bool} {m : Nat → Option Ob} {i idx off q n n' : Nat} {e sz s : Nat} {es : List TypeId} {xs : List (List V)} {p : List V} {ys ys' : List (List V)} (hc : ck i = true) (hm : m i = some (.deep e sz es xs)) (hp : xs[idx]? = some p) (hq : p[off]? = some (.sl s n ys)) (hn : n = n') (hy : ys = ys') : Av ck m (.dsl i idx off q) (.sl s n' ys') := by
  subst hn; subst hy
  unfold Av; simp only [hc, hm]; exact ⟨p, s, n, ys, hp, hq, rfl⟩
def MN (ck : Nat → Bool) (m : Nat → Option Ob) (id : Nat) : List Nat → List Ob → Nat → Prop
  | i :: ids, ob :: mi, n => ck i = true ∧ m i = some ob ∧ MN ck m id ids mi n
  | [], [], 0 => True
  | j :: ids, [], n + 1 => j = id ∧ MN ck m (id + 1) ids [] n
  | _, _, _ => False
theorem aDG {ck : Nat → Bool} {m : Nat → Option Ob} : ∀ (ids : List Nat) (id q : Nat), MN ck m id ids [] q → ids.length = q ∧ ∀ (n i : Nat), ids[n]? = some i → n < q ∧ i = id + n
  | [], id, 0, _ => ⟨rfl, fun n i h => by simp at h⟩
  | [], id, q + 1, h => h.elim
  | j :: ids, id, 0, h => h.elim
  | j :: ids, id, q + 1, ⟨a, b⟩ => by
    obtain ⟨g1, g2⟩ := aDG ids (id + 1) q b
    refine ⟨by simp [g1], fun n i h => ?_⟩
    cases n with
    | zero => simp at h; subst h; exact ⟨Nat.succ_pos _, a⟩
    | succ n => have := g2 n i (by simpa using h); omega
theorem aGV {ck : Nat → Bool} {m : Nat → Option Ob} {id : Nat} : ∀ (ids : List Nat) (mi : List Ob) (q : Nat), MN ck m id ids mi q → ids.length = mi.length + q ∧ ∀ (n i : Nat), ids[n]? = some i → (n < mi.length ∧ ck i = true ∧ m i = mi[n]?) ∨ (mi.length ≤ n ∧ n < mi.length + q ∧ i = id + (n - mi.length))
  | ids, [], q, h => by
    obtain ⟨g1, g2⟩ := aDG ids id q h
    refine ⟨by simp [g1], fun n i hn => .inr ?_⟩
    have := g2 n i hn
    exact ⟨Nat.zero_le _, by simpa using this.1, by simpa using this.2⟩
  | [], _ :: _, q, h => h.elim
  | k :: ids, ob :: mi, q, ⟨a, b, c⟩ => by
    obtain ⟨g1, g2⟩ := aGV ids mi q c
    refine ⟨by simp [g1]; omega, fun n i h => ?_⟩
    cases n with
    | zero => simp at h; subst h; exact .inl ⟨Nat.succ_pos _, a, b⟩
    | succ n =>
      rcases g2 n i (by simpa using h) with ⟨p1, p2, p3⟩ | ⟨p1, p2, p3⟩
      · exact .inl ⟨Nat.succ_lt_succ p1, p2, by simpa using p3⟩
      · exact .inr ⟨Nat.succ_le_succ p1, by simp; omega, by simpa using p3⟩
/-- a call that writes into objects of the caller's own, and gives new ones -/
theorem aDV {P : Program} {G : Nat → Option Obj} {ck : Nat → Bool} {id : Nat} {us : List V} {m : Nat → Option Ob} {f : FuncId} {k : V → Eff → Prop} {Vs : List V} {mi mo : List Ob} {r : V} (ids : List Nat) (q : Nat) (h : cK P G f mi Vs mo r)
    (hm : MN ck m id ids mi q) (hlo : Nat.beq mo.length (mi.length + q) = true) (hq : Nat.ble q 8 = true) (hnd : ndB ids = true) (hck2 : ck 1000000007 = true) (harr : (mi ++ mo).all Ob.isA = true) (ha : us = Vs.map (V.ren fun n => ids.getD n 0))
    (hV : Vs.all (fun v => v.flat2 && v.refs mi.length) = true) (hr : V.flat r = true) (hk : k (r.ren fun n => ids.getD n 0) (Eff.at ids mo)) : kW P G ck id us m f k := by
  obtain ⟨g1, g2⟩ := aGV ids mi q hm
  have hl := Nat.eq_of_beq_eq_true hlo
  have hq := Nat.le_of_ble_eq_true hq
  exact .inr (.inr (.inr ⟨ids, Vs, mi, mo, r, h, by omega, by omega, pY _ hnd, hck2, fun n i hn => (g2 n i hn).imp (fun h => h) (fun ⟨a, b, c⟩ => ⟨a, by omega, c⟩), harr, ha, hV, hr, hk⟩))
/-- slices of the function's own become an object's -/
theorem sA {mem : Nat → Option Ob} {fz : List Nat} {B : List (Nat × Ob)} {i e sz idx : Nat} {es : List TypeId} {xs vs : List (List V)} {row : List V} {o : Option Ob} (row' : List V) (h0 : o = some (.dirt e sz es xs idx row)) (hnd : ndB (kU row) = true) (hm : MgL mem fz B es 0 row row') (hv : xs.set idx row' = vs) (hf : fS fz (i + 2000000000) = true) : FzB mem fz B i o (.deep e sz es vs) :=
  .inr ⟨xs, idx, row, row', h0, pY _ hnd, hm, hv.symm, hf⟩
theorem set_app {α : Type} {xs ys : List (List α)} (row : List α) (h : xs ++ [row] = ys) : (xs ++ [[]]).set xs.length row = ys := by rw [← h]; simp
theorem rQ {mem : Nat → Option Ob} {fz : List Nat} {B : List (Nat × Ob)} {j e m len s n : Nat} {xs ys : List (List V)} (hm : mem m = some (.arr e s xs)) (hf : fS fz (m + 1000000000) = true) (hn : n = len ∨ xs.length = n) (hx : xs = ys) (hb : lS (.arr e s ys)) : Mg mem fz B j e (.own m len) (.sl s n ys) := by
  subst hx
  exact .inr (.inr (.inl ⟨m, len, rfl, hm, hf, hn, hb⟩))
theorem rL {mem : Nat → Option Ob} {fz : List Nat} {B : List (Nat × Ob)} {j e i idx q s n n' e2 sz k0 : Nat} {es : List TypeId} {xs : List (List V)} {p : List V} {ys ys' : List (List V)} (hm : mem i = some (.tail e2 sz es xs k0)) (hk : k0 ≤ idx) (hp : xs[idx]? = some p) (hq : p[j]? = some (.sl s n ys)) (hn : n = n') (hy : ys = ys') (he : es.getD j 0 = e) (hf : fS fz i = false) (hv : mvd B i idx) : Mg mem fz B j e (.dsl i idx j q) (.sl s n' ys') := by
  subst hn; subst hy
  exact .inr (.inr (.inr ⟨i, idx, q, p, e2, sz, es, xs, rfl, .inr ⟨k0, hm, hk⟩, hp, hq, he, hf, hv⟩))
end Go.Aw

