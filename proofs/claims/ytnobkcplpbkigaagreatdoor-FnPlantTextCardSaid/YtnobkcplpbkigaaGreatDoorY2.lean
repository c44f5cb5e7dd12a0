import Derived.Test.YtnobkcplpbkigaaGreatDoorY1
set_option linter.unusedVariables false
set_option linter.unusedSimpArgs false
set_option linter.unusedVariables false
namespace Go.Aw
def St.start (mi : List Ob) (Vs : List V) : St := { env := fun t => (Vs[t]?).getD .und, mem := fun i => mi[i]?, next := mi.length, ids := List.range mi.length }
def St.startN (n : Nat) (mi : List Ob) (Vs : List V) : St := { env := fun t => (Vs[t]?).getD .und, mem := fun i => mi[i]?, next := n, ids := List.range n }
def Rt (σ : St) (rn : List (Option Nat)) (fz : List Nat) (u r : V) : Prop :=
  match r with
  | .own j len => match rn[j]? with
    | some (some i) => u = .own i len
    | some none => u = .nil ∧ len = 0
    | none => False
  | .sl sz n xs => u = .sl sz n xs ∨ (u = .nil ∧ n = 0 ∧ xs = []) ∨ ∃ i len e, (u = .own i len ∧ len = n) ∧ σ.mem i = some (.arr e sz xs) ∧ i ∈ fz
  | .bp j off => match rn[j]? with
    | some (some i) => u = .bp i off
    | _ => False
  | .agg _ | .tup _ | .ep .. | .cf .. | .dsl .. | .ip .. | .mp _ | .ifs .. => False
  | v => u = v
def RtL (σ : St) (rn : List (Option Nat)) (fz : List Nat) : List V → List V → Prop
  | [], l => l = []
  | u :: us, l => ∃ r rs, l = r :: rs ∧ Rt σ rn fz u r ∧ RtL σ rn fz us rs
def RtA (σ : St) (rn : List (Option Nat)) (fz : List Nat) (u r : V) : Prop :=
  match r with
  | .agg rs => ∃ us, u = .agg us ∧ RtL σ rn fz us rs
  | r => Rt σ rn fz u r
def uW (σ : St) (rn : List (Option Nat)) (fz : List Nat) : List V → List V → Prop
  | [], l => l = []
  | u :: us, l => ∃ r rs, l = r :: rs ∧ RtA σ rn fz u r ∧ uW σ rn fz us rs
def rvs (T : TypeId → Option TI) (σ : St) : List ResultVar → (List V → Prop) → Prop
  | [], k => k []
  | .tmp t :: l, k => rvs T σ l (fun us => k (σ.env t :: us))
  | .cell a t :: l, k => match T t with
    | some ti => rdP (fun _ => true) σ.mem ti.size ti.agg (σ.env a) (fun u => rvs T σ l (fun us => k (u :: us)))
    | none => False
def Rus (σ : St) (mi mo : List Ob) (r : V) (us : List V) : Prop :=
  ∃ (rn : List (Option Nat)) (fz : List Nat), (match us with | [u] => RtA σ rn fz u r | us => ∃ xs, r = .tup xs ∧ uW σ rn fz us xs) ∧
    rn.length = mo.length ∧ (rn.filterMap id).Nodup ∧ (∀ (j i : Nat), rn[j]? = some (some i) → σ.mem i = mo[j]?) ∧ (∀ (j : Nat), rn[j]? = some none → ∃ ob, mo[j]? = some ob ∧ ob.emp = true) ∧ mo.all Ob.isA = true ∧
    (∀ m, m < mi.length → rn[m]? = some (some m)) ∧ (∀ i ∈ fz, i ∉ rn.filterMap id)
def lH (mi mo : List Ob) (r : V) (σ : St) (us : List V) : Prop := Rus σ mi mo r us
def Ret (T : TypeId → Option TI) (rs : List ResultVar) (mi mo : List Ob) (r : V) : Exit → St → Prop
  | .normal, σ => rvs T σ rs (lH mi mo r σ)
  | .ret, σ => rvs T σ rs (lH mi mo r σ)
  | _, _ => False
section
variable {P : Program} {G : Nat → Option Obj} {T : TypeId → Option TI} {w0 w : World} {X A0 A : Nat → Prop} {N : Nat} {bd : Nat → Prop} {σ : St} {a : Act} {μ : Nat → Option Loc}
def aGA (tmps : Array Value) : ResultVar → Sem Value
  | .tmp t => pure (tmps.getD t undef)
  | .cell b t => do loadVar t (← asAddr (tmps.getD b undef))
theorem sO (hT : TOk P T) (h : Ok w0 X A0 N bd σ a w A μ) : ∀ (rs : List ResultVar) (k : List V → Prop), rvs T σ rs k → ∃ (us : List V) (vs : List Value), k us ∧
    (rs.mapM (aGA a.tmps)).run P w = .ok vs w ∧ us.length = rs.length ∧ vs.length = us.length ∧ ∀ (i : Nat) (u : V) (v : Value), us[i]? = some u → vs[i]? = some v → Rv w A μ u v
  | [], k, hk => ⟨[], [], hk, by simp, rfl, rfl, fun i u v h => by simp at h⟩
  | .tmp t :: l, k, hk => by
    obtain ⟨us, vs, h1, h2, h3, h4, h5⟩ := sO hT h l _ hk
    refine ⟨_, a.tmps.getD t undef :: vs, h1, by simp [List.mapM_cons, aGA, h2], by simp [h3], by simp [h4], fun i u v hu hv => ?_⟩
    cases i with
    | zero => simp only [List.getElem?_cons_zero, Option.some.injEq] at hu hv; subst hu; subst hv; exact h.env t
    | succ i => exact h5 i u v (by simpa using hu) (by simpa using hv)
  | .cell b t :: l, k, hk => by
    simp only [rvs] at hk
    split at hk
    · rename_i ti ht
      obtain ⟨u0, g1, g2⟩ := aGJ hk
      obtain ⟨cv, g3, g4⟩ := aBL (hT _ _ ht) h.mok (h.env b) g1
      obtain ⟨us, vs, h1, h2, h3, h4, h5⟩ := sO hT h l _ g2
      have hp : ∃ ad, a.tmps.getD b undef = .pointer (some ad) := by
        have he := h.env b
        unfold rdP at g1
        split at g1
        · rename_i e; rw [e] at he; obtain ⟨_, _, _, _, hv⟩ := he.bp_inv; exact ⟨_, hv⟩
        · rename_i e; rw [e] at he; obtain ⟨_, _, _, _, hv⟩ := he.ep_inv; exact ⟨_, hv⟩
        · rename_i e; rw [e] at he; obtain ⟨_, _, _, _, _, _, hv⟩ := he.ip_inv; exact ⟨_, hv⟩
        · rename_i e; rw [e] at he; obtain ⟨_, _, hv, _⟩ := he.rp_inv; exact ⟨_, hv⟩
        · exact g1.elim
      obtain ⟨ad, hp⟩ := hp
      have g5 : (loadVar t ad).run P w = .ok cv w := by
        rw [hp] at g3; simpa [Instr.loadAt, Instr.sureAddr] using g3
      refine ⟨_, cv :: vs, h1, by simp [List.mapM_cons, aGA, h2, hp, asAddr, g5], by simp [h3], by simp [h4], fun i u v hu hv => ?_⟩
      cases i with
      | zero => simp only [List.getElem?_cons_zero, Option.some.injEq] at hu hv; subst hu; subst hv; exact g4
      | succ i => exact h5 i u v (by simpa using hu) (by simpa using hv)
    · exact hk.elim
def aNJ : List Value → Value
  | [v] => v
  | vs => .tuple vs.toArray
theorem rV {fn : Func} {rs : List ResultVar} {vs : List Value} (h : fn.results.toList = rs) (hr : (rs.mapM (aGA a.tmps)).run P w = .ok vs w) :
    (results fn a.tmps).run P w = .ok (aNJ vs) w := by
  have e : results fn a.tmps = (do let vs ← fn.results.mapM (aGA a.tmps); pure (if h : vs.size = 1 then vs[0] else .tuple vs)) := rfl
  rw [e, Array.mapM_eq_mapM_toList, h]
  simp only [Sem.run_bind, Sem.run_map, hr, Result.andThen_ok, Sem.run_pure]
  congr 1
  match vs with
  | [] => rfl
  | [v] => rfl
  | _ :: _ :: _ => rfl
theorem aJZ (h : Ok w0 X A0 N bd σ a w A μ) {rn : List (Option Nat)} {fz : List Nat} {A' : Nat → Prop} {μ' : Nat → Option Loc} (hA : ∀ b, A b → A' b) (hfz : ∀ i l b, i ∈ fz → μ i = some l → l.has b → A' b)
    (hμ : ∀ (j i : Nat), rn[j]? = some (some i) → μ' j = μ i) (hμ0 : ∀ j : Nat, rn[j]? = some none → ∃ sz, μ' j = some ⟨none, 0, 0, sz, []⟩) {u r : V} {c : Value} (hr : Rt σ rn fz u r) (hu : Rv w A μ u c) : Rv w A' μ' r c := by
  have plain : u = r → r.shut = true → Rv w A' μ' r c := fun e hs => by subst e; exact .c ((iT hu hs).mono hA (fun _ _ _ h => h))
  cases r with
  | own j len =>
    simp only [Rt] at hr
    split at hr
    · rename_i i hi
      subst hr
      obtain ⟨l, hl, rfl, rfl⟩ := hu.own_inv
      exact .own _ l (by rw [hμ _ _ hi]; exact hl)
    · rename_i hi
      obtain ⟨rfl, rfl⟩ := hr
      obtain ⟨sz, hs⟩ := hμ0 _ hi
      have := hu.nil_inv; subst this
      exact .own _ ⟨none, 0, 0, sz, []⟩ hs
    · exact hr.elim
  | sl sz n xs =>
    rcases hr with rfl | ⟨rfl, rfl, rfl⟩ | ⟨i, len, e, ⟨rfl, rfl⟩, hm, hf⟩
    · exact plain rfl rfl
    · have := hu.nil_inv; subst this
      exact .c (.sl sz 0 [] rfl none 0 (fun _ => undef) (Nat.le_refl _) (fun _ h => (by cases h)) (fun h => absurd rfl h) (fun _ k u _ hk => (by simp at hk)) (fun k u hk => (by simp at hk)) (fun k u hk => (by simp at hk)))
    · obtain ⟨l, hl, rfl, rfl⟩ := hu.own_inv
      obtain ⟨l', hl', hob, _⟩ := h.ob i _ hm
      rw [hl] at hl'; injection hl' with hl'; subst hl'
      exact .c (xF hob hA (fun b hb => hfz i l b hf hl hb))
  | agg xs => exact hr.elim
  | tup xs => exact hr.elim
  | bp j off =>
    simp only [Rt] at hr
    split at hr
    · rename_i i hi
      subst hr
      obtain ⟨l, b, hl, hb, rfl⟩ := hu.bp_inv
      exact .bp _ off l b (by rw [hμ _ _ hi]; exact hl) hb
    · exact hr.elim
  | ep i j off => exact hr.elim
  | cf f i => exact hr.elim
  | dsl i j off n => exact hr.elim
  | ip i a b c j o => exact hr.elim
  | mp i => exact hr.elim
  | ifs t i n => exact hr.elim
  | und => exact .c (.und _)
  | _ => exact plain hr rfl
theorem aCK {rn : List (Option Nat)} {fz : List Nat} : ∀ (us rs : List V), RtL σ rn fz us rs → us.length = rs.length ∧ ∀ (i : Nat) (u r : V), us[i]? = some u → rs[i]? = some r → Rt σ rn fz u r
  | [], l, h => by simp only [RtL] at h; subst h; exact ⟨rfl, fun i u x hu => by simp at hu⟩
  | u :: us, l, h => by
    obtain ⟨x, xs, rfl, h1, h2⟩ := h
    obtain ⟨g1, g2⟩ := aCK us xs h2
    refine ⟨by simp [g1], fun i u' x' hu hx => ?_⟩
    cases i with
    | zero => simp at hu hx; subst hu; subst hx; exact h1
    | succ i => exact g2 i u' x' (by simpa using hu) (by simpa using hx)
theorem tO {rn : List (Option Nat)} {fz : List Nat} : ∀ (us rs : List V), uW σ rn fz us rs → us.length = rs.length ∧ ∀ (i : Nat) (u r : V), us[i]? = some u → rs[i]? = some r → RtA σ rn fz u r
  | [], l, h => by simp only [uW] at h; subst h; exact ⟨rfl, fun i u x hu => by simp at hu⟩
  | u :: us, l, h => by
    obtain ⟨x, xs, rfl, h1, h2⟩ := h
    obtain ⟨g1, g2⟩ := tO us xs h2
    refine ⟨by simp [g1], fun i u' x' hu hx => ?_⟩
    cases i with
    | zero => simp at hu hx; subst hu; subst hx; exact h1
    | succ i => exact g2 i u' x' (by simpa using hu) (by simpa using hx)
theorem aLG (h : Ok w0 X A0 N bd σ a w A μ) {rn : List (Option Nat)} {fz : List Nat} {A' : Nat → Prop} {μ' : Nat → Option Loc} (hA : ∀ b, A b → A' b) (hfz : ∀ i l b, i ∈ fz → μ i = some l → l.has b → A' b)
    (hμ : ∀ (j i : Nat), rn[j]? = some (some i) → μ' j = μ i) (hμ0 : ∀ j : Nat, rn[j]? = some none → ∃ sz, μ' j = some ⟨none, 0, 0, sz, []⟩) {u r : V} {c : Value} (hr : RtA σ rn fz u r) (hu : Rv w A μ u c) : Rv w A' μ' r c := by
  by_cases hx : ∃ xs, r = .agg xs
  · obtain ⟨rs, rfl⟩ := hx
    obtain ⟨us, rfl, hl⟩ := hr
    obtain ⟨cs, rfl, hs, hc⟩ := hu.agg_inv
    obtain ⟨g1, g2⟩ := aCK _ _ hl
    refine .agg rs cs (by omega) (fun i y c hy hcc => ?_)
    have hlt : i < us.length := by rw [g1]; exact (List.getElem?_eq_some_iff.1 hy).1
    exact aJZ h hA hfz hμ hμ0 (g2 i _ y (List.getElem?_eq_getElem hlt) hy) (hc i _ c (List.getElem?_eq_getElem hlt) hcc)
  · have e : RtA σ rn fz u r = Rt σ rn fz u r := by cases r <;> first | rfl | exact absurd ⟨_, rfl⟩ hx
    rw [e] at hr
    exact aJZ h hA hfz hμ hμ0 hr hu
theorem bO {f : FuncId} {fn : Func} {c : Code} (hT : TOk P T) (hP : P.follows .mixedOrders = true) (hf : P.funcs[f]? = some fn) (hb : fn.body = some c) (hnm : (fn.name == "runtime.NumGoroutine") = false) (rs : List ResultVar) (hres : fn.results.toList = rs)
    (hcode : lB fn.ntmps c = true) {mi mo : List Ob} {Vs : List V} {r : V} (hn : Vs.length ≤ fn.ntmps) (J : Jt) (hJ : J.fok mi.length = true) (h0 : aEQ mi.length fun n => awp P G T c J (Ret T rs mi mo r) (St.startN n mi Vs)) : cI P G f mi Vs mo r := by
  refine ⟨⟨fn, hf, hnm, by rw [hb]; rfl⟩, fun w A μ vs hsz hargs hAlt hGl hobj => ?_⟩
  have h : awp P G T c J (Ret T rs mi mo r) (St.start mi Vs) := by rw [sS] at h0; exact h0
  let X : Nat → Prop := blk μ mi.length
  have hstart : Ok w X A fn.ntmps (fun j => j < (St.start mi Vs).next) (St.start mi Vs) { tmps := vs ++ Array.replicate (fn.ntmps - vs.size) undef, defers := [] } w A μ := by
    refine ⟨by simp; omega, rfl, fun t => ?_, rfl, rfl, rfl, Nat.le_refl _, fun _ _ _ => rfl, fun b hb => ⟨hAlt b hb, .inl hb⟩, fun _ h => h, fun i ob hi => ?_, fun i j li lj b hi hj h1 h2 h3 h4 => ?_, fun i hi => hobj.bd i hi⟩
    · show Rv w A μ ((Vs[t]?).getD .und) _
      cases hV : Vs[t]? with
      | none => exact .c (.und _)
      | some x =>
        have hlt : t < vs.size := by rw [hsz]; exact (List.getElem?_eq_some_iff.1 hV).1
        have e : (vs ++ Array.replicate (fn.ntmps - vs.size) undef).getD t undef = vs[t] := by
          simp [Array.getD_eq_getD_getElem?, Array.getElem?_append, hlt]
        rw [e]
        exact hargs t x _ hV (Array.getElem?_eq_getElem hlt)
    · obtain ⟨l, h1, h2, h3⟩ := hobj.ob i ob hi
      exact ⟨l, h1, h2, fun b hb => ⟨(h3 b hb).1, (h3 b hb).2.1, .inl ⟨i, l, (List.getElem?_eq_some_iff.1 hi).1, h1, hb⟩⟩⟩
    · obtain ⟨oi, hoi⟩ := Option.ne_none_iff_exists'.1 hi
      obtain ⟨oj, hoj⟩ := Option.ne_none_iff_exists'.1 hj
      exact hobj.ap i j li lj b (List.getElem?_eq_some_iff.1 hoi).1 (List.getElem?_eq_some_iff.1 hoj).1 h1 h2 h3 h4
  refine calls_of_wp hf hb (wp_mono (gG hT (fun g o hg => ⟨(hGl g o hg).1, hAlt g (hGl g o hg).1, fun ⟨m, l, hm, hl, hb⟩ => (by
      obtain ⟨l', hl', _, hbb⟩ := hobj.ob m _ (List.getElem?_eq_getElem hm)
      rw [hl] at hl'; injection hl' with hl'; subst hl'
      exact (hbb g hb).2.1 (hGl g o hg).1), (hGl g o hg).2⟩) hP c hcode J hJ _ _ _ w A μ h hstart (fun b ⟨m, l, hm, hl, hb⟩ => ⟨m, l, hm, hl, hb⟩)) (fun e a' w' ⟨g1, g2, σ', g3, A1, μ1, g4, g5⟩ => ?_))
  have main : rvs T σ' rs (lH mi mo r σ') → a'.defers = [] ∧ ∃ v, (results fn a'.tmps).run P w' = .ok v w' ∧ ∃ v' A' μ', Ending.returned v = .returned v' ∧ aMO w A μ mi.length mo r v' w' A' μ' := fun hrv => by
    obtain ⟨us, vls, ⟨rn, fz, k1, k2, k3, k4, k5, k6, k7, k9⟩, q1, q2, q3, q4⟩ := sO hT g4 rs _ hrv
    refine ⟨g4.df, _, rV hres q1, ?_⟩
    let A' : Nat → Prop := fun b => A1 b ∨ ∃ i l, i ∈ fz ∧ μ1 i = some l ∧ l.has b ∧ σ'.mem i ≠ none
    let μ' : Nat → Option Loc := fun j => match rn[j]? with
      | some (some i) => μ1 i
      | some none => (match mo[j]? with | some ob => some ⟨none, 0, 0, ob.sz0, []⟩ | none => none)
      | none => none
    have hμ : ∀ (j i : Nat), rn[j]? = some (some i) → μ' j = μ1 i := fun j i hj => by show (match rn[j]? with | some (some i) => μ1 i | some none => _ | none => none) = _; rw [hj]
    have hμ0 : ∀ j : Nat, rn[j]? = some none → ∃ sz, μ' j = some ⟨none, 0, 0, sz, []⟩ := fun j hj => by
      obtain ⟨eo, hm, _⟩ := k5 j hj
      exact ⟨eo.sz0, by show (match rn[j]? with | some (some i) => μ1 i | some none => (match mo[j]? with | some ob => some (⟨none, 0, 0, ob.sz0, []⟩ : Loc) | none => none) | none => none) = _; rw [hj, hm]⟩
    -- frozen objects are the function's own
    have hfr : ∀ b, (∃ i l, i ∈ fz ∧ μ1 i = some l ∧ l.has b ∧ σ'.mem i ≠ none) → b < w'.heap.size ∧ w.heap.size ≤ b := fun b ⟨i, l, h1, h2, h3, h4⟩ => by
      obtain ⟨ob, hob⟩ := Option.ne_none_iff_exists'.1 h4
      obtain ⟨l', hl', _, hbb⟩ := g4.ob i ob hob
      rw [h2] at hl'; injection hl' with hl'; subst hl'
      obtain ⟨q1, _, q3⟩ := hbb b h3
      refine ⟨q1, q3.resolve_left (fun ⟨m, lm, hm, hlm, hbm⟩ => ?_)⟩
      have hrm := k7 m hm
      have hml : m < mo.length := by rw [← k2]; exact (List.getElem?_eq_some_iff.1 hrm).1
      have := g4.ap i m l lm b h4 (by rw [k4 m m hrm, List.getElem?_eq_getElem hml]; simp) h2 (g5.mu0 m lm hm hlm) h3 hbm
      subst this
      exact k9 i h1 (List.mem_filterMap.2 ⟨some i, List.mem_of_getElem? hrm, rfl⟩)
    have hval : ∀ {u x : V} {c : Value}, RtA σ' rn fz u x → Rv w' A1 μ1 u c → Rv w' A' μ' x c := fun {u x c} hr hu => by
      -- only objects that are there count
      have hr' : RtA σ' rn (fz.filter (fun i => (σ'.mem i).isSome)) u x := by
        have one : ∀ {u x : V}, Rt σ' rn fz u x → Rt σ' rn (fz.filter (fun i => (σ'.mem i).isSome)) u x := fun {u x} hr => by
          cases x <;> try exact hr
          rcases hr with h | h | ⟨i, len, e, h1, h2, h3⟩
          · exact .inl h
          · exact .inr (.inl h)
          · exact .inr (.inr ⟨i, len, e, h1, h2, List.mem_filter.2 ⟨h3, by rw [h2]; rfl⟩⟩)
        have many : ∀ (us rs : List V), RtL σ' rn fz us rs → RtL σ' rn (fz.filter (fun i => (σ'.mem i).isSome)) us rs := fun us => by
          induction us with
          | nil => exact fun rs h => h
          | cons u us ih => exact fun rs ⟨r, rs', h1, h2, h3⟩ => ⟨r, rs', h1, one h2, ih _ h3⟩
        by_cases hx : ∃ xs, x = .agg xs
        · obtain ⟨xs, rfl⟩ := hx
          obtain ⟨us, h1, h2⟩ := hr
          exact ⟨us, h1, many _ _ h2⟩
        · have e : ∀ fz, RtA σ' rn fz u x = Rt σ' rn fz u x := fun fz => by cases x <;> first | rfl | exact absurd ⟨_, rfl⟩ hx
          rw [e] at hr ⊢
          exact one hr
      refine aLG g4 (fun b hb => .inl hb) (fun i l b hi hl hb => .inr ⟨i, l, (List.mem_filter.1 hi).1, hl, hb, ?_⟩) hμ hμ0 hr' hu
      have := (List.mem_filter.1 hi).2
      intro e; rw [e] at this; cases this
    refine ⟨_, A', μ', rfl, ⟨g4.os, g4.tape, g4.out, g4.size, g4.old, fun b hb => ?_, fun b hb => .inl (g4.sub b hb), ?_, fun m hm => ?_, ⟨fun m ob hm => ?_, fun i j li lj b hi hj h1 h2 h3 h4 => ?_, fun i hi => ?_⟩⟩⟩
    · rcases hb with hb | hb
      · exact g4.hA b hb
      · exact ⟨(hfr b hb).1, .inr (hfr b hb).2⟩
    · -- the value
      clear q1
      match us, vls, q3, k1, q4 with
      | [u], [v], _, k1, q4 => exact hval k1 (q4 0 u v rfl rfl)
      | [], [], _, ⟨xs, e, hl⟩, q4 =>
        subst e
        obtain ⟨p1, p2⟩ := tO _ _ hl
        exact .tup xs _ (by simpa using p1) (fun i x c hx hc => by simp at hc)
      | u1 :: u2 :: us, v1 :: v2 :: vls, hlen, ⟨xs, e, hl⟩, q4 =>
        subst e
        obtain ⟨p1, p2⟩ := tO _ _ hl
        refine .tup xs _ (by simp at hlen p1 ⊢; omega) (fun i x c hx hc => ?_)
        have hc' : (v1 :: v2 :: vls)[i]? = some c := by simpa using hc
        have hlt : i < (u1 :: u2 :: us).length := by rw [p1]; exact (List.getElem?_eq_some_iff.1 hx).1
        exact hval (p2 i _ x (List.getElem?_eq_getElem hlt) hx) (q4 i _ c (List.getElem?_eq_getElem hlt) hc')
    · rw [hμ m m (k7 m hm)]
      cases hμm : μ m with
      | none =>
        obtain ⟨l, hl, _⟩ := hobj.ob m _ (List.getElem?_eq_getElem hm)
        rw [hμm] at hl; cases hl
      | some l => exact g5.mu0 m l hm hμm
    · have hml : m < rn.length := by rw [k2]; exact (List.getElem?_eq_some_iff.1 hm).1
      have hia := List.all_eq_true.1 k6 ob (List.mem_of_getElem? hm)
      cases hr : rn[m]? with
      | none => rw [List.getElem?_eq_none_iff] at hr; omega
      | some q =>
        cases q with
        | some i =>
          obtain ⟨l, hl, ho, hbb⟩ := g4.ob i ob (by rw [k4 m i hr]; exact hm)
          refine ⟨l, by rw [hμ m i hr]; exact hl, ?_, fun b hb => ⟨(hbb b hb).1, fun hA => ?_, (hbb b hb).2.2⟩⟩
          · exact gP.mono (w := w') (fun b hb => .inl hb) (fun _ _ _ h => h) (fun i l h => h) (fun _ _ => rfl) (show gP w' A1 μ' l ob from gP.re hia ho)
          · next _ =>
            · rcases hA with hA | ⟨i2, l2, p1, p2, p3, p4⟩
              · exact (hbb b hb).2.1 hA
              · have := g4.ap i i2 l l2 b (by rw [k4 m i hr, hm]; simp) p4 hl p2 hb p3
                subst this
                exact k9 i p1 (List.mem_filterMap.2 ⟨some i, List.mem_of_getElem? hr, rfl⟩)
        | none =>
          obtain ⟨eo, hM, he0⟩ := k5 m hr
          rw [hm] at hM; injection hM with hM; subst hM
          refine ⟨⟨none, 0, 0, ob.sz0, []⟩, ?_, aFO he0, fun b hb => by cases gV hb⟩
          show (match rn[m]? with | some (some i) => μ1 i | some none => (match mo[m]? with | some ob => some (⟨none, 0, 0, ob.sz0, []⟩ : Loc) | none => none) | none => none) = _
          rw [hr, hm]
    · have at1 : ∀ (i : Nat) (l : Loc) (b : Nat), i < mo.length → μ' i = some l → l.has b → ∃ k, rn[i]? = some (some k) ∧ μ1 k = some l ∧ σ'.mem k ≠ none := fun i l b hi h1 hb => by
        have hil : i < rn.length := by omega
        cases hr : rn[i]? with
        | none => rw [List.getElem?_eq_none_iff] at hr; omega
        | some q =>
          cases q with
          | some k => exact ⟨k, rfl, by rw [← hμ i k hr]; exact h1, by rw [k4 i k hr, List.getElem?_eq_getElem hi]; simp⟩
          | none =>
            obtain ⟨sz, hs⟩ := hμ0 i hr
            rw [hs] at h1; injection h1 with h1; subst h1; cases gV hb
      obtain ⟨ki, p1, p2, p3⟩ := at1 i li b hi h1 h3
      obtain ⟨kj, r1, r2, r3⟩ := at1 j lj b hj h2 h4
      have := g4.ap ki kj li lj b p3 r3 p2 r2 h3 h4
      subst this
      exact xC rn k3 i j ki p1 r1
    · cases hr : rn[i]? with
      | none =>
        exfalso; apply hi
        show (match rn[i]? with | some (some i) => μ1 i | some none => _ | none => none) = _
        rw [hr]
      | some q => have := (List.getElem?_eq_some_iff.1 hr).1; omega
  cases e with
  | normal => exact main g3
  | ret => exact main g3
  | exit id => exact g3.elim
  | goto l => exact g3.elim
  | panic c => exact absurd rfl (g1 c)
  | outgrown => exact absurd rfl g2
end
end Go.Aw
set_option linter.unusedVariables false
namespace Go.Aw
def aNO (σ : St) (kp : Nat) (mo : List Ob) (r : V) (us : List V) : Prop :=
  ∃ rn : List Nat, ((us = [r] ∧ r.clo = true) ∨ (us = [] ∧ r = .tup [])) ∧ rn.length = mo.length ∧ rn.Nodup ∧ (∀ (j i : Nat), rn[j]? = some i → σ.mem i = (mo[j]?).map (Ob.rn1 fun n => rn.getD n 0)) ∧ mo.all (Ob.rOk mo.length) = true ∧ (∀ m, m < kp → rn[m]? = some m)
def lA (kp : Nat) (mo : List Ob) (r : V) (σ : St) (us : List V) : Prop := aNO σ kp mo r us
def aND (T : TypeId → Option TI) (rs : List ResultVar) (kp : Nat) (mo : List Ob) (r : V) : Exit → St → Prop
  | .normal, σ => rvs T σ rs (lA kp mo r σ)
  | .ret, σ => rvs T σ rs (lA kp mo r σ)
  | _, _ => False
section
variable {P : Program} {G : Nat → Option Obj} {T : TypeId → Option TI} {w0 w : World} {X A0 A : Nat → Prop} {N : Nat} {bd : Nat → Prop} {σ : St} {a : Act} {μ : Nat → Option Loc}
theorem aAB {f : FuncId} {fn : Func} {c : Code} (kp : Nat) (hT : TOk P T) (hP : P.follows .mixedOrders = true) (hf : P.funcs[f]? = some fn) (hb : fn.body = some c) (hnm : (fn.name == "runtime.NumGoroutine") = false) (rs : List ResultVar) (hres : fn.results.toList = rs)
    (hcode : lB fn.ntmps c = true) {mi mo : List Ob} {Vs : List V} {r : V} (hn : Vs.length ≤ fn.ntmps) (hkp : kp ≤ mi.length) (J : Jt) (hJ : J.fok mi.length = true) (h0 : aEQ mi.length fun n => awp P G T c J (aND T rs kp mo r) (St.startN n mi Vs)) : lP P G f kp mi Vs mo r := by
  refine ⟨⟨fn, hf, hnm, by rw [hb]; rfl⟩, fun w A μ vs hsz hargs hAlt hGl hobj => ?_⟩
  have h : awp P G T c J (aND T rs kp mo r) (St.start mi Vs) := by rw [sS] at h0; exact h0
  let X : Nat → Prop := blk μ mi.length
  have hstart : Ok w X A fn.ntmps (fun j => j < (St.start mi Vs).next) (St.start mi Vs) { tmps := vs ++ Array.replicate (fn.ntmps - vs.size) undef, defers := [] } w A μ := by
    refine ⟨by simp; omega, rfl, fun t => ?_, rfl, rfl, rfl, Nat.le_refl _, fun _ _ _ => rfl, fun b hb => ⟨hAlt b hb, .inl hb⟩, fun _ h => h, fun i ob hi => ?_, fun i j li lj b hi hj h1 h2 h3 h4 => ?_, fun i hi => hobj.bd i hi⟩
    · show Rv w A μ ((Vs[t]?).getD .und) _
      cases hV : Vs[t]? with
      | none => exact .c (.und _)
      | some x =>
        have hlt : t < vs.size := by rw [hsz]; exact (List.getElem?_eq_some_iff.1 hV).1
        have e : (vs ++ Array.replicate (fn.ntmps - vs.size) undef).getD t undef = vs[t] := by
          simp [Array.getD_eq_getD_getElem?, Array.getElem?_append, hlt]
        rw [e]
        exact hargs t x _ hV (Array.getElem?_eq_getElem hlt)
    · obtain ⟨l, h1, h2, h3⟩ := hobj.ob i ob hi
      exact ⟨l, h1, h2, fun b hb => ⟨(h3 b hb).1, (h3 b hb).2.1, .inl ⟨i, l, (List.getElem?_eq_some_iff.1 hi).1, h1, hb⟩⟩⟩
    · obtain ⟨oi, hoi⟩ := Option.ne_none_iff_exists'.1 hi
      obtain ⟨oj, hoj⟩ := Option.ne_none_iff_exists'.1 hj
      exact hobj.ap i j li lj b (List.getElem?_eq_some_iff.1 hoi).1 (List.getElem?_eq_some_iff.1 hoj).1 h1 h2 h3 h4
  refine calls_of_wp hf hb (wp_mono (gG hT (fun g o hg => ⟨(hGl g o hg).1, hAlt g (hGl g o hg).1, fun ⟨m, l, hm, hl, hb⟩ => (by
      obtain ⟨l', hl', _, hbb⟩ := hobj.ob m _ (List.getElem?_eq_getElem hm)
      rw [hl] at hl'; injection hl' with hl'; subst hl'
      exact (hbb g hb).2.1 (hGl g o hg).1), (hGl g o hg).2⟩) hP c hcode J hJ _ _ _ w A μ h hstart (fun b ⟨m, l, hm, hl, hb⟩ => ⟨m, l, hm, hl, hb⟩)) (fun e a' w' ⟨g1, g2, σ', g3, A1, μ1, g4, g5⟩ => ?_))
  have main : rvs T σ' rs (lA kp mo r σ') → a'.defers = [] ∧ ∃ v, (results fn a'.tmps).run P w' = .ok v w' ∧ ∃ v' A' μ', Ending.returned v = .returned v' ∧ aGH w A μ mi.length kp mo r v' w' A' μ' := fun hrv => by
    obtain ⟨us, vls, ⟨rn, k1, k2, k3, k4, k6, k7⟩, q1, q2, q3, q4⟩ := sO hT g4 rs _ hrv
    refine ⟨g4.df, _, rV hres q1, ?_⟩
    let μ' : Nat → Option Loc := fun j => match rn[j]? with
      | some i => μ1 i
      | none => none
    have hμ : ∀ (j i : Nat), rn[j]? = some i → μ' j = μ1 i := fun j i hj => by show (match rn[j]? with | some i => μ1 i | none => none) = _; rw [hj]
    have hρ : ∀ n l, n < mo.length → μ1 (rn.getD n 0) = some l → μ' n = some l := fun n l hn hl => by
      have e : rn[n]? = some (rn.getD n 0) := by
        rw [List.getD_eq_getElem?_getD, List.getElem?_eq_getElem (by omega : n < rn.length)]; rfl
      rw [hμ n _ e]; exact hl
    refine ⟨_, A1, μ', rfl, ⟨g4.os, g4.tape, g4.out, g4.size, g4.old, g4.hA, g4.sub, ?_, fun m hm => ?_, ⟨fun m ob hm => ?_, fun i j li lj b hi hj h1 h2 h3 h4 => ?_, fun i hi => ?_⟩⟩⟩
    · clear q1
      rcases k1 with ⟨rfl, hc⟩ | ⟨rfl, rfl⟩
      · match vls, q3, q4 with
        | [v], _, q4 => exact vZ hc (q4 0 r v rfl rfl)
      · match vls, q3, q4 with
        | [], _, _ => exact .tup [] #[] rfl (fun i x c hx => by simp at hx)
    · rw [hμ m m (k7 m hm)]
      cases hμm : μ m with
      | none =>
        obtain ⟨l, hl, _⟩ := hobj.ob m _ (List.getElem?_eq_getElem (by omega : m < mi.length))
        rw [hμm] at hl; cases hl
      | some l => exact g5.mu0 m l (by omega) hμm
    · have hml : m < rn.length := by rw [k2]; exact (List.getElem?_eq_some_iff.1 hm).1
      have e := List.getElem?_eq_getElem hml
      obtain ⟨l, hl, ho, hbb⟩ := g4.ob rn[m] _ ((k4 m _ e).trans (by rw [hm]; rfl))
      exact ⟨l, by rw [hμ m _ e]; exact hl, aBT hρ (List.all_eq_true.1 k6 ob (List.mem_of_getElem? hm)) ho, fun b hb => hbb b hb⟩
    · have at1 : ∀ (i : Nat) (l : Loc), i < mo.length → μ' i = some l → ∃ k, rn[i]? = some k ∧ μ1 k = some l ∧ σ'.mem k ≠ none := fun i l hi h1 => by
        have e := List.getElem?_eq_getElem (by omega : i < rn.length)
        exact ⟨_, e, by rw [← hμ i _ e]; exact h1, by rw [k4 i _ e, List.getElem?_eq_getElem hi]; simp⟩
      obtain ⟨ki, p1, p2, p3⟩ := at1 i li hi h1
      obtain ⟨kj, r1, r2, r3⟩ := at1 j lj hj h2
      have := g4.ap ki kj li lj b p3 r3 p2 r2 h3 h4
      subst this
      obtain ⟨_, e1⟩ := List.getElem?_eq_some_iff.1 p1
      obtain ⟨_, e2⟩ := List.getElem?_eq_some_iff.1 r1
      exact (List.getElem_inj k3).1 (e1.trans e2.symm)
    · cases hr : rn[i]? with
      | none =>
        exfalso; apply hi
        show (match rn[i]? with | some i => μ1 i | none => none) = _
        rw [hr]
      | some q => have := (List.getElem?_eq_some_iff.1 hr).1; omega
  cases e with
  | normal => exact main g3
  | ret => exact main g3
  | exit id => exact g3.elim
  | goto l => exact g3.elim
  | panic c => exact absurd rfl (g1 c)
  | outgrown => exact absurd rfl g2
end
end Go.Aw
set_option linter.unusedVariables false
namespace Go.Aw
def veq : V → V → Bool
  | .int k n, .int k' n' => decide (k = k') && decide (n = n')
  | .bool a, .bool b => decide (a = b)
  | .str a, .str b => decide (a.data.toList = b.data.toList)
  | .nil, .nil => true
  | .und, .und => true
  | _, _ => false
theorem aMC {a b : V} (h : veq a b = true) : a = b := by
  cases a <;> cases b <;> simp only [veq, Bool.and_eq_true, decide_eq_true_eq, Bool.false_eq_true] at h <;> first | exact h.elim | skip
  · rfl
  · obtain ⟨rfl, rfl⟩ := h; rfl
  · subst h; rfl
  · rename_i x y
    have : x = y := ByteArray.ext (Array.toList_inj.1 h)
    rw [this]
  · rfl
def aIX : List V → List V → Bool
  | [], [] => true
  | a :: xs, b :: bs => veq a b && aIX xs bs
  | _, _ => false
theorem aCQ : ∀ (xs bs : List V), aIX xs bs = true → xs = bs
  | [], [], _ => rfl
  | a :: xs, b :: bs, h => by
    simp only [aIX, Bool.and_eq_true] at h
    rw [aMC h.1, aCQ xs bs h.2]
  | [], _ :: _, h => by cases h
  | _ :: _, [], h => by cases h
def aIN (P : Program) : List Field → List (Nat × TypeId) → List (Nat × Nat) → Bool
  | [], [], [] => true
  | f :: fs, (off, ft) :: l, (o2, sz) :: m => Nat.beq f.offset off && Nat.beq f.type ft && Nat.beq o2 off && (match P.info? ft with | some i => Nat.beq i.size sz && Nat.blt 0 i.size | none => false) && aIN P fs l m
  | _, _, _ => false
def aIZ (s : Nat) : Nat → List (Nat × Nat) → Bool
  | _, [] => true
  | n, (a, b) :: l => Nat.beq a (n * s) && Nat.beq b s && aIZ s (n + 1) l
def tiB (P : Program) (t : TypeId) (ti : TI) : Bool :=
  (ti.agg || Nat.beq ti.size 1) && Nat.blt 0 ti.size && Nat.blt 0 ti.bytes &&
  (match P.info? t with
    | some i => Nat.beq i.size ti.size && Nat.beq i.bytes ti.bytes && (match i.zero with | some z => aIX (z.cells.toList.map cv) ti.zero && Nat.beq z.cells.size ti.size | none => false)
    | none => false) &&
  (match P.underlying t with
    | some (.struct fs) => Nat.beq ti.alen 0 && ti.agg && !ti.sl && ti.int.isNone && !ti.str && !ti.bool && aIN P fs.toList ti.flds ti.plc
    | some (.array n e) => Nat.beq ti.alen n && ti.agg && !ti.sl && ti.int.isNone && !ti.str && !ti.bool && ti.flds.isEmpty && Nat.beq ti.elem e && (match P.info? e with | some i => aIZ i.size 0 ti.plc | none => false)
    | some (.slice e) => Nat.beq ti.alen 0 && !ti.agg && ti.sl && Nat.beq ti.elem e && ti.int.isNone && !ti.str && !ti.bool && ti.flds.isEmpty
    | some (.int k) => Nat.beq ti.alen 0 && !ti.agg && !ti.sl && decide (ti.int = some k) && !ti.str && !ti.bool && ti.flds.isEmpty
    | some .string => Nat.beq ti.alen 0 && !ti.agg && !ti.sl && ti.int.isNone && ti.str && !ti.bool && ti.flds.isEmpty
    | some (.pointer _) => Nat.beq ti.alen 0 && !ti.agg && !ti.sl && ti.int.isNone && !ti.str && !ti.bool && ti.flds.isEmpty
    | some .bool => Nat.beq ti.alen 0 && !ti.agg && !ti.sl && ti.int.isNone && !ti.str && ti.bool && ti.flds.isEmpty
    | _ => false)
theorem aCJ {P : Program} : ∀ (fs : List Field) (l : List (Nat × TypeId)) (m : List (Nat × Nat)), aIN P fs l m = true →
    (∀ (f off : Nat) (ft : TypeId), l[f]? = some (off, ft) → ∃ fl, fs[f]? = some fl ∧ fl.offset = off ∧ fl.type = ft ∧ ∃ fi, P.info? ft = some fi ∧ fi.size ≠ 0) ∧ fs.mapM (fun f => (P.info? f.type).map fun i => (f.offset, i.size)) = some m
  | [], [], [], _ => ⟨fun f off ft h => by simp at h, rfl⟩
  | f :: fs, (off, ft) :: l, (o2, sz) :: m, h => by
    simp only [aIN, Bool.and_eq_true] at h
    obtain ⟨⟨⟨⟨h1, h2⟩, h3⟩, h4⟩, h5⟩ := h
    have e1 := Nat.eq_of_beq_eq_true h1
    have e2 := Nat.eq_of_beq_eq_true h2
    have e3 := Nat.eq_of_beq_eq_true h3
    obtain ⟨g1, g2⟩ := aCJ fs l m h5
    cases hi : P.info? ft with
    | none => rw [hi] at h4; cases h4
    | some i =>
      rw [hi] at h4
      simp only [Bool.and_eq_true] at h4
      have e4 := Nat.eq_of_beq_eq_true h4.1
      have e5 : 0 < i.size := Nat.le_of_ble_eq_true h4.2
      refine ⟨fun n off' ft' hn => ?_, ?_⟩
      · cases n with
        | zero => simp at hn; obtain ⟨rfl, rfl⟩ := hn; exact ⟨f, rfl, e1, e2, i, hi, by omega⟩
        | succ n => exact g1 n off' ft' (by simpa using hn)
      · rw [List.mapM_cons, e2, hi, g2, e1, e3]; simp [e4]
  | [], _ :: _, _, h => by cases h
  | [], [], _ :: _, h => by cases h
  | _ :: _, [], _, h => by cases h
  | _ :: _, (_, _) :: _, [], h => by cases h
theorem aCM (s : Nat) : ∀ (l : List (Nat × Nat)) (n : Nat), aIZ s n l = true → ∀ (i : Nat) (p : Nat × Nat), l[i]? = some p → some ((n + i) * s, s) = some p
  | [], n, _, i, p, h => by simp at h
  | (a, b) :: l, n, h, i, p, hi => by
    simp only [aIZ, Bool.and_eq_true] at h
    obtain ⟨⟨h1, h2⟩, h3⟩ := h
    cases i with
    | zero => simp at hi; subst hi; rw [Nat.eq_of_beq_eq_true h1, Nat.eq_of_beq_eq_true h2, Nat.add_zero]
    | succ i =>
      have := aCM s l (n + 1) h3 i p (by simpa using hi)
      rw [show n + (i + 1) = n + 1 + i by omega]; exact this
theorem aLV {P : Program} {t : TypeId} {ti : TI} (h : tiB P t ti = true) : TIb P t ti := by
  simp only [tiB, Bool.and_eq_true] at h
  obtain ⟨⟨⟨⟨h1, h2⟩, h3⟩, h4⟩, h5⟩ := h
  cases hi : P.info? t with
  | none => rw [hi] at h4; cases h4
  | some i =>
    rw [hi] at h4
    simp only [Bool.and_eq_true] at h4
    obtain ⟨⟨a1, a2⟩, a3⟩ := h4
    cases hz : i.zero with
    | none => rw [hz] at a3; cases a3
    | some z =>
      rw [hz] at a3
      simp only [Bool.and_eq_true] at a3
      have ez := aCQ _ _ a3.1
      have es := Nat.eq_of_beq_eq_true a3.2
      have base : ∃ i z, P.info? t = some i ∧ i.size = ti.size ∧ i.bytes = ti.bytes ∧ i.zero = some z ∧ z.cells.toList.map cv = ti.zero ∧ z.cells.size = ti.size :=
        ⟨i, z, hi, Nat.eq_of_beq_eq_true a1, Nat.eq_of_beq_eq_true a2, hz, ez, es⟩
      have hone : ti.agg = false → ti.size = 1 := fun hf => by rw [hf, Bool.false_or] at h1; exact Nat.eq_of_beq_eq_true h1
      have hp : 0 < ti.size := Nat.le_of_ble_eq_true h2
      have hbp : 0 < ti.bytes := Nat.le_of_ble_eq_true h3
      cases hu : P.underlying t with
      | none => rw [hu] at h5; cases h5
      | some d =>
        rw [hu] at h5
        cases d with
        | struct fs =>
          simp only [Bool.and_eq_true, Bool.not_eq_true'] at h5
          obtain ⟨⟨⟨⟨⟨⟨c0, c1⟩, c2⟩, c3⟩, c4⟩, c5⟩, c6⟩ := h5
          obtain ⟨g1, g2⟩ := aCJ _ _ _ c6
          refine ⟨fun _ => ⟨z, fun n => ti.plc.toArray[n]?, ez, fun n p hn => by simpa using hn, fun parts => ?_⟩, hone, hp, hbp, base, _, hu, fun _ => .inl ⟨fs, rfl⟩, fun hf => (by rw [c1] at hf; cases hf), fun f off ft hf => ?_, fun hs => (by rw [c2] at hs; cases hs), fun k hk => (by rw [hk] at c3; cases c3), fun hs => (by rw [c4] at hs; cases hs), fun hs => (by rw [c5] at hs; cases hs), fun ha => absurd ha (by rw [Nat.eq_of_beq_eq_true c0]; exact Nat.lt_irrefl _)⟩
          · unfold Program.built
            simp only [hi, hu, hz, g2]
          · obtain ⟨fl, k1, k2, k3, k4⟩ := g1 f off ft hf
            exact ⟨fs, fl, rfl, by simpa using k1, k2, k3, k4⟩
        | array n e =>
          simp only [Bool.and_eq_true, Bool.not_eq_true'] at h5
          obtain ⟨⟨⟨⟨⟨⟨⟨⟨c0, c1⟩, c2⟩, c3⟩, c4⟩, c5⟩, c6⟩, c7⟩, c8⟩ := h5
          cases hie : P.info? e with
          | none => rw [hie] at c8; cases c8
          | some ie =>
            rw [hie] at c8
            refine ⟨fun _ => ⟨z, fun n => some (n * ie.size, ie.size), ez, fun n p hn => by have := aCM _ _ 0 c8 n p hn; rwa [Nat.zero_add] at this, fun parts => ?_⟩, hone, hp, hbp, base, _, hu, fun _ => .inr ⟨n, e, rfl⟩, fun hf => (by rw [c1] at hf; cases hf), fun f off ft hf => ?_, fun hs => (by rw [c2] at hs; cases hs), fun k hk => (by rw [hk] at c3; cases c3), fun hs => (by rw [c4] at hs; cases hs), fun hs => (by rw [c5] at hs; cases hs), fun _ => (by rw [Nat.eq_of_beq_eq_true c0, Nat.eq_of_beq_eq_true c7])⟩
            · unfold Program.built
              simp only [hi, hu, hz, hie]
            · rw [List.isEmpty_iff] at c6; rw [c6] at hf; simp at hf
        | slice e =>
          simp only [Bool.and_eq_true, Bool.not_eq_true'] at h5
          obtain ⟨⟨⟨⟨⟨⟨⟨c0, c1⟩, c2⟩, c3⟩, c4⟩, c5⟩, c6⟩, c7⟩ := h5
          refine ⟨fun hh => (by rw [c1] at hh; cases hh), hone, hp, hbp, base, _, hu, fun hh => (by rw [c1] at hh; cases hh), fun _ => ⟨fun _ h => (by cases h), fun _ _ h => (by cases h)⟩, fun f off ft hf => ?_, fun _ => ⟨by rw [Nat.eq_of_beq_eq_true c3], hp⟩, fun k hk => (by rw [hk] at c4; cases c4), fun hs => (by rw [c5] at hs; cases hs), fun hs => (by rw [c6] at hs; cases hs), fun ha => absurd ha (by rw [Nat.eq_of_beq_eq_true c0]; exact Nat.lt_irrefl _)⟩
          rw [List.isEmpty_iff] at c7; rw [c7] at hf; simp at hf
        | int k =>
          simp only [Bool.and_eq_true, Bool.not_eq_true', decide_eq_true_eq] at h5
          obtain ⟨⟨⟨⟨⟨⟨c0, c1⟩, c2⟩, c3⟩, c4⟩, c5⟩, c6⟩ := h5
          refine ⟨fun hh => (by rw [c1] at hh; cases hh), hone, hp, hbp, base, _, hu, fun hh => (by rw [c1] at hh; cases hh), fun _ => ⟨fun _ h => (by cases h), fun _ _ h => (by cases h)⟩, fun f off ft hf => ?_, fun hs => (by rw [c2] at hs; cases hs), fun k' hk => (by rw [c3] at hk; injection hk with hk; rw [hk]), fun hs => (by rw [c4] at hs; cases hs), fun hs => (by rw [c5] at hs; cases hs), fun ha => absurd ha (by rw [Nat.eq_of_beq_eq_true c0]; exact Nat.lt_irrefl _)⟩
          rw [List.isEmpty_iff] at c6; rw [c6] at hf; simp at hf
        | string =>
          simp only [Bool.and_eq_true, Bool.not_eq_true'] at h5
          obtain ⟨⟨⟨⟨⟨⟨c0, c1⟩, c2⟩, c3⟩, c4⟩, c5⟩, c6⟩ := h5
          refine ⟨fun hh => (by rw [c1] at hh; cases hh), hone, hp, hbp, base, _, hu, fun hh => (by rw [c1] at hh; cases hh), fun _ => ⟨fun _ h => (by cases h), fun _ _ h => (by cases h)⟩, fun f off ft hf => ?_, fun hs => (by rw [c2] at hs; cases hs), fun k hk => (by rw [hk] at c3; cases c3), fun _ => rfl, fun hs => (by rw [c5] at hs; cases hs), fun ha => absurd ha (by rw [Nat.eq_of_beq_eq_true c0]; exact Nat.lt_irrefl _)⟩
          rw [List.isEmpty_iff] at c6; rw [c6] at hf; simp at hf
        | pointer q =>
          simp only [Bool.and_eq_true, Bool.not_eq_true'] at h5
          obtain ⟨⟨⟨⟨⟨⟨c0, c1⟩, c2⟩, c3⟩, c4⟩, c5⟩, c6⟩ := h5
          refine ⟨fun hh => (by rw [c1] at hh; cases hh), hone, hp, hbp, base, _, hu, fun hh => (by rw [c1] at hh; cases hh), fun _ => ⟨fun _ h => (by cases h), fun _ _ h => (by cases h)⟩, fun f off ft hf => ?_, fun hs => (by rw [c2] at hs; cases hs), fun k hk => (by rw [hk] at c3; cases c3), fun hs => (by rw [c4] at hs; cases hs), fun hs => (by rw [c5] at hs; cases hs), fun ha => absurd ha (by rw [Nat.eq_of_beq_eq_true c0]; exact Nat.lt_irrefl _)⟩
          rw [List.isEmpty_iff] at c6; rw [c6] at hf; simp at hf
        | bool =>
          simp only [Bool.and_eq_true, Bool.not_eq_true'] at h5
          obtain ⟨⟨⟨⟨⟨⟨c0, c1⟩, c2⟩, c3⟩, c4⟩, c5⟩, c6⟩ := h5
          refine ⟨fun hh => (by rw [c1] at hh; cases hh), hone, hp, hbp, base, _, hu, fun hh => (by rw [c1] at hh; cases hh), fun _ => ⟨fun _ h => (by cases h), fun _ _ h => (by cases h)⟩, fun f off ft hf => ?_, fun hs => (by rw [c2] at hs; cases hs), fun k hk => (by rw [hk] at c3; cases c3), fun hs => (by rw [c4] at hs; cases hs), fun _ => rfl, fun ha => absurd ha (by rw [Nat.eq_of_beq_eq_true c0]; exact Nat.lt_irrefl _)⟩
          rw [List.isEmpty_iff] at c6; rw [c6] at hf; simp at hf
        | _ => cases h5
def sX (P : Program) (e : TypeId) : Nat := match P.underlying e with | some (.int _) => 1 | some .string => 2 | some .bool => 3 | _ => 0
def aBJ (n : Nat) : List Nat → Nat → Bool
  | [], 0 => true
  | m :: l, k + 1 => Nat.beq m n && aBJ n l k
  | _, _ => false
def aHH (P : Program) : List Field → List Nat → Nat → Bool
  | [], [], _ => true
  | f :: fs, n :: ns, o => (!(f.name == "_") && Nat.beq f.offset o) && ((Nat.blt 0 n && Nat.beq (sX P f.type) n) && aHH P fs ns (o + 1))
  | _, _, _ => false
def eqB (P : Program) (t : TypeId) (ti : TI) : Bool :=
  match ti.eqk with
  | [] => true
  | n :: ns => Nat.blt 0 n && !P.eqGuardType P.depth t && (match P.underlying t with
    | some (.array m e) => Nat.beq (sX P e) n && aBJ n (n :: ns) m && (match P.info? e with | some i => Nat.beq i.size 1 | none => false)
    | some (.struct fs) => !P.stoodInHeld t && aHH P fs.toList (n :: ns) 0
    | _ => false)
theorem yH {n : Nat} : ∀ (l : List Nat) (k : Nat), aBJ n l k = true → l = List.replicate k n
  | [], 0, _ => rfl
  | m :: l, k + 1, h => by
    simp only [aBJ, Bool.and_eq_true] at h
    rw [Nat.eq_of_beq_eq_true h.1, yH l k h.2]; rfl
  | [], _ + 1, h => by cases h
  | _ :: _, 0, h => by cases h
theorem aBK {P : Program} {w : World} {d : Nat} {e : TypeId} {n : Nat} (hn : sX P e = n) (h0 : 0 < n) {a b : Value} {r : Bool} (h : aET n a b = some r) : (Op.equalIn (d + 1) e a b).run P w = .ok r w := by
  unfold aET at h
  unfold sX at hn
  split at h
  · rename_i k x k' y
    split at h
    · rename_i hk; subst hk; injection h with h; subst h
      split at hn <;> first | exact absurd hn (by decide) | skip
      rename_i k1 hu
      rw [run_equalIn_int w d e k k1 x y hu]; congr 1
    · cases h
  · injection h with h; subst h
    split at hn <;> first | exact absurd hn (by decide) | skip
    rename_i hu
    rw [run_equalIn_string w d e _ _ hu]; congr 1; rw [Bool.eq_iff_iff, beq_iff_eq, decide_eq_true_iff]
  · injection h with h; subst h
    split at hn <;> first | exact absurd hn (by decide) | skip
    rename_i hu
    exact run_equalIn_bool' w d e _ _ hu
  · cases h
theorem oS {P : Program} {w : World} {e : TypeId} {n : Nat} (hn : sX P e = n) (h0 : 0 < n) {xs : Array Value} {i : Nat} {v : Value} (hv : xs[i]? = some v) : (part e xs i).run P w = .ok v w := by
  have ha : (isAgg e).run P w = .ok false w := by
    unfold sX at hn
    split at hn <;> first | exact absurd hn (by omega) | skip
    all_goals (rename_i hu; unfold isAgg; simp only [Sem.run_bind, run_underlying hu, Result.andThen_ok]; rfl)
  simp only [part, Sem.run_bind, ha, Result.andThen_ok, hv]
  rfl
theorem uX {P : Program} {t e : TypeId} {m n : Nat} (hu : P.underlying t = some (.array m e)) (hn : sX P e = n) (h0 : 0 < n) {i : TypeInfo} (hi : P.info? e = some i) (hs : i.size = 1) (w : World) (xs ys : Array Value) (b : Bool)
    (h : qS (List.replicate m n) xs.toList ys.toList = some b) : (Op.equal t (.agg xs) (.agg ys)).run P w = .ok b w := by
  have hsz : (sizeOf e).run P w = .ok 1 w := by simp [sizeOf, typeInfo, hi, hs]
  have hM : Op.equal t (.agg xs) (.agg ys) = Op.equalIn (9998 + 1 + 1) t (.agg xs) (.agg ys) := rfl
  rw [hM]
  generalize 9998 = d
  rw [Op.equalIn]
  simp only [Sem.run_bind, run_underlying hu, Result.andThen_ok, hsz]
  rw [Std.Legacy.Range.forIn_eq_forIn_range']
  have key : ∀ (k o : Nat) (b : Bool), qS (List.replicate k n) (xs.toList.drop o) (ys.toList.drop o) = some b →
      ∃ s : Option Bool, Sem.run P (forIn (List.range' o k 1) ((none : Option Bool), ()) fun i __s => do
        let a ← part e xs (i * 1)
        let b ← part e ys (i * 1)
        let r ← Op.equalIn (d + 1) e a b
        if (!r) = true then pure (ForInStep.done (some false, ())) else pure (ForInStep.yield (none, ()))) w = Result.ok (s, ()) w ∧ s.getD true = b := by
    intro k
    induction k with
    | zero =>
      intro o b h
      have : b = true := by
        cases hx : xs.toList.drop o <;> cases hy : ys.toList.drop o <;> rw [hx, hy] at h <;> simp [qS] at h
        exact h
      subst this
      exact ⟨none, by simp, rfl⟩
    | succ k ih =>
      intro o b h
      rw [List.replicate_succ] at h
      cases hx : xs.toList.drop o with
      | nil => rw [hx] at h; cases hy : ys.toList.drop o <;> rw [hy] at h <;> cases h
      | cons x xr =>
        cases hy : ys.toList.drop o with
        | nil => rw [hx, hy] at h; cases h
        | cons y yr =>
          rw [hx, hy] at h
          simp only [qS] at h
          split at h
          · rename_i p q e1 e2
            injection h with h; subst h
            have hxo : xs[o * 1]? = some x := by
              have := congrArg (·[0]?) hx; simpa using this
            have hyo : ys[o * 1]? = some y := by
              have := congrArg (·[0]?) hy; simpa using this
            have hxr : xs.toList.drop (o + 1) = xr := by
              have := congrArg (List.drop 1) hx; simpa [Nat.add_comm] using this
            have hyr : ys.toList.drop (o + 1) = yr := by
              have := congrArg (List.drop 1) hy; simpa [Nat.add_comm] using this
            obtain ⟨s, hh, hs⟩ := ih (o + 1) q (by rw [hxr, hyr]; exact e2)
            rw [List.range'_succ]
            simp only [List.forIn_cons, Sem.run_bind, oS hn h0 hxo, oS hn h0 hyo, Result.andThen_ok, aBK hn h0 e1]
            cases p with
            | false => exact ⟨some false, by simp, rfl⟩
            | true => exact ⟨s, by simpa using hh, hs⟩
          · cases h
  rw [show ([:m] : Std.Legacy.Range).size = m by simp [Std.Legacy.Range.size]]
  obtain ⟨s, hh, hs⟩ := key m 0 b h
  refine (congrArg (Result.andThen · _) hh).trans ?_
  subst hs
  cases s <;> simp
theorem uO {P : Program} {t : TypeId} {fs : Array Field} {ns : List Nat} (hu : P.underlying t = some (.struct fs)) (hst : P.stoodInHeld t = false) (hf : aHH P fs.toList ns 0 = true) (w : World) (xs ys : Array Value) (b : Bool)
    (h : qS ns xs.toList ys.toList = some b) : (Op.equal t (.agg xs) (.agg ys)).run P w = .ok b w := by
  have hM : Op.equal t (.agg xs) (.agg ys) = Op.equalIn (9998 + 1 + 1) t (.agg xs) (.agg ys) := rfl
  rw [hM]
  generalize 9998 = d
  rw [Op.equalIn]
  have hp : (Sem.run P program w) = .ok P w := rfl
  simp only [Sem.run_bind, run_underlying hu, Result.andThen_ok, hp, hst, if_neg Bool.false_ne_true]
  rw [← Array.forIn_toList]
  have key : ∀ (fl : List Field) (ns : List Nat) (o : Nat) (b : Bool), aHH P fl ns o = true → qS ns (xs.toList.drop o) (ys.toList.drop o) = some b →
      ∃ s : Option Bool, Sem.run P (forIn fl ((none : Option Bool), ()) fun f __s =>
        if f.name ≠ "_" then do
          let a ← part f.type xs f.offset
          let b ← part f.type ys f.offset
          let r ← Op.equalIn (d + 1) f.type a b
          if (!r) = true then pure (ForInStep.done (some false, ())) else pure (ForInStep.yield (none, ()))
        else pure (ForInStep.yield (none, ()))) w = Result.ok (s, ()) w ∧ s.getD true = b := by
    intro fl
    induction fl with
    | nil =>
      intro ns o b hf h
      cases ns with
      | nil =>
        have : b = true := by
          cases hx : xs.toList.drop o <;> cases hy : ys.toList.drop o <;> rw [hx, hy] at h <;> simp [qS] at h
          exact h
        subst this
        exact ⟨none, by simp, rfl⟩
      | cons n ns => cases hf
    | cons f fl ih =>
      intro ns o b hf h
      cases ns with
      | nil => cases hf
      | cons n ns =>
        simp only [aHH, Bool.and_eq_true, Bool.not_eq_true'] at hf
        obtain ⟨⟨hname, hoff⟩, ⟨h0, hn⟩, hf⟩ := hf
        have hoff := Nat.eq_of_beq_eq_true hoff
        have hn := Nat.eq_of_beq_eq_true hn
        have h0 : 0 < n := Nat.le_of_ble_eq_true h0
        have hname : f.name ≠ "_" := by rw [beq_eq_false_iff_ne] at hname; exact hname
        cases hx : xs.toList.drop o with
        | nil => rw [hx] at h; cases hy : ys.toList.drop o <;> rw [hy] at h <;> cases h
        | cons x xr =>
          cases hy : ys.toList.drop o with
          | nil => rw [hx, hy] at h; cases h
          | cons y yr =>
            rw [hx, hy] at h
            simp only [qS] at h
            split at h
            · rename_i p q e1 e2
              injection h with h; subst h
              have hxo : xs[f.offset]? = some x := by
                have := congrArg (·[0]?) hx; rw [hoff]; simpa using this
              have hyo : ys[f.offset]? = some y := by
                have := congrArg (·[0]?) hy; rw [hoff]; simpa using this
              have hxr : xs.toList.drop (o + 1) = xr := by
                have := congrArg (List.drop 1) hx; simpa [Nat.add_comm] using this
              have hyr : ys.toList.drop (o + 1) = yr := by
                have := congrArg (List.drop 1) hy; simpa [Nat.add_comm] using this
              obtain ⟨s, hh, hs⟩ := ih ns (o + 1) q hf (by rw [hxr, hyr]; exact e2)
              simp only [List.forIn_cons, if_pos hname, Sem.run_bind, oS hn h0 hxo, oS hn h0 hyo, Result.andThen_ok, aBK hn h0 e1]
              cases p with
              | false => exact ⟨some false, by simp, rfl⟩
              | true => exact ⟨s, by simpa using hh, hs⟩
            · cases h
  obtain ⟨s, hh, hs⟩ := key fs.toList ns 0 b hf h
  refine (congrArg (Result.andThen · _) hh).trans ?_
  subst hs
  cases s <;> simp
theorem aLD {P : Program} {t : TypeId} {ti : TI} (h : eqB P t ti = true) : ti.eqk ≠ [] → P.eqGuardType P.depth t = false ∧ ∀ (w : World) (xs ys : Array Value) (b : Bool), qS ti.eqk xs.toList ys.toList = some b → (Op.equal t (.agg xs) (.agg ys)).run P w = .ok b w := fun hne => by
  unfold eqB at h
  split at h
  · rename_i e; exact absurd e hne
  · rename_i n ns e
    simp only [Bool.and_eq_true, Bool.not_eq_true'] at h
    obtain ⟨⟨h1, h2⟩, h3⟩ := h
    refine ⟨h2, fun w xs ys b hb => ?_⟩
    split at h3
    · rename_i m el hu
      simp only [Bool.and_eq_true] at h3
      obtain ⟨⟨h4, h5⟩, h6⟩ := h3
      cases hi : P.info? el with
      | none => rw [hi] at h6; cases h6
      | some i =>
        rw [hi] at h6
        rw [e, yH _ _ h5] at hb
        exact uX hu (Nat.eq_of_beq_eq_true h4) (Nat.le_of_ble_eq_true h1) hi (Nat.eq_of_beq_eq_true h6) w xs ys b hb
    · rename_i fs hu
      simp only [Bool.and_eq_true, Bool.not_eq_true'] at h3
      rw [e] at hb
      exact uO hu h3.1 h3.2 w xs ys b hb
    · cases h3
theorem aLS {P : Program} (tab : List (TypeId × TI)) (h : tab.all (fun p => tiB P p.1 p.2 && eqB P p.1 p.2) = true) : TOk P (lk tab) := fun t ti ht => by
  have h' := List.all_eq_true.1 h _ (jI _ _ _ ht)
  simp only [Bool.and_eq_true] at h'
  exact { toTIb := aLV h'.1, eq := aLD h'.2 }
end Go.Aw
set_option linter.unusedVariables false
namespace Go.Aw
def FE (rn : List (Option Nat)) (env : Nat → V) : List (Nat × V) → Prop
  | [] => True
  | (t, v) :: l => Mt rn (env t) v ∧ FE rn env l
def FM (mem : Nat → Option Ob) : List (Option Nat) → List Ob → Prop
  | [], [] => True
  | some i :: rn, ob :: M => mem i = some ob ∧ FM mem rn M
  | none :: rn, ob :: M => ob.emp = true ∧ FM mem rn M
  | _, _ => False
def FI (md : List Nat) (m m0 : Nat → Option Ob) : List Nat → Prop
  | [] => True
  | i :: l => match fB md i with | true => FI md m m0 l | false => m i = m0 i ∧ FI md m m0 l
def FB (rn : List (Option Nat)) (m m0 : Nat → Option Ob) : List (Nat × Ob) → Prop
  | [] => True
  | (i, p) :: l => (∃ ob, m0 i = some ob) ∧ aKZ rn (m i) p ∧ FB rn m m0 l
def ndB : List Nat → Bool
  | [] => true
  | i :: l => match fB l i with | true => false | false => ndB l
def FS (ids md : List Nat) (nx : Nat) (rn : List (Option Nat)) (B : List (Nat × Ob)) (M : List Ob) : Bool :=
  ndB (rn.filterMap id) && (rn.filterMap id).all (fun i => match fB ids i with | true => fB md i | false => true) && M.all Ob.isA &&
  B.all (fun p => fB md p.1 && Nat.blt p.1 nx && !fB (rn.filterMap id) p.1)
theorem rD : ∀ (l : List Nat), ndB l = true → l.Nodup
  | [], _ => List.nodup_nil
  | i :: l, h => by
    simp only [ndB] at h
    cases hm : fB l i with
    | true => rw [hm] at h; cases h
    | false =>
      rw [hm] at h
      exact List.nodup_cons.2 ⟨fun hi => (by rw [(gX l i).2 hi] at hm; cases hm), rD l h⟩
theorem bR {σ0 σ : St} {md : List Nat} {E : List (Nat × V)} {B : List (Nat × Ob)} {M : List Ob} {rn : List (Option Nat)} (h1 : FE rn σ.env E) (h2 : FM σ.mem rn M) (h3 : FI md σ.mem σ0.mem σ0.ids) (h4 : FB rn σ.mem σ0.mem B) (h5 : FS σ0.ids md σ0.next rn B M = true) :
    cG σ0 σ md E B M rn := by
  simp only [FS, Bool.and_eq_true] at h5
  obtain ⟨⟨⟨s1, s2⟩, s3⟩, s4⟩ := h5
  have e1 : ∀ (E : List (Nat × V)), FE rn σ.env E → ∀ p ∈ E, Mt rn (σ.env p.1) p.2 := fun E => by
    induction E with
    | nil => exact fun _ p hp => by cases hp
    | cons q E ih =>
        intro h p hp
        obtain ⟨a, b⟩ := h
        rcases List.mem_cons.1 hp with rfl | hp
        · exact a
        · exact ih b p hp
  have e2 : ∀ (rn : List (Option Nat)) (M : List Ob), FM σ.mem rn M → rn.length = M.length ∧ (∀ (j i : Nat), rn[j]? = some (some i) → σ.mem i = M[j]?) ∧ ∀ (j : Nat), rn[j]? = some none → ∃ ob, M[j]? = some ob ∧ ob.emp = true := fun rn => by
    induction rn with
    | nil => intro M h; cases M with
      | nil => exact ⟨rfl, fun j i h => by simp at h, fun j h => by simp at h⟩
      | cons _ _ => exact h.elim
    | cons r rn ih =>
      intro M h
      cases M with
      | nil => cases r <;> exact h.elim
      | cons ob M =>
        cases r with
        | some i =>
          obtain ⟨a, b⟩ := h
          obtain ⟨g1, g2, g3⟩ := ih M b
          refine ⟨by simp [g1], fun j k hj => ?_, fun j hj => ?_⟩
          · cases j with
            | zero => simp at hj; subst hj; exact a
            | succ j => exact g2 j k (by simpa using hj)
          · cases j with
            | zero => simp at hj
            | succ j => exact g3 j (by simpa using hj)
        | none =>
          obtain ⟨he0, b⟩ := h
          obtain ⟨g1, g2, g3⟩ := ih M b
          refine ⟨by simp [g1], fun j k hj => ?_, fun j hj => ?_⟩
          · cases j with
            | zero => simp at hj
            | succ j => exact g2 j k (by simpa using hj)
          · cases j with
            | zero => exact ⟨ob, rfl, he0⟩
            | succ j => exact g3 j (by simpa using hj)
  have e3 : ∀ (l : List Nat), FI md σ.mem σ0.mem l → ∀ i ∈ l, fB md i = true ∨ σ.mem i = σ0.mem i := fun l => by
    induction l with
    | nil => exact fun _ i hi => by cases hi
    | cons k l ih =>
      intro h i hi
      simp only [FI] at h
      cases hm : fB md k with
      | true =>
        rw [hm] at h
        rcases List.mem_cons.1 hi with rfl | hi
        · exact .inl hm
        · exact ih h i hi
      | false =>
        rw [hm] at h
        rcases List.mem_cons.1 hi with rfl | hi
        · exact .inr h.1
        · exact ih h.2 i hi
  have e4 : ∀ (B : List (Nat × Ob)), FB rn σ.mem σ0.mem B → ∀ p ∈ B, (∃ ob, σ0.mem p.1 = some ob) ∧ aKZ rn (σ.mem p.1) p.2 := fun B => by
    induction B with
    | nil => exact fun _ p hp => by cases hp
    | cons q B ih =>
        intro h p hp
        obtain ⟨a, b, c⟩ := h
        rcases List.mem_cons.1 hp with rfl | hp
        · exact ⟨a, b⟩
        · exact ih c p hp
  obtain ⟨g1, g2, g3⟩ := e2 rn M h2
  refine ⟨e1 E h1, g1, rD _ s1, fun i hi hm => ?_, g2, g3, e3 _ h3, s3, fun p hp => ?_⟩
  · have := List.all_eq_true.1 s2 i hi
    rw [hm] at this; exact this
  · obtain ⟨a, b⟩ := e4 B h4 p hp
    have := List.all_eq_true.1 s4 p hp
    simp only [Bool.and_eq_true, Bool.not_eq_true'] at this
    exact ⟨this.1.1, this.1.2, a, fun hm => (by rw [(gX _ _).2 hm] at this; cases this.2), b⟩
theorem Lp.mk {F : (Exit → St → Prop) → St → Prop} {hv : List Tmp} {Q : Exit → St → Prop} {σ : St} {τ : Type} (I : τ → Prop) (m : τ → Nat) (md : List Nat) (E : τ → List (Nat × V)) (B : τ → List (Nat × Ob)) (M : τ → List Ob) (x : τ) (rn : List (Option Nat))
    (h0 : I x) (h1 : cG σ σ md (E x) (B x) (M x) rn) (h2 : ∀ x, I x → dL σ hv md (E x) (B x) (M x) (F (fun e σ' => match e with | .normal => ∃ y rn, I y ∧ m y < m x ∧ cG σ σ' md (E y) (B y) (M y) rn | e => Q e σ'))) : Lp F hv Q σ :=
  ⟨τ, I, m, md, E, B, M, ⟨x, rn, h0, h1⟩, h2⟩
theorem fA {P : Program} {G : Nat → Option Obj} {ck : Nat → Bool} {id : Nat} {us : List V} {m : Nat → Option Ob} {f : FuncId}  {k : V → Eff → Prop} {Vs : List V} {mo : List Ob} {r : V} (h : cI P G f [] Vs mo r) (ha : sD ck m us Vs)
    (hs : (us.all V.shutA = true) ∨ (aDC r = true ∧ ∀ ob ∈ mo, mF ob)) (hf : r.flat = true) (hi : mo.all Ob.isA = true) (hl : mo.length ≤ 8) (hk : k (r.ren (id + ·)) (Eff.setL id mo)) : jW P G ck id us m f k := .inl ⟨Vs, mo, r, h, ha, hs, hf, hi, hl, hk⟩
end Go.Aw
set_option linter.unusedVariables false
namespace Go.Aw
theorem bC {α : Type} {r : α} {G : Prop} (h : (none : Option α) = some r) : G := by cases h
theorem aN {α β : Type} {o : Option α} {g : α → Option β} {r : β} {G : Prop} (h : ∀ t, o = some t → g t = some r → G) : o.bind g = some r → G := fun hb => by
  cases o with
  | none => cases hb
  | some t => exact h t rfl hb
theorem ft_ {b : Bool} (h : b = true := by
    first | with_reducible assumption | with_reducible exact decide_eq_true (by with_reducible assumption) | (simp only [List.length_map, Bool.not_eq_true', Bool.not_eq_false', decide_eq_true_eq, decide_eq_false_iff_not]; first | with_reducible assumption | omega) | rfl) : b = true := h
theorem ff_ {b : Bool} (h : b = false := by
    first | with_reducible assumption | with_reducible exact decide_eq_false (by with_reducible assumption) | (simp only [List.length_map, Bool.not_eq_true', Bool.not_eq_false', decide_eq_true_eq, decide_eq_false_iff_not]; first | with_reducible assumption | omega) | rfl) : b = false := h
theorem nf_ {p : Prop} (h : p := by
    first | with_reducible assumption | omega | (simp only [List.length_set, List.length_map, List.length_cons, List.length_nil, List.length_replicate, List.length_append, List.length_take, List.length_drop] <;> first | with_reducible assumption | omega) | (simp only [List.length_map, List.length_cons, List.length_nil, List.length_replicate] at * <;> first | with_reducible assumption | omega)) : p := h
theorem eK {ck : Nat → Bool} {m : Nat → Option Ob} : sD ck m [] [] := rfl
theorem bP {ck : Nat → Bool} {m : Nat → Option Ob} {u x : V} {us xs : List V} (h : AvA ck m u x) (t : sD ck m us xs) : sD ck m (u :: us) (x :: xs) := ⟨x, xs, rfl, h, t⟩
theorem fG {ck : Nat → Bool} {m : Nat → Option Ob} : AvL ck m [] [] := rfl
theorem bB {ck : Nat → Bool} {m : Nat → Option Ob} {u x : V} {us xs : List V} (h : Av ck m u x) (t : AvL ck m us xs) : AvL ck m (u :: us) (x :: xs) := ⟨x, xs, rfl, h, t⟩
theorem fH {ck : Nat → Bool} {m : Nat → Option Ob} {us xs : List V} (h : AvL ck m us xs) : AvA ck m (.agg us) (.agg xs) := ⟨xs, rfl, h⟩
theorem bQ {ck : Nat → Bool} {m : Nat → Option Ob} {u : V} (h : u.shut = true) : Av ck m u u := by
  cases u <;> first | rfl | exact .inl rfl | cases h
theorem gR {ck : Nat → Bool} {m : Nat → Option Ob} {u : V} (h : u.shut = true) : AvA ck m u u := by
  cases u <;> first | rfl | exact .inl rfl | cases h
theorem gJ {ck : Nat → Bool} {m : Nat → Option Ob} {i len : Nat} {e sz : Nat} {xs : List (List V)} (hc : ck i = true) (hm : m i = some (.arr e sz xs)) : Av ck m (.own i len) (.sl sz len xs) := by
  unfold Av; simp only [hc, hm]; exact ⟨len, .inl rfl, rfl⟩
theorem oM {ck : Nat → Bool} {m : Nat → Option Ob} {i len : Nat} {e sz : Nat} {xs : List (List V)} (hc : ck i = true) (hm : m i = some (.arr e sz xs)) : AvA ck m (.own i len) (.sl sz len xs) := gJ (len := len) hc hm
theorem nU {ck : Nat → Bool} {m : Nat → Option Ob} {sz : Nat} : Av ck m .nil (.sl sz 0 []) := .inr ⟨sz, rfl⟩
theorem fW {σ : St} {rn : List (Option Nat)} {fz : List Nat} : RtL σ rn fz [] [] := rfl
theorem bF {σ : St} {rn : List (Option Nat)} {fz : List Nat} {u r : V} {us rs : List V} (h : Rt σ rn fz u r) (t : RtL σ rn fz us rs) : RtL σ rn fz (u :: us) (r :: rs) := ⟨r, rs, rfl, h, t⟩
theorem eB {σ : St} {rn : List (Option Nat)} {fz : List Nat} : uW σ rn fz [] [] := rfl
theorem bM {σ : St} {rn : List (Option Nat)} {fz : List Nat} {u r : V} {us rs : List V} (h : RtA σ rn fz u r) (t : uW σ rn fz us rs) : uW σ rn fz (u :: us) (r :: rs) := ⟨r, rs, rfl, h, t⟩
theorem fS {σ : St} {rn : List (Option Nat)} {fz : List Nat} {us rs : List V} (h : RtL σ rn fz us rs) : RtA σ rn fz (.agg us) (.agg rs) := ⟨us, rfl, h⟩
theorem fZ {σ : St} {rn : List (Option Nat)} {fz : List Nat} {u : V} (h : (match u with | .own .. | .agg _ | .tup _ | .bp .. | .ep .. | .cf .. | .dsl .. | .ip .. | .mp _ | .ifs .. => false | _ => true) = true) : Rt σ rn fz u u := by
  cases u <;> first | rfl | exact .inl rfl | cases h
theorem fV {σ : St} {rn : List (Option Nat)} {fz : List Nat} {u : V} (h : (match u with | .own .. | .agg _ | .tup _ | .bp .. | .ep .. | .cf .. | .dsl .. | .ip .. | .mp _ | .ifs .. => false | _ => true) = true) : RtA σ rn fz u u := by
  cases u <;> first | rfl | exact .inl rfl | cases h
theorem fJ {σ : St} {rn : List (Option Nat)} {fz : List Nat} {sz : Nat} : Rt σ rn fz .nil (.sl sz 0 []) := .inr (.inl ⟨rfl, rfl, rfl⟩)
theorem qR {σ : St} {rn : List (Option Nat)} {fz : List Nat} {sz : Nat} : RtA σ rn fz .nil (.sl sz 0 []) := .inr (.inl ⟨rfl, rfl, rfl⟩)
theorem aHC {σ : St} {rn : List (Option Nat)} {fz : List Nat} {i len e sz : Nat} {xs : List (List V)} (h : σ.mem i = some (.arr e sz xs)) (hf : i ∈ fz) : RtA σ rn fz (.own i len) (.sl sz len xs) := .inr (.inr ⟨i, len, e, ⟨rfl, rfl⟩, h, hf⟩)
theorem aKG {σ : St} {rn : List (Option Nat)} {fz : List Nat} {i len e sz : Nat} {xs : List (List V)} (h : σ.mem i = some (.arr e sz xs)) (hf : i ∈ fz) : Rt σ rn fz (.own i len) (.sl sz len xs) := .inr (.inr ⟨i, len, e, ⟨rfl, rfl⟩, h, hf⟩)
theorem oD {r u : V} {σ : St} (fz : List Nat) (h : RtA σ [] fz u r) : lH [] [] r σ [u] :=
  ⟨[], fz, h, rfl, List.nodup_nil, fun j i h => (by simp at h), fun j h => (by simp at h), rfl, fun m h => (by simp at h), fun i _ h => (by cases h)⟩
theorem eT {u1 u2 : V} {us rs : List V} {σ : St} (fz : List Nat) (h : uW σ [] fz (u1 :: u2 :: us) rs) : lH [] [] (.tup rs) σ (u1 :: u2 :: us) :=
  ⟨[], fz, ⟨rs, rfl, h⟩, rfl, List.nodup_nil, fun j i h => (by simp at h), fun j h => (by simp at h), rfl, fun m h => (by simp at h), fun i _ h => (by cases h)⟩
theorem aGL {mem : Nat → Option Ob} : ∀ (rn : List (Option Nat)) (M : List Ob), FM mem rn M → rn.length = M.length ∧ (∀ (j i : Nat), rn[j]? = some (some i) → mem i = M[j]?) ∧ ∀ (j : Nat), rn[j]? = some none → ∃ ob, M[j]? = some ob ∧ ob.emp = true
  | [], [], _ => ⟨rfl, fun j i h => by simp at h, fun j h => by simp at h⟩
  | [], _ :: _, h => h.elim
  | some _ :: _, [], h => h.elim
  | none :: _, [], h => h.elim
  | some i :: rn, ob :: M, ⟨a, b⟩ => by
    obtain ⟨g1, g2, g3⟩ := aGL rn M b
    refine ⟨by simp [g1], fun j k hj => ?_, fun j hj => ?_⟩
    · cases j with
      | zero => simp at hj; subst hj; exact a
      | succ j => exact g2 j k (by simpa using hj)
    · cases j with
      | zero => simp at hj
      | succ j => exact g3 j (by simpa using hj)
  | none :: rn, ob :: M, ⟨he0, b⟩ => by
    obtain ⟨g1, g2, g3⟩ := aGL rn M b
    refine ⟨by simp [g1], fun j k hj => ?_, fun j hj => ?_⟩
    · cases j with
      | zero => simp at hj
      | succ j => exact g2 j k (by simpa using hj)
    · cases j with
      | zero => exact ⟨ob, rfl, he0⟩
      | succ j => exact g3 j (by simpa using hj)
def pre (m : Nat) : Nat → List (Option Nat) → Bool
  | 0, _ => true
  | n + 1, some i :: l => Nat.beq i m && pre (m + 1) n l
  | _ + 1, _ => false
theorem aEW : ∀ (n m : Nat) (l : List (Option Nat)), pre m n l = true → ∀ j, j < n → l[j]? = some (some (m + j))
  | 0, m, l, _, j, hj => absurd hj (Nat.not_lt_zero j)
  | n + 1, m, [], h, j, hj => by cases h
  | n + 1, m, none :: l, h, j, hj => by cases h
  | n + 1, m, some i :: l, h, j, hj => by
    simp only [pre, Bool.and_eq_true] at h
    cases j with
    | zero => rw [Nat.eq_of_beq_eq_true h.1]; rfl
    | succ j =>
      have := aEW n (m + 1) l h.2 j (Nat.lt_of_succ_lt_succ hj)
      rw [show m + (j + 1) = m + 1 + j by omega]; simpa using this
def RB (rn : List (Option Nat)) (fz : List Nat) (n : Nat) (mo : List Ob) : Bool :=
  ndB (rn.filterMap id) && mo.all Ob.isA && pre 0 n rn && fz.all (fun i => !fB (rn.filterMap id) i)
theorem fT {mi mo : List Ob} {r : V} {σ : St} {us : List V} (rn : List (Option Nat)) (fz : List Nat) (h : match us with | [u] => RtA σ rn fz u r | us => ∃ xs, r = .tup xs ∧ uW σ rn fz us xs) (hm : FM σ.mem rn mo) (hb : RB rn fz mi.length mo = true) : lH mi mo r σ us := by
  simp only [RB, Bool.and_eq_true] at hb
  obtain ⟨⟨⟨b1, b2⟩, b3⟩, b5⟩ := hb
  obtain ⟨g1, g2, g3⟩ := aGL rn mo hm
  refine ⟨rn, fz, h, g1, rD _ b1, g2, g3, b2, fun m hm => ?_, fun i hi hc => ?_⟩
  · have := aEW _ 0 rn b3 m hm
    rwa [Nat.zero_add] at this
  · have := List.all_eq_true.1 b5 i hi
    rw [(gX _ _).2 hc] at this; cases this
def MI (m : Nat → Option Ob) : List Nat → List Ob → Prop
  | [], [] => True
  | i :: ids, ob :: mi => m i = some ob ∧ MI m ids mi
  | _, _ => False
theorem aBV {m : Nat → Option Ob} : ∀ (ids : List Nat) (mi : List Ob), MI m ids mi → ids.length = mi.length ∧ ∀ (n i : Nat), ids[n]? = some i → m i = mi[n]?
  | [], [], _ => ⟨rfl, fun n i h => by simp at h⟩
  | [], _ :: _, h => h.elim
  | _ :: _, [], h => h.elim
  | k :: ids, ob :: mi, ⟨a, b⟩ => by
    obtain ⟨g1, g2⟩ := aBV ids mi b
    refine ⟨by simp [g1], fun n i h => ?_⟩
    cases n with
    | zero => simp at h; subst h; exact a
    | succ n => exact g2 n i (by simpa using h)
theorem cM {P : Program} {G : Nat → Option Obj} {ck : Nat → Bool} {id : Nat} {us : List V} {m : Nat → Option Ob} {f : FuncId}  {k : V → Eff → Prop} {Vs : List V} {mi mo : List Ob} {r : V} (ids : List Nat) (h : cI P G f mi Vs mo r)
    (hm : MI m ids mi) (hlo : Nat.beq mo.length mi.length = true) (hnd : ndB ids = true) (hck : ids.all ck = true) (hck2 : ck 1000000007 = true) (harr : (mi ++ mo).all Ob.isA = true) (ha : us = Vs.map (V.ren fun n => ids.getD n 0))
    (hV : Vs.all (fun v => v.flat2 && v.refs ids.length) = true) (hr : V.clo r = true) (hk : k r (Eff.at ids mo)) : jW P G ck id us m f k := by
  obtain ⟨g1, g2⟩ := aBV ids mi hm
  exact .inr (.inl ⟨ids, Vs, mi, mo, r, h, g1, Nat.eq_of_beq_eq_true hlo, rD _ hnd, hck, hck2, g2, harr, ha, hV, hr, hk⟩)
theorem jD {K : St → Prop} {σ : St} (n : Nat) (E : List (Nat × V)) (B : List (Nat × Ob)) (h0 : σ.next = n) (h1 : CE0 σ.mem [] σ.env E) (h2 : CB0 σ.mem B) (k : K (low n E B)) (hk : (B.all fun p => !p.2.isT) = true := by rfl) : Cut none K σ :=
  ⟨n, E, B, [], hk, List.all_eq_true.2 (fun p _ => rfl), h0, h1.up, h2.up, k⟩
theorem vD {m : Nat} {K : St → Prop} {σ : St} (n : Nat) (fz : List Nat) (E : List (Nat × V)) (B : List (Nat × Ob)) (hf : (B.all fun p => !fB fz p.1) = true) (h0 : σ.next = n) (h1 : CE σ.mem fz σ.env E) (h2 : CB σ.mem fz B B) (k : K (low n E B)) (hk : (rQ m B && xY m E B fz) = true := by rfl) : Cut (some m) K σ := ⟨n, E, B, fz, hk, hf, h0, h1, h2, k⟩
theorem rG {mem : Nat → Option Ob} {fz : List Nat} {i len e sz n : Nat} {xs ys : List (List V)} (hm : mem i = some (.arr e sz xs)) (hf : fB fz i = true) (hn : n = len ∨ xs.length = n) (hx : xs = ys) : Fz mem fz (.own i len) (.sl sz n ys) := by
  subst hx
  exact .inr (.inl ⟨i, len, e, rfl, hm, hf, hn⟩)
theorem aJP {ck : Nat → Bool} {m : Nat → Option Ob} {i len n : Nat} {e sz : Nat} {xs ys : List (List V)} (hc : ck i = true) (hm : m i = some (.arr e sz xs)) (hn : xs.length = n) (hx : xs = ys) : Av ck m (.own i len) (.sl sz n ys) := by
  subst hx
  unfold Av; simp only [hc, hm]; exact ⟨n, .inr hn, rfl⟩
theorem aEZ {ck : Nat → Bool} {m : Nat → Option Ob} {i len n : Nat} {e sz : Nat} {xs ys : List (List V)} (hc : ck i = true) (hm : m i = some (.arr e sz xs)) (hn : xs.length = n) (hx : xs = ys) : AvA ck m (.own i len) (.sl sz n ys) := aJP (len := len) hc hm hn hx
theorem nV {P : Program} {G : Nat → Option Obj} {ck : Nat → Bool} {id : Nat} {us : List V} {m : Nat → Option Ob} {f : FuncId} {k : V → Eff → Prop} {Vs : List V} {mi mo : List Ob} {r : V} {kp : Nat} (ids : List Nat) (mi' mo' : List Ob) (h : lP P G f kp mi Vs mo r)
    (hmi : mi.map (Ob.rn1 fun n => ids.getD n 0) = mi') (hmo : mo.map (Ob.rn1 (uG kp id ids)) = mo') (hm : MI m ids mi') (hlo : (Nat.ble kp mi.length && (Nat.ble kp mo.length && Nat.ble mo.length (kp + 8))) = true) (hnd : ndB ids = true) (hck : ids.all ck = true) (hck2 : ck 1000000007 = true) (hok : (mi.all (Ob.rOk mi.length) && mo.all (Ob.rOk mo.length)) = true)
    (ha : us = Vs.map (V.ren fun n => ids.getD n 0)) (hV : Vs.all (fun v => v.flat2 && v.refs mi.length) = true) (hr : V.clo r = true) (hk : k r (Eff.atK kp id ids mo')) : jW P G ck id us m f k := by
  subst hmi; subst hmo
  obtain ⟨g1, g2⟩ := aBV ids _ hm
  simp only [Bool.and_eq_true] at hlo
  exact .inr (.inr (.inr (.inr ⟨kp, ids, Vs, mi, mo, r, h, by simpa using g1, Nat.le_of_ble_eq_true hlo.1, Nat.le_of_ble_eq_true hlo.2.1, Nat.le_of_ble_eq_true hlo.2.2, rD _ hnd, hck, hck2, fun n i hn => by rw [g2 n i hn]; simp, hok, ha, hV, hr, hk⟩)))
def aJO (m : Nat) : Nat → List Nat → Bool
  | 0, _ => true
  | n + 1, i :: l => Nat.beq i m && aJO (m + 1) n l
  | _ + 1, _ => false
theorem aBZ : ∀ (n m : Nat) (l : List Nat), aJO m n l = true → ∀ j, j < n → l[j]? = some (m + j)
  | 0, m, l, _, j, hj => absurd hj (Nat.not_lt_zero j)
  | n + 1, m, [], h, j, hj => by cases h
  | n + 1, m, i :: l, h, j, hj => by
    simp only [aJO, Bool.and_eq_true] at h
    cases j with
    | zero => rw [Nat.eq_of_beq_eq_true h.1]; rfl
    | succ j =>
      have := aBZ n (m + 1) l h.2 j (Nat.lt_of_succ_lt_succ hj)
      rw [show m + (j + 1) = m + 1 + j by omega]; simpa using this
theorem hY {kp : Nat} {mo : List Ob} {r : V} {σ : St} (rn : List Nat) (mo' : List Ob) (hmo : mo.map (Ob.rn1 fun n => rn.getD n 0) = mo') (hm : MI σ.mem rn mo') (hb : (ndB rn && (mo.all (Ob.rOk mo.length) && aJO 0 kp rn)) = true) (hr : r.clo = true) : lA kp mo r σ [r] := by
  subst hmo
  obtain ⟨g1, g2⟩ := aBV rn _ hm
  simp only [Bool.and_eq_true] at hb
  refine ⟨rn, .inl ⟨rfl, hr⟩, by simpa using g1, rD _ hb.1, fun j i hj => by rw [g2 j i hj]; simp, hb.2.1, fun m hm => ?_⟩
  have := aBZ _ 0 rn hb.2.2 m hm
  rwa [Nat.zero_add] at this
theorem set_app {α : Type} {xs ys : List (List α)} (row : List α) (h : xs ++ [row] = ys) : (xs ++ [[]]).set xs.length row = ys := by rw [← h]; simp
theorem aME {mem : Nat → Option Ob} {fz : List Nat} {u : V} {sz a n : Nat} {xs ys : List (List V)} (h0 : u = .sl sz a xs) (h : a = n) (k : xs = ys) : Fz mem fz u (.sl sz n ys) := .inl (by rw [h0, h, k])
end Go.Aw
