/- Words of a way to tell what a function does with data: an interpreter over values, and the proof that what it tells is so. -/
import Derived.Test.YtodeegjblililaaY0
import Derived.Laws.Strings
import Derived.RowKit
import Derived.Deep.Slices
import Derived.WideShapes
import Derived.ChangeArms
import Derived.DataReads
import Derived.ProofKit
import Derived.OpenShut
import Derived.WalkKit
import Derived.ShutString
import Derived.ChangeOld
import Derived.Below
import Derived.SizedLaws
import Derived.Shelf.Sort.Plain
import Derived.Shelf.Slices.In.SortNone2
set_option linter.unusedVariables false
set_option linter.unusedSimpArgs false
set_option linter.unusedVariables false
namespace Go.Aw
section
variable {P : Program} {G : Nat → Option Obj} {T : TypeId → Option TI} {w0 : World} {X A0 : Nat → Prop} {N : Nat} {Q : Exit → Act → World → Prop} {ops : Array Oper}

inductive Chain (P : Program) (G : Nat → Option Obj) (T : TypeId → Option TI) (ck : Nat → Nat → Bool) (base : Nat) (ops : Array Oper) : List Nat → St → St → Prop
  | nil (σ : St) : Chain P G T ck base ops [] σ σ
  | cons {i : Nat} {l : List Nat} {σ τ : St} {o : Oper} {v : V} {e : Eff} (ho : ops[i]? = some o) (h : GR P G T (ck i) base i ops o σ v e) (t : Chain P G T ck base ops l (σ.upd o.dst v e) τ) : Chain P G T ck base ops (i :: l) σ τ

theorem chain_of {ck : Nat → Nat → Bool} {base : Nat} {K : St → Prop} : ∀ (k i : Nat) (σ : St), i + k = ops.size → rgo P G T ck base ops i (ops.toList.drop i) K σ → ∃ τ, Chain P G T ck base ops (List.range' i k) σ τ ∧ K τ
  | 0, i, σ, hk, h => by
    have hd : ops.toList.drop i = [] := List.drop_eq_nil_of_le (by simp; omega)
    rw [hd] at h
    exact ⟨σ, .nil σ, h⟩
  | k + 1, i, σ, hk, h => by
    have hlt : i < ops.size := by omega
    have ho : ops[i]? = some ops[i] := Array.getElem?_eq_getElem hlt
    have hd : ops.toList.drop i = ops[i] :: ops.toList.drop (i + 1) := by
      rw [List.drop_eq_getElem_cons (by simpa using hlt)]; rfl
    rw [hd] at h
    obtain ⟨v, e, h1, h2⟩ := GR_of h
    obtain ⟨τ, h3, h4⟩ := chain_of k (i + 1) _ (by omega) h2
    rw [List.range'_succ]
    exact ⟨τ, .cons ho h1 h3, h4⟩

/-- two operations that need not come one before the other may be told either way round -/
structure Indep (ck : Nat → Nat → Bool) (base : Nat) (ops : Array Oper) (k i : Nat) : Prop where
  ne : k ≠ i
  ap : ∀ x y, ops[k]? = some x → ops[i]? = some y → x.apart ops y = true ∧ y.apart ops x = true ∧ ((freeOp x.op = true ∨ freeOp y.op = true) ∨ (wrOp (ck k) x.op = false ∧ wrOp (ck i) y.op = false) ∨ (∀ j, ck k j = true → ck i j = true → False))
  cx : ∀ j, sid base i ≤ j → j < sid base i + 8 → ck k j = false
  cy : ∀ j, sid base k ≤ j → j < sid base k + 8 → ck i j = false

theorem pull {ck : Nat → Nat → Bool} {base i : Nat} {o : Oper} (ho : ops[i]? = some o) : ∀ (pre post : List Nat) (σ τ : St), (∀ k ∈ pre, Indep ck base ops k i) → Chain P G T ck base ops (pre ++ i :: post) σ τ →
    ∃ v e, GR P G T (ck i) base i ops o σ v e ∧ Chain P G T ck base ops (pre ++ post) (σ.upd o.dst v e) τ
  | [], post, σ, τ, _, h => by
    cases h with
    | cons ho' h1 t => rw [ho] at ho'; injection ho' with e; subst e; exact ⟨_, _, h1, t⟩
  | k :: pre, post, σ, τ, hi, h => by
    cases h with
    | cons hk h1 t =>
      rename_i x vx ex
      obtain ⟨vy, ey, h2, h3⟩ := pull ho pre post _ τ (fun n hn => hi n (List.mem_cons_of_mem _ hn)) t
      have hd := hi k (List.mem_cons_self ..)
      obtain ⟨p1, p2, p3⟩ := hd.ap x o hk ho
      obtain ⟨q1, q2, q3⟩ := swap p1 p2 p3 hd.ne hd.cx hd.cy h1 h2
      rw [q3] at h3
      exact ⟨vy, ey, q1, .cons hk q2 h3⟩

theorem getD_set (l : Array Bool) (i k : Nat) (d : Bool) (hi : i < l.size) : (l.setIfInBounds i true).getD k d = if k = i then true else l.getD k d := by
  by_cases h : k = i
  · subst h; simp [hi]
  · rw [if_neg h]
    simp [Array.getElem?_setIfInBounds, Ne.symm h]
theorem getD_bool (l : Array Bool) (k : Nat) (hk : k < l.size) (d d' : Bool) : l.getD k d = l.getD k d' := by simp [hk]

/-- a region that draws its order -/
theorem chain_any {base : Nat} {ck : Nat → Nat → Bool} {K : St → Prop} {hv : List Tmp} (hT : TOk P T) (hG : GX G w0 X A0) (hdst : ∀ (i : Nat) (o : Oper), ops[i]? = some o → ∀ n, o.dst = some n → n < N ∧ n ∈ hv)
    (hind : ∀ (listed : Array Bool) (i k : Nat), listed.size = ops.size → (∀ j oj, ops[j]? = some oj → listed.getD j false = true → ∀ e ∈ oj.after, Region.binds .any e = true → listed.getD e.on false = true) → i ∈ Region.ready .any ops listed → k < i → listed.getD k true = false → Indep ck base ops k i)
    (hlow : ∀ (i : Nat) (o : Oper), ops[i]? = some o → ∀ e ∈ o.after, Region.binds .any e = true → e.on < i) :
    ∀ (fuel : Nat) (rem : List Nat) (listed : Array Bool) (σ τ : St) (a : Act) (w : World) (A : Nat → Prop) (μ : Nat → Option Loc), rem.length = fuel → listed.size = ops.size → rem = (List.range ops.size).filter (fun i => !listed.getD i true) →
      (∀ j oj, ops[j]? = some oj → listed.getD j false = true → ∀ e ∈ oj.after, Region.binds .any e = true → listed.getD e.on false = true) →
      Ok w0 X A0 N (fun j => j < base ∨ ∃ m, m < ops.size ∧ listed.getD m false = true ∧ sid base m ≤ j ∧ j < sid base m + 8) σ a w A μ → Chain P G T ck base ops rem σ τ → K τ →
      wpAny P .any ops (fun e a' w' => e = .normal ∧ ∃ σ', K σ' ∧ Next w0 X A0 N (fun j => j < base + 8 * ops.size) σ' hv a w A μ a' w') fuel listed a w
  | 0, rem, listed, σ, τ, a, w, A, μ, hlen, hsz, hrem, hcl, h, hch, hK => by
    have h0 : rem = [] := List.eq_nil_of_length_eq_zero hlen
    subst h0
    cases hch
    refine ⟨?_, rfl, σ, hK, A, μ, h.bdm (fun j hj => ?_), Ext.refl _ _ _ _ _⟩
    · refine List.eq_nil_iff_forall_not_mem.2 fun i hi => ?_
      obtain ⟨h1, o, h2, _⟩ := mem_ready.1 hi
      have : i ∈ (List.range ops.size).filter (fun i => !listed.getD i true) := List.mem_filter.2 ⟨List.mem_range.2 (Array.getElem?_eq_some_iff.1 h2).1, by rw [h1]; rfl⟩
      rw [← hrem] at this; cases this
    · rcases hj with hj | ⟨m, hm, _, h1, h2⟩
      · omega
      · simp only [sid] at h1 h2; omega
  | fuel + 1, rem, listed, σ, τ, a, w, A, μ, hlen, hsz, hrem, hcl, h, hch, hK => by
    refine ⟨fun hr => ?_, fun i hi => ?_⟩
    · -- the least that has not come up may come up
      exfalso
      have key : ∀ n i, i ≤ n → i < ops.size → listed.getD i true = false → False := fun n => by
        induction n with
        | zero =>
          intro i hle hlt hun
          have hi0 : i = 0 := by omega
          subst hi0
          have ho : ops[0]? = some ops[0] := Array.getElem?_eq_getElem hlt
          have : 0 ∈ Region.ready .any ops listed := mem_ready.2 ⟨hun, _, ho, fun e he hb => absurd (hlow 0 _ ho e he hb) (by omega)⟩
          rw [hr] at this; cases this
        | succ n ih =>
          intro i hle hlt hun
          have ho : ops[i]? = some ops[i] := Array.getElem?_eq_getElem hlt
          by_cases hall : ∀ e ∈ ops[i].after, Region.binds .any e = true → listed.getD e.on false = true
          · have : i ∈ Region.ready .any ops listed := mem_ready.2 ⟨hun, _, ho, hall⟩
            rw [hr] at this; cases this
          · simp only [Classical.not_forall] at hall
            obtain ⟨e, he, hb, hl⟩ := hall
            have hlt2 := hlow i _ ho e he hb
            refine ih e.on (by omega) (by omega) ?_
            rw [getD_bool listed e.on (by omega) true false]
            simpa using hl
      cases hrl : rem with
      | nil => rw [hrl] at hlen; simp at hlen
      | cons i l =>
        have : i ∈ rem := by rw [hrl]; exact List.mem_cons_self ..
        rw [hrem] at this
        obtain ⟨h1, h2⟩ := List.mem_filter.1 this
        exact key i i (Nat.le_refl _) (List.mem_range.1 h1) (by simpa using h2)
    · obtain ⟨hun, o, ho, hall⟩ := mem_ready.1 hi
      have hlt : i < ops.size := (Array.getElem?_eq_some_iff.1 ho).1
      have hmem : i ∈ rem := by rw [hrem]; exact List.mem_filter.2 ⟨List.mem_range.2 hlt, by rw [hun]; rfl⟩
      obtain ⟨pre, post, hsplit⟩ := List.append_of_mem hmem
      have hpw : rem.Pairwise (· < ·) := by rw [hrem]; exact List.Pairwise.filter _ List.pairwise_lt_range
      rw [hsplit] at hpw hch
      have hpre : ∀ k ∈ pre, k < i := fun k hk => (List.pairwise_append.1 hpw).2.2 k hk i (List.mem_cons_self ..)
      have hpost : ∀ k ∈ post, i < k := fun k hk => (List.pairwise_cons.1 (List.pairwise_append.1 hpw).2.1).1 k hk
      have hunk : ∀ k ∈ pre, listed.getD k true = false := fun k hk => by
        have : k ∈ rem := by rw [hsplit]; exact List.mem_append_left _ hk
        rw [hrem] at this
        simpa using (List.mem_filter.1 this).2
      obtain ⟨v, e, g1, g2⟩ := pull ho pre post σ τ (fun k hk => hind listed i k hsz hcl hi (hpre k hk) (hunk k hk)) hch
      have hid : ∀ m, m < 8 → μ (sid base i + m) = none := fun m hm => by
        cases hc : μ (sid base i + m) with
        | none => rfl
        | some l =>
          rcases h.bd (sid base i + m) (by rw [hc]; simp) with h1 | ⟨m', _, h2, h3, h4⟩
          · simp only [sid] at h1; omega
          · simp only [sid] at h3 h4
            have : m' = i := by omega
            subst this
            rw [getD_bool listed m' (by omega) false true, hun] at h2; cases h2
      refine wpOp_mono (fun a' w' ⟨A', μ', h', hx⟩ => ?_) (GR_run hT hG h hid ho (fun n hn => (hdst i o ho n hn).1) g1)
      have hx' : Ext hv a w A μ a' w' A' μ' := hx.mono (fun t ht => by
        cases hdd : o.dst with
        | none => rw [hdd] at ht; simp at ht
        | some n => rw [hdd] at ht; simp at ht; subst ht; exact (hdst i _ ho t hdd).2)
      have hgs := fun k d => getD_set listed i k d (by omega)
      have hrem' : pre ++ post = (List.range ops.size).filter (fun k => !(listed.setIfInBounds i true).getD k true) := by
        have e1 : (fun k => !(listed.setIfInBounds i true).getD k true) = fun k => (!listed.getD k true) && (k != i) := by
          funext k
          rw [hgs]
          by_cases hk : k = i
          · subst hk; simp
          · rw [if_neg hk]; simp [hk]
        have e2 : (List.range ops.size).filter (fun k => (!listed.getD k true) && (k != i)) = ((List.range ops.size).filter (fun k => !listed.getD k true)).filter (fun k => k != i) := by
          rw [List.filter_filter]
          congr 1; funext k; exact Bool.and_comm _ _
        rw [e1, e2, ← hrem, hsplit, List.filter_append, List.filter_cons]
        rw [if_neg (by simp)]
        rw [List.filter_eq_self.2 (fun k hk => by have := hpre k hk; simp; omega), List.filter_eq_self.2 (fun k hk => by have := hpost k hk; simp; omega)]
      have hih := chain_any hT hG hdst hind hlow fuel (pre ++ post) (listed.setIfInBounds i true) _ τ a' w' A' μ' (by rw [hsplit] at hlen; simp at hlen ⊢; omega) (by simpa using hsz) hrem' (fun j oj hj hl e he hb => by
          rw [hgs] at hl ⊢
          by_cases c1 : e.on = i
          · rw [if_pos c1]
          · rw [if_neg c1]
            by_cases c2 : j = i
            · subst c2
              rw [ho] at hj; injection hj with hj; subst hj
              exact hall e he hb
            · rw [if_neg c2] at hl
              exact hcl j oj hj hl e he hb) (h'.bdm (fun j hj => by
          rcases hj with (hj | ⟨m, m1, m2, m3⟩) | hj
          · exact .inl hj
          · exact .inr ⟨m, m1, by rw [hgs]; split <;> first | rfl | exact m2, m3⟩
          · exact .inr ⟨i, hlt, by rw [hgs, if_pos rfl], hj⟩)) g2 hK
      have mono : ∀ (Q1 Q2 : Exit → Act → World → Prop), (∀ e a w, Q1 e a w → Q2 e a w) → ∀ fuel l a w, wpAny P .any ops Q1 fuel l a w → wpAny P .any ops Q2 fuel l a w := fun Q1 Q2 hq fuel => by
        induction fuel with
        | zero => exact fun l a w ⟨h1, h2⟩ => ⟨h1, hq _ _ _ h2⟩
        | succ n ih =>
          intro l a w ⟨h1, h2⟩
          refine ⟨fun h => hq _ _ _ (h1 h), fun i hi => ?_⟩
          have := h2 i hi
          unfold wpOp at this ⊢
          cases ho : ops[i]? with
          | none => rw [ho] at this; exact ih _ _ _ this
          | some o =>
            rw [ho] at this
            simp only at this ⊢
            by_cases hw : Region.wanted o (Go.yielded ops a.tmps) = true
            · rw [if_pos hw] at this ⊢
              rcases this with hh | ⟨h1, a0, w0, h2⟩
              · left
                unfold Oper.wp at *
                generalize (execOp a.eval o).run P w = r at *
                cases r with
                | ok n w' =>
                  cases n <;> simp only [Oper.upon] at hh ⊢ <;> first
                    | exact ih _ _ _ hh
                    | exact Calls.mono hh (fun e w'' he => by
                        cases e with
                        | returned v => exact ih _ _ _ he
                        | panicked c => exact hq _ _ _ he
                        | outgrown => obtain ⟨a0, w0, h0⟩ := he; exact ⟨a0, w0, hq _ _ _ h0⟩)
                    | exact Rows.mono hh (fun _ _ he => ih _ _ _ he)
                    | exact hh
                | halt x w' => cases x <;> simp only [Oper.upon] at hh ⊢ <;> first | exact hq _ _ _ hh | exact hh
              · exact .inr ⟨h1, a0, w0, hq _ _ _ h2⟩
            · rw [if_neg hw] at this ⊢
              exact ih _ _ _ this
      exact mono _ _ (fun e a2 w2 ⟨he, σ2, hk2, A2, μ2, h3, hx2⟩ => ⟨he, σ2, hk2, A2, μ2, h3, hx'.trans' hx2⟩) _ _ _ _ hih
end
end Go.Aw

set_option linter.unusedVariables false
namespace Go.Aw
section
variable {P : Program} {G : Nat → Option Obj} {T : TypeId → Option TI} {w0 : World} {X A0 : Nat → Prop} {N : Nat} {Q : Exit → Act → World → Prop} {ops : Array Oper}

/-- what is asked of a region that draws its order -/
def drawOk (ops : Array Oper) : Bool :=
  let b := befs ops.toList []
  (List.range ops.size).all fun i => match ops[i]? with
    | none => false
    | some y => y.after.toList.all (fun e => !Region.binds .any e || Nat.blt e.on i) &&
      (List.range i).all fun k => (b.getD i 0).testBit k || (match ops[k]? with
        | none => false
        | some x => x.apart ops y && y.apart ops x && (clsOk x.op y.op || appV x.op || appV y.op) && !(b.getD k 0).testBit i)
def regOk (N : Nat) (ops : Array Oper) (draw : Bool) : Bool :=
  ops.toList.all (fun o => match o.dst with | some d => Nat.blt d N | none => true) && (!draw || drawOk ops)
def codeOk (N : Nat) : Code → Bool
  | .region _ ops draw => regOk N ops draw
  | .seq a b => codeOk N a && codeOk N b
  | .cond _ a b => codeOk N a && codeOk N b
  | .block _ c => codeOk N c
  | .loop c => codeOk N c
  | _ => true

theorem bits_spec (acc : List Nat) (o : Oper) (k : Nat) (h : (bits acc o).testBit k = true) : ∃ e ∈ o.after, Region.binds .any e = true ∧ (e.on = k ∨ (acc.getD e.on 0).testBit k = true) := by
  unfold bits at h
  have key : ∀ (l : List Edge) (s : Nat), (l.foldl (fun s e => match Region.binds .any e with | true => s ||| 2 ^ e.on ||| acc.getD e.on 0 | false => s) s).testBit k = true →
      s.testBit k = true ∨ ∃ e ∈ l, Region.binds .any e = true ∧ (e.on = k ∨ (acc.getD e.on 0).testBit k = true) := fun l => by
    induction l with
    | nil => exact fun s h => .inl h
    | cons e l ih =>
      intro s h
      rw [List.foldl_cons] at h
      rcases ih _ h with h | ⟨e', h1, h2⟩
      · cases hb : Region.binds .any e with
        | false => rw [hb] at h; exact .inl h
        | true =>
          rw [hb] at h
          simp only [Nat.testBit_or, Bool.or_eq_true, Nat.testBit_two_pow, decide_eq_true_eq] at h
          rcases h with (h | h) | h
          · exact .inl h
          · exact .inr ⟨e, List.mem_cons_self .., hb, .inl h⟩
          · exact .inr ⟨e, List.mem_cons_self .., hb, .inr h⟩
      · exact .inr ⟨e', List.mem_cons_of_mem _ h1, h2⟩
  rcases key _ _ h with h | ⟨e, h1, h2⟩
  · simp at h
  · exact ⟨e, by simpa using h1, h2⟩
theorem befs_len : ∀ (os : List Oper) (acc : List Nat), (befs os acc).length = acc.length + os.length
  | [], acc => rfl
  | o :: os, acc => by rw [befs, befs_len os]; simp; omega
theorem befs_pre : ∀ (os : List Oper) (acc : List Nat) (i : Nat), i < acc.length → (befs os acc)[i]? = acc[i]?
  | [], acc, i, h => rfl
  | o :: os, acc, i, h => by rw [befs, befs_pre os _ i (by simp; omega), List.getElem?_append_left h]
theorem befs_get : ∀ (os : List Oper) (acc : List Nat) (i : Nat) (o : Oper), os[i]? = some o → (befs os acc)[acc.length + i]? = some (bits ((befs os acc).take (acc.length + i)) o)
  | [], acc, i, o, h => by simp at h
  | p :: os, acc, 0, o, h => by
    simp at h; subst h
    rw [Nat.add_zero, befs, befs_pre os _ _ (by simp)]
    have e : (befs os (acc ++ [bits acc p])).take acc.length = acc := by
      apply List.ext_getElem?
      intro k
      rw [List.getElem?_take]
      by_cases hk : k < acc.length
      · rw [if_pos hk, befs_pre os _ _ (by simp; omega), List.getElem?_append_left hk]
      · rw [if_neg hk, List.getElem?_eq_none (by omega)]
    rw [e, List.getElem?_append_right (Nat.le_refl _)]; simp
  | p :: os, acc, i + 1, o, h => by
    have := befs_get os (acc ++ [bits acc p]) i o (by simpa using h)
    rw [befs]
    simp only [List.length_append, List.length_singleton] at this
    rw [show acc.length + (i + 1) = acc.length + 1 + i by omega]
    exact this
/-- what has come up is closed: what waits for k comes up behind k -/
theorem bef_listed {listed : Array Bool} (hcl : ∀ j oj, ops[j]? = some oj → listed.getD j false = true → ∀ e ∈ oj.after, Region.binds .any e = true → listed.getD e.on false = true) :
    ∀ (n i : Nat) (o : Oper), i ≤ n → ops[i]? = some o → (∀ e ∈ o.after, Region.binds .any e = true → listed.getD e.on false = true) → ∀ k, ((befs ops.toList []).getD i 0).testBit k = true → listed.getD k false = true := fun n => by
  induction n with
  | zero =>
    intro i o hle ho hall k hb
    have hi : i = 0 := by omega
    subst hi
    have hg := befs_get ops.toList [] 0 o (by simpa using ho)
    simp only [List.length_nil, Nat.zero_add] at hg
    rw [List.getD_eq_getElem?_getD, hg] at hb
    obtain ⟨e, he, h1, h2⟩ := bits_spec _ _ _ hb
    rcases h2 with rfl | h2
    · exact hall e he h1
    · simp at h2
  | succ n ih =>
    intro i o hle ho hall k hb
    have hg := befs_get ops.toList [] i o (by simpa using ho)
    simp only [List.length_nil, Nat.zero_add] at hg
    rw [List.getD_eq_getElem?_getD, hg] at hb
    obtain ⟨e, he, h1, h2⟩ := bits_spec _ _ _ hb
    rcases h2 with rfl | h2
    · exact hall e he h1
    · rw [List.getD_eq_getElem?_getD, List.getElem?_take] at h2
      by_cases hlt : e.on < i
      · rw [if_pos hlt] at h2
        have hl := hall e he h1
        have hs : i < ops.size := (Array.getElem?_eq_some_iff.1 ho).1
        have hoe : ops[e.on]? = some ops[e.on] := Array.getElem?_eq_getElem (by omega)
        exact ih e.on _ (by omega) hoe (fun e' he' hb' => hcl e.on _ hoe hl e' he' hb') k (by rw [List.getD_eq_getElem?_getD]; exact h2)
      · rw [if_neg hlt] at h2; simp at h2

theorem drawOk_low (h : drawOk ops = true) : ∀ (i : Nat) (o : Oper), ops[i]? = some o → ∀ e ∈ o.after, Region.binds .any e = true → e.on < i := fun i o ho e he hb => by
  have h1 := List.all_eq_true.1 h i (List.mem_range.2 (Array.getElem?_eq_some_iff.1 ho).1)
  simp only [ho, Bool.and_eq_true] at h1
  have h2 := List.all_eq_true.1 h1.1 e (by simpa using he)
  rw [hb] at h2
  simp at h2
  exact h2
theorem solo_spec {b : List Nat} {i : Nat} : ∀ (fr : List Bool) (k0 : Nat), soloGo b i k0 fr = true → ∀ (k : Nat) (f : Bool), fr[k]? = some f → k0 + k ≠ i → (b.getD i 0).testBit (k0 + k) = false → (b.getD (k0 + k) 0).testBit i = false → f = true
  | [], k0, _, k, f, hk, _, _, _ => by simp at hk
  | g :: l, k0, h, k, f, hk, hne, h1, h2 => by
    simp only [soloGo] at h
    split at h
    · rename_i hb
      cases k with
      | zero =>
        simp at hk; subst hk
        rw [Nat.add_zero] at hne h1 h2
        have hne' : Nat.beq k0 i = false := by
          cases hc : Nat.beq k0 i with
          | false => rfl
          | true => exact absurd (Nat.eq_of_beq_eq_true hc) hne
        rw [h1, h2, hne'] at hb
        simpa using hb
      | succ k =>
        have := solo_spec l (k0 + 1) h k f (by simpa using hk)
        rw [show k0 + 1 + k = k0 + (k + 1) by omega] at this
        exact this hne h1 h2
    · cases h
theorem appV_wr {o : Op} (h : appV o = true) : modOp o = true := by
  cases o <;> first | cases h | skip
  rename_i c
  cases hc : c.callee with
  | value f => simp [appV, hc] at h
  | invoke r n => simp [appV, hc] at h
  | builtin b => cases b <;> simp_all [appV, modOp]
/-- without appends that are out of order, the pairs are as they were -/
theorem cls_of {base : Nat} (h : drawOk ops = true) (hL : lMode ops = false) (i k : Nat) (x y : Oper) (hx : ops[k]? = some x) (hy : ops[i]? = some y) (hk : k < i) (hnb : ((befs ops.toList []).getD i 0).testBit k = false)
    (hc : (clsOk x.op y.op || appV x.op || appV y.op) = true) : clsOk x.op y.op = true := by
  unfold lMode at hL
  cases ha : ops.toList.any fun o => appV o.op with
  | true =>
    rw [ha] at hL
    have hL : clsAll ops = true := by simpa using hL
    have h1 := List.all_eq_true.1 hL i (List.mem_range.2 (Array.getElem?_eq_some_iff.1 hy).1)
    simp only [hy] at h1
    have h2 := List.all_eq_true.1 h1 k (List.mem_range.2 hk)
    rw [hnb, Bool.false_or, hx] at h2
    exact h2
  | false =>
    have no : ∀ (q : Nat) (z : Oper), ops[q]? = some z → appV z.op = false := fun q z hz => by
      cases hq : appV z.op with
      | false => rfl
      | true =>
        have : (ops.toList.any fun o => appV o.op) = true := List.any_eq_true.2 ⟨z, by have := Array.mem_of_getElem? hz; simpa using this, hq⟩
        rw [ha] at this; cases this
    rw [no k x hx, no i y hy] at hc
    simpa using hc
theorem apGo_spec {b : List Nat} {i q : Nat} : ∀ (l : List Bool) (k0 : Nat), apGo b i q k0 l = true → ∀ (k : Nat), l[k]? = some true → k0 + k ≠ i → (b.getD i 0).testBit (k0 + k) = false → (b.getD (k0 + k) 0).testBit i = false → (b.getD (k0 + k) 0).testBit q = false
  | [], k0, _, k, hk, _, _, _ => by simp at hk
  | g :: l, k0, h, k, hk, hne, h1, h2 => by
    simp only [apGo] at h
    split at h
    · rename_i hb
      cases k with
      | zero =>
        simp at hk; subst hk
        rw [Nat.add_zero] at hne h1 h2 ⊢
        have hne' : Nat.beq k0 i = false := by
          cases hc : Nat.beq k0 i with
          | false => rfl
          | true => exact absurd (Nat.eq_of_beq_eq_true hc) hne
        rw [h1, h2, hne'] at hb
        simpa using hb
      | succ k =>
        have := apGo_spec l (k0 + 1) h k (by simpa using hk)
        rw [show k0 + 1 + k = k0 + (k + 1) by omega] at this
        exact this hne h1 h2
    · cases h
theorem drawOk_indL {base : Nat} (h : drawOk ops = true) (listed : Array Bool) (i k : Nat) (hsz : listed.size = ops.size)
    (hcl : ∀ j oj, ops[j]? = some oj → listed.getD j false = true → ∀ e ∈ oj.after, Region.binds .any e = true → listed.getD e.on false = true) (hi : i ∈ Region.ready .any ops listed) (hk : k < i) (hun : listed.getD k true = false) :
    Indep (ckL (befs ops.toList []) (ops.toList.map fun o => appV o.op) base) base ops k i := by
  obtain ⟨huni, y, hy, hall⟩ := mem_ready.1 hi
  have hlt : i < ops.size := (Array.getElem?_eq_some_iff.1 hy).1
  have h1 := List.all_eq_true.1 h i (List.mem_range.2 hlt)
  simp only [hy, Bool.and_eq_true] at h1
  have h2 := List.all_eq_true.1 h1.2 k (List.mem_range.2 hk)
  have hnb : ((befs ops.toList []).getD i 0).testBit k = false := by
    cases hb : ((befs ops.toList []).getD i 0).testBit k with
    | false => rfl
    | true =>
      have := bef_listed hcl i i y (Nat.le_refl _) hy hall k hb
      rw [getD_bool listed k (by omega) false true, hun] at this; cases this
  rw [hnb, Bool.false_or] at h2
  have hxo : ops[k]? = some ops[k] := Array.getElem?_eq_getElem (by omega)
  rw [hxo] at h2
  simp only [Bool.and_eq_true] at h2
  obtain ⟨⟨⟨p1, p2⟩, p3⟩, p4⟩ := h2
  have apg : ∀ (q : Nat) (z : Oper), ops[q]? = some z → (ops.toList.map fun o => appV o.op).getD q false = appV z.op := fun q z hz => by
    simp [List.getD_eq_getElem?_getD, hz]
  have apl : ∀ (q : Nat) (z : Oper), ops[q]? = some z → appV z.op = true → (ops.toList.map fun o => appV o.op)[q]? = some true := fun q z hz hq => by
    simp [hz, hq]
  have ckf : ∀ (n q : Nat), ((befs ops.toList []).getD n 0).testBit q = false → ∀ j, sid base q ≤ j → j < sid base q + 8 → ckL (befs ops.toList []) (ops.toList.map fun o => appV o.op) base n j = false := fun n q hq j j1 j2 => by
    unfold ckL
    simp only [sid] at j1 j2
    cases hb : Nat.beq j 1000000007 with
    | true => rfl
    | false =>
      simp only
      have hb2 : Nat.blt j base = false := by
        cases hc : Nat.blt j base with
        | false => rfl
        | true => have := Nat.le_of_ble_eq_true hc; omega
      rw [hb2]
      have : (j - base) / 8 = q := by omega
      rw [this, hq]
      cases (ops.toList.map fun o => appV o.op).getD n false <;> rfl
  have p4' : ((befs ops.toList []).getD k 0).testBit i = false := by simpa using p4
  have ckm : ∀ n, ckL (befs ops.toList []) (ops.toList.map fun o => appV o.op) base n 1000000007 = false := fun n => by
    unfold ckL
    rw [show Nat.beq 1000000007 1000000007 = true by decide]
  -- an append looks at what the region makes, the others at what was there
  have lkA : ∀ (n : Nat) (z : Oper), ops[n]? = some z → appV z.op = true → ∀ j, ckL (befs ops.toList []) (ops.toList.map fun o => appV o.op) base n j = true → Nat.blt j base = false ∧ ((befs ops.toList []).getD n 0).testBit ((j - base) / 8) = true ∧ apGo (befs ops.toList []) n ((j - base) / 8) 0 (ops.toList.map fun o => appV o.op) = true := fun n z hz hq j hc => by
    unfold ckL at hc
    rw [apg n z hz, hq] at hc
    cases hb : Nat.beq j 1000000007 with
    | true => rw [hb] at hc; cases hc
    | false =>
      rw [hb] at hc
      cases h3 : Nat.blt j base with
      | true => simp only [h3] at hc; cases hc
      | false =>
        simp only [h3] at hc
        cases h4 : ((befs ops.toList []).getD n 0).testBit ((j - base) / 8) with
        | false => rw [h4] at hc; cases hc
        | true => rw [h4] at hc; exact ⟨rfl, rfl, hc⟩
  have lkN : ∀ (n : Nat) (z : Oper), ops[n]? = some z → appV z.op = false → ∀ j, ckL (befs ops.toList []) (ops.toList.map fun o => appV o.op) base n j = true → Nat.blt j base = true := fun n z hz hq j hc => by
    unfold ckL at hc
    rw [apg n z hz, hq] at hc
    cases hb : Nat.beq j 1000000007 with
    | true => rw [hb] at hc; cases hc
    | false => rw [hb] at hc; exact hc
  refine ⟨by omega, fun x y' hx hy' => ?_, ckf k i p4', ckf i k hnb⟩
  rw [hy] at hy'; injection hy' with hy'; subst hy'
  have hxe : x = ops[k] := by rw [hxo] at hx; injection hx with hx; exact hx.symm
  subst hxe
  refine ⟨p1, p2, ?_⟩
  cases cx : appV ops[k].op with
  | true => cases cy : appV y.op with
    | true => exact .inr (.inr (fun j g1 g2 => by
        have a1 := lkA k _ hx cx j g1
        have a2 := lkA i _ hy cy j g2
        have := apGo_spec _ 0 a2.2.2 k (apl k _ hx cx) (by omega) (by rw [Nat.zero_add]; exact hnb) (by rw [Nat.zero_add]; exact p4')
        rw [Nat.zero_add, a1.2.1] at this; cases this))
    | false => exact .inr (.inr (fun j g1 g2 => by
        have a1 := lkA k _ hx cx j g1
        have a2 := lkN i _ hy cy j g2
        rw [a1.1] at a2; cases a2))
  | false => cases cy : appV y.op with
    | true => exact .inr (.inr (fun j g1 g2 => by
        have a1 := lkN k _ hx cx j g1
        have a2 := lkA i _ hy cy j g2
        rw [a2.1] at a1; cases a1))
    | false =>
      rw [cx, cy] at p3
      have p3' : clsOk ops[k].op y.op = true := by simpa using p3
      unfold wrOp
      rw [ckm k, ckm i]
      simp only [Bool.false_and, Bool.or_false]
      simp [clsOk] at p3'
      exact p3'.imp (fun h => h) (fun h => .inl h)
theorem drawOk_ind {base : Nat} (h : drawOk ops = true) (hL : lMode ops = false) (listed : Array Bool) (i k : Nat) (hsz : listed.size = ops.size)
    (hcl : ∀ j oj, ops[j]? = some oj → listed.getD j false = true → ∀ e ∈ oj.after, Region.binds .any e = true → listed.getD e.on false = true) (hi : i ∈ Region.ready .any ops listed) (hk : k < i) (hun : listed.getD k true = false) :
    Indep (ckD (befs ops.toList []) (ops.toList.map fun o => freeOp o.op) base) base ops k i := by
  obtain ⟨huni, y, hy, hall⟩ := mem_ready.1 hi
  have hlt : i < ops.size := (Array.getElem?_eq_some_iff.1 hy).1
  have h1 := List.all_eq_true.1 h i (List.mem_range.2 hlt)
  simp only [hy, Bool.and_eq_true] at h1
  have h2 := List.all_eq_true.1 h1.2 k (List.mem_range.2 hk)
  have hnb : ((befs ops.toList []).getD i 0).testBit k = false := by
    cases hb : ((befs ops.toList []).getD i 0).testBit k with
    | false => rfl
    | true =>
      have := bef_listed hcl i i y (Nat.le_refl _) hy hall k hb
      rw [getD_bool listed k (by omega) false true, hun] at this; cases this
  rw [hnb, Bool.false_or] at h2
  have hxo : ops[k]? = some ops[k] := Array.getElem?_eq_getElem (by omega)
  rw [hxo] at h2
  simp only [Bool.and_eq_true] at h2
  obtain ⟨⟨⟨p1, p2⟩, p3⟩, p4⟩ := h2
  have ckf : ∀ (n q : Nat), q < ops.size → ((befs ops.toList []).getD n 0).testBit q = false → ∀ j, sid base q ≤ j → j < sid base q + 8 → ckD (befs ops.toList []) (ops.toList.map fun o => freeOp o.op) base n j = false := fun n q hqs hq j j1 j2 => by
    unfold ckD
    simp only [sid] at j1 j2
    cases hb : Nat.beq j 1000000007 with
    | true =>
      have hj := Nat.eq_of_beq_eq_true hb
      have hb2 : Nat.ble (base + 8 * (ops.toList.map fun o => freeOp o.op).length) 1000000007 = false := by
        cases hc : Nat.ble (base + 8 * (ops.toList.map fun o => freeOp o.op).length) 1000000007 with
        | false => rfl
        | true => have := Nat.le_of_ble_eq_true hc; simp at this; omega
      rw [hb2]
    | false =>
      simp only
      have hb2 : Nat.blt j base = false := by
        cases hc : Nat.blt j base with
        | false => rfl
        | true => have := Nat.le_of_ble_eq_true hc; omega
      rw [hb2]
      simp only
      have : (j - base) / 8 = q := by omega
      rw [this]; exact hq
  have cks : ∀ (n q : Nat) (z : Oper), ops[q]? = some z → q ≠ n → ((befs ops.toList []).getD n 0).testBit q = false → ((befs ops.toList []).getD q 0).testBit n = false → ckD (befs ops.toList []) (ops.toList.map fun o => freeOp o.op) base n 1000000007 = true → freeOp z.op = true := fun n q z hz hne h1 h2 hc => by
    unfold ckD at hc
    have e : Nat.beq 1000000007 1000000007 = true := by decide
    rw [e] at hc
    simp only at hc
    split at hc
    · exact solo_spec _ 0 hc q _ (by simp [hz]) (by omega) (by rw [Nat.zero_add]; exact h1) (by rw [Nat.zero_add]; exact h2)
    · cases hc
  have p4' : ((befs ops.toList []).getD k 0).testBit i = false := by simpa using p4
  refine ⟨by omega, fun x y' hx hy' => ?_, ckf k i hlt p4', ckf i k (by omega) hnb⟩
  rw [hy] at hy'; injection hy' with hy'; subst hy'
  refine ⟨?_, ?_, ?_⟩
  · rw [hxo] at hx; injection hx with hx; subst hx; exact p1
  · rw [hxo] at hx; injection hx with hx; subst hx; exact p2
  · have p3' : clsOk x.op y.op = true := by
      have hx' := hx
      rw [hxo] at hx'; injection hx' with hx'
      exact cls_of (base := base) h hL i k x y hx hy hk hnb (by rw [← hx']; exact p3)
    unfold wrOp
    cases hk1 : ckD (befs ops.toList []) (ops.toList.map fun o => freeOp o.op) base k 1000000007 with
    | true => exact .inl (.inr (cks k i y hy (by omega) p4' hnb hk1))
    | false =>
      cases hi1 : ckD (befs ops.toList []) (ops.toList.map fun o => freeOp o.op) base i 1000000007 with
      | true => exact .inl (.inl (cks i k x hx (by omega) hnb p4' hi1))
      | false =>
        simp only [Bool.false_and, Bool.or_false]
        simp [clsOk] at p3'
        exact p3'.imp (fun h => h) (fun h => .inl h)

theorem drawOk_indW {W : List Nat} {base : Nat} (h : drawOk ops = true) (hL : lMode ops = false) (listed : Array Bool) (i k : Nat) (hsz : listed.size = ops.size)
    (hcl : ∀ j oj, ops[j]? = some oj → listed.getD j false = true → ∀ e ∈ oj.after, Region.binds .any e = true → listed.getD e.on false = true) (hi : i ∈ Region.ready .any ops listed) (hk : k < i) (hun : listed.getD k true = false) :
    Indep (ckW (befs ops.toList []) (ops.toList.map fun o => !callV o.op) W base) base ops k i := by
  obtain ⟨huni, y, hy, hall⟩ := mem_ready.1 hi
  have hlt : i < ops.size := (Array.getElem?_eq_some_iff.1 hy).1
  have h1 := List.all_eq_true.1 h i (List.mem_range.2 hlt)
  simp only [hy, Bool.and_eq_true] at h1
  have h2 := List.all_eq_true.1 h1.2 k (List.mem_range.2 hk)
  have hnb : ((befs ops.toList []).getD i 0).testBit k = false := by
    cases hb : ((befs ops.toList []).getD i 0).testBit k with
    | false => rfl
    | true =>
      have := bef_listed hcl i i y (Nat.le_refl _) hy hall k hb
      rw [getD_bool listed k (by omega) false true, hun] at this; cases this
  rw [hnb, Bool.false_or] at h2
  have hxo : ops[k]? = some ops[k] := Array.getElem?_eq_getElem (by omega)
  rw [hxo] at h2
  simp only [Bool.and_eq_true] at h2
  obtain ⟨⟨⟨p1, p2⟩, p3⟩, p4⟩ := h2
  have hncl : (ops.toList.map fun o => !callV o.op).length = ops.size := by simp
  have ncg : ∀ (q : Nat) (z : Oper), ops[q]? = some z → (ops.toList.map fun o => !callV o.op).getD q true = !callV z.op := fun q z hz => by
    simp [List.getD_eq_getElem?_getD, hz]
  have ckf : ∀ (n q : Nat), q < ops.size → ((befs ops.toList []).getD n 0).testBit q = false → ∀ j, sid base q ≤ j → j < sid base q + 8 → ckW (befs ops.toList []) (ops.toList.map fun o => !callV o.op) W base n j = false := fun n q hqs hq j j1 j2 => by
    unfold ckW
    simp only [sid] at j1 j2
    cases hb : Nat.beq j 1000000007 with
    | true =>
      have hj := Nat.eq_of_beq_eq_true hb
      have hb2 : Nat.ble (base + 8 * (ops.toList.map fun o => !callV o.op).length) 1000000007 = false := by
        cases hc : Nat.ble (base + 8 * (ops.toList.map fun o => !callV o.op).length) 1000000007 with
        | false => rfl
        | true => have := Nat.le_of_ble_eq_true hc; rw [hncl] at this; omega
      rw [hb2]
      cases (ops.toList.map fun o => !callV o.op).getD n true <;> rfl
    | false =>
      simp only
      have hb2 : Nat.blt j base = false := by
        cases hc : Nat.blt j base with
        | false => rfl
        | true => have := Nat.le_of_ble_eq_true hc; omega
      rw [hb2]
      have : (j - base) / 8 = q := by omega
      cases (ops.toList.map fun o => !callV o.op).getD n true
      · rfl
      · simp only; rw [this]; exact hq
  have p4' : ((befs ops.toList []).getD k 0).testBit i = false := by simpa using p4
  -- what a call, and what another, may look at
  have ckc : ∀ (n : Nat) (z : Oper), ops[n]? = some z → callV z.op = true → ∀ j, Nat.beq j 1000000007 = false → ckW (befs ops.toList []) (ops.toList.map fun o => !callV o.op) W base n j = true → Nat.blt j base = true ∧ memB W j = true := fun n z hz hcv j hb hc => by
    unfold ckW at hc
    rw [hb, ncg n z hz, hcv] at hc
    simp only [Bool.not_true] at hc
    cases h : Nat.blt j base with
    | true => rw [h] at hc; exact ⟨rfl, hc⟩
    | false => rw [h] at hc; cases hc
  have ckn : ∀ (n : Nat) (z : Oper), ops[n]? = some z → callV z.op = false → ∀ j, (Nat.blt j base = true ∧ memB W j = true) → ckW (befs ops.toList []) (ops.toList.map fun o => !callV o.op) W base n j = true → False := fun n z hz hcv j hj hc => by
    unfold ckW at hc
    rw [ncg n z hz, hcv, hj.1, hj.2] at hc
    simp only [Bool.not_false, Bool.not_true] at hc
    split at hc
    · cases hc
    · cases hc
  have ckm : ∀ (n : Nat) (z : Oper), ops[n]? = some z → callV z.op = false → ckW (befs ops.toList []) (ops.toList.map fun o => !callV o.op) W base n 1000000007 = false := fun n z hz hcv => by
    unfold ckW
    rw [ncg n z hz, hcv, show Nat.beq 1000000007 1000000007 = true by decide]
    rfl
  have ckm2 : ∀ (n q : Nat) (y z : Oper), ops[n]? = some y → ops[q]? = some z → callV z.op = true → q ≠ n → ((befs ops.toList []).getD n 0).testBit q = false → ((befs ops.toList []).getD q 0).testBit n = false → ckW (befs ops.toList []) (ops.toList.map fun o => !callV o.op) W base n 1000000007 = false := fun n q y z hy hz hcv hne h1 h2 => by
    cases hc : ckW (befs ops.toList []) (ops.toList.map fun o => !callV o.op) W base n 1000000007 with
    | false => rfl
    | true =>
      exfalso
      unfold ckW at hc
      rw [show Nat.beq 1000000007 1000000007 = true by decide] at hc
      simp only at hc
      split at hc
      · have := solo_spec _ 0 hc q (!callV z.op) (by simp [hz]) (by omega) (by rw [Nat.zero_add]; exact h1) (by rw [Nat.zero_add]; exact h2)
        rw [hcv] at this; cases this
      · cases hc
  have dis : ∀ (n q : Nat) (y z : Oper), ops[n]? = some y → ops[q]? = some z → callV y.op = true → callV z.op = false → ∀ j, ckW (befs ops.toList []) (ops.toList.map fun o => !callV o.op) W base n j = true → ckW (befs ops.toList []) (ops.toList.map fun o => !callV o.op) W base q j = true → False := fun n q y z hy hz h1 h2 j g1 g2 => by
    cases hb : Nat.beq j 1000000007 with
    | true =>
      have := Nat.eq_of_beq_eq_true hb; subst this
      rw [ckm q z hz h2] at g2; cases g2
    | false => exact ckn q z hz h2 j (ckc n y hy h1 j hb g1) g2
  refine ⟨by omega, fun x y' hx hy' => ?_, ckf k i hlt p4', ckf i k (by omega) hnb⟩
  rw [hy] at hy'; injection hy' with hy'; subst hy'
  refine ⟨?_, ?_, ?_⟩
  · rw [hxo] at hx; injection hx with hx; subst hx; exact p1
  · rw [hxo] at hx; injection hx with hx; subst hx; exact p2
  · have p3' : clsOk x.op y.op = true := by
      have hx' := hx
      rw [hxo] at hx'; injection hx' with hx'
      exact cls_of (base := base) h hL i k x y hx hy hk hnb (by rw [← hx']; exact p3)
    have old : ckW (befs ops.toList []) (ops.toList.map fun o => !callV o.op) W base k 1000000007 = false → ckW (befs ops.toList []) (ops.toList.map fun o => !callV o.op) W base i 1000000007 = false →
        ((freeOp x.op = true ∨ freeOp y.op = true) ∨ (wrOp (ckW (befs ops.toList []) (ops.toList.map fun o => !callV o.op) W base k) x.op = false ∧ wrOp (ckW (befs ops.toList []) (ops.toList.map fun o => !callV o.op) W base i) y.op = false)) := fun m1 m2 => by
      unfold wrOp
      rw [m1, m2]
      simp only [Bool.false_and, Bool.or_false]
      simp [clsOk] at p3'
      exact p3'
    cases cx : callV x.op with
    | true => cases cy : callV y.op with
      | true => exact (old (ckm2 k i x y hx hy cy (by omega) p4' hnb) (ckm2 i k y x hy hx cx (by omega) hnb p4')).imp (fun h => h) (fun h => .inl h)
      | false => exact .inr (.inr (dis k i x y hx hy cx cy))
    | false => cases cy : callV y.op with
      | true => exact .inr (.inr (fun j g1 g2 => dis i k y x hy hx cy cx j g2 g1))
      | false => exact (old (ckm k x hx cx) (ckm i y hy cy)).imp (fun h => h) (fun h => .inl h)

theorem Ok.drew {bd : Nat → Prop} {σ : St} {a : Act} {w : World} {A : Nat → Prop} {μ : Nat → Option Loc} (h : Ok w0 X A0 N bd σ a w A μ) : Ok w0 X A0 N bd σ a w.drew A μ :=
  ⟨h.tm, h.df, fun t => (h.env t).mono (w := w) (w' := w.drew) (fun _ h => h) (fun _ _ _ h => h) (fun _ _ h => h), h.os, h.tape, h.out, h.size, h.old, h.hA, h.sub,
    fun i ob hi => by
      obtain ⟨l, h1, h2, h3⟩ := h.ob i ob hi
      exact ⟨l, h1, h2.mono (w := w) (w' := w.drew) (fun _ h => h) (fun _ _ _ h => h) (fun _ _ h => h) (fun _ _ => rfl), h3⟩, h.ap, h.bd⟩

theorem region_sound {id : Nat} {draw : Bool} {W : List Nat} {K : St → Prop} {σ : St} {a : Act} {w : World} {A : Nat → Prop} {μ : Nat → Option Loc} (hT : TOk P T) (hG : GX G w0 X A0) (hP : P.follows .mixedOrders = true) (hc : regOk N ops draw = true) (h : Ok w0 X A0 N (fun j => j < σ.next) σ a w A μ) (hW : ∃ env, W = wOf ops env draw)
    (hr : rgo P G T (ckOf ops σ.next W draw) σ.next ops 0 ops.toList K σ) :
    (Code.region id ops draw).wp P (fun e a' w' => e = .normal ∧ ∃ σ', K σ' ∧ Next w0 X A0 N (fun j => j < σ.next + 8 * ops.size) σ' (ops.toList.filterMap (·.dst)) a w A μ a' w') a w := by
  simp only [regOk, Bool.and_eq_true] at hc
  have hdst : ∀ (i : Nat) (o : Oper), ops[i]? = some o → ∀ n, o.dst = some n → n < N ∧ n ∈ ops.toList.filterMap (·.dst) := fun i o ho n hn => by
    have hm : o ∈ ops.toList := by have := Array.mem_of_getElem? ho; simpa using this
    have := List.all_eq_true.1 hc.1 o hm
    rw [hn] at this
    exact ⟨Nat.le_of_ble_eq_true this, List.mem_filterMap.2 ⟨o, hm, hn⟩⟩
  cases draw with
  | false =>
    refine wp_region ?_
    rw [List.range_eq_range']
    exact rgo_seq hT hG hdst ops.size 0 σ a w A μ (by omega) (h.bdm (fun j hj => by omega)) (by simpa using hr)
  | true =>
    have hd : drawOk ops = true := by simpa using hc.2
    have hind : ∀ (listed : Array Bool) (i k : Nat), listed.size = ops.size → (∀ j oj, ops[j]? = some oj → listed.getD j false = true → ∀ e ∈ oj.after, Region.binds .any e = true → listed.getD e.on false = true) → i ∈ Region.ready .any ops listed → k < i → listed.getD k true = false → Indep (ckOf ops σ.next W true) σ.next ops k i := by
      clear hr
      intro l i k a1 a2 a3 a4 a5
      obtain ⟨env, hW⟩ := hW
      cases hm : lMode ops with
      | true =>
        unfold wOf at hW
        rw [hm] at hW
        subst hW
        exact drawOk_indL hd l i k a1 a2 a3 a4 a5
      | false =>
        clear hW
        cases W with
        | nil => exact drawOk_ind hd hm l i k a1 a2 a3 a4 a5
        | cons w W =>
          show Indep (match Nat.beq w 1000000009 with | true => ckL _ _ _ | false => ckW _ _ _ _) _ _ _ _
          cases Nat.beq w 1000000009 with
          | true => exact drawOk_indL hd l i k a1 a2 a3 a4 a5
          | false => exact drawOk_indW hd hm l i k a1 a2 a3 a4 a5
    obtain ⟨τ, h1, h2⟩ := chain_of (ops := ops) (ck := ckOf ops σ.next W true) ops.size 0 σ (by omega) (by simpa using hr)
    have := wp_region_any (P := P) (id := id) (a := a) (w := w) (ops := ops) (Q := fun e a' w' => e = .normal ∧ ∃ σ', K σ' ∧ Next w0 X A0 N (fun j => j < σ.next + 8 * ops.size) σ' (ops.toList.filterMap (·.dst)) a w.drew A μ a' w') hP
      (chain_any (ck := ckOf ops σ.next W true) hT hG hdst hind (drawOk_low hd) ops.size (List.range' 0 ops.size) (Array.replicate ops.size false) σ τ a _ A μ (by simp) (by simp)
        (by rw [← List.range_eq_range', List.filter_eq_self.2]; intro i hi; simp [List.mem_range.1 hi]) (fun j oj hj hl => by simp [(Array.getElem?_eq_some_iff.1 hj).1] at hl) (h.drew.bdm (fun j hj => .inl hj)) h1 h2)
    exact wp_mono this (fun e a' w' ⟨he, σ', hk, A', μ', g1, g2⟩ => ⟨he, σ', hk, A', μ', g1, ⟨fun ad c hA hc => g2.cell ad c hA hc, g2.sub, g2.mu, g2.tm⟩⟩)
end
end Go.Aw

set_option linter.unusedVariables false
namespace Go.Aw
section
variable {P : Program} {G : Nat → Option Obj} {T : TypeId → Option TI} {w0 : World} {X A0 : Nat → Prop} {N : Nat} {Q : Exit → Act → World → Prop}

theorem wp_loop_ex {c : Code} {a : Act} {w : World} (J : Nat → Act → World → Prop) (h0 : ∃ n, J n a w) (round : ∀ n a w, J n a w → c.wp P (Exit.then (fun a' w' => ∃ n', n' < n ∧ J n' a' w') Q) a w) : (Code.loop c).wp P Q a w := by
  intro b k cs
  have key : ∀ n a w, J n a w → ∃ e a' w', Q e a' w' ∧ Arrives P (lone (b.at a (.code c :: .inLoop c :: k)) cs w) b k cs e a' w' := fun n => by
    induction n using Nat.strongRecOn with
    | _ n ih =>
      intro a w hJ
      obtain ⟨e, a₁, w₁, hq, harr⟩ := round n a w hJ b (.inLoop c :: k) cs
      cases e with
      | normal =>
        obtain ⟨n', hlt, hJ'⟩ := hq
        obtain ⟨e₂, a₂, w₂, hq₂, harr₂⟩ := ih n' hlt a₁ w₁ hJ'
        exact ⟨e₂, a₂, w₂, hq₂, .of_steps (Steps.trans harr (.one step_inLoop)) harr₂⟩
      | exit id => exact ⟨_, a₁, w₁, hq, .pass (x := .inLoop c) rfl (fun _ _ => .inl (by simp)) harr⟩
      | goto l => exact ⟨_, a₁, w₁, hq, .pass (x := .inLoop c) rfl (fun _ _ => .inl (by simp)) harr⟩
      | ret => exact ⟨_, a₁, w₁, hq, .pass (x := .inLoop c) rfl (fun _ _ => .inl (by simp)) harr⟩
      | panic ch => exact ⟨_, a₁, w₁, hq, .pass (x := .inLoop c) rfl (fun _ _ => .inl (by simp)) harr⟩
      | outgrown => exact ⟨_, a₁, w₁, hq, .pass (x := .inLoop c) rfl (fun _ _ => .inl (by simp)) harr⟩
  obtain ⟨n, hn⟩ := h0
  obtain ⟨e, a', w', hq, harr⟩ := key n a w hn
  exact ⟨e, a', w', hq, .of_steps (.one step_loop) harr⟩

theorem memB_iff : ∀ (l : List Nat) (t : Nat), memB l t = true ↔ t ∈ l
  | [], t => by simp [memB]
  | k :: l, t => by
    simp only [memB]
    cases hb : Nat.beq k t with
    | true => have := Nat.eq_of_beq_eq_true hb; subst this; simp
    | false =>
      have := Nat.ne_of_beq_eq_false hb
      simp only [List.mem_cons]
      rw [memB_iff l t]
      constructor
      · exact .inr
      · rintro (h | h)
        · exact absurd h.symm this
        · exact h
theorem lk_mem {α : Type} : ∀ (l : List (Nat × α)) (i : Nat) (x : α), lk l i = some x → (i, x) ∈ l
  | [], i, x, h => by cases h
  | (k, y) :: l, i, x, h => by
    simp only [lk] at h
    cases hb : Nat.beq k i with
    | true => rw [hb] at h; injection h with h; subst h; have := Nat.eq_of_beq_eq_true hb; subst this; exact List.mem_cons_self ..
    | false => rw [hb] at h; exact List.mem_cons_of_mem _ (lk_mem l i x h)
theorem shut_ren {v : V} (h : v.shut = true) (ρ : Nat → Nat) : v.ren1 ρ = v := by cases v <;> first | rfl | cases h

/-- the same data, read with fewer objects known -/
theorem Rv.shrink {w we : World} {A Ae : Nat → Prop} {μ μe μ' : Nat → Option Loc} (hd : ∀ i l, μe i = some l → μ i = some l ∧ μ' i = some l) {u : V} {c : Value} (h : Rv w A μ u c) : ∀ {ce : Value}, Rv we Ae μe u ce → Rv w A μ' u c := by
  induction h with
  | c h => exact fun _ => .c h
  | agg xs cs hl h ih =>
    intro ce he
    obtain ⟨es, _, hel, her⟩ := he.agg_inv
    refine .agg xs cs hl (fun i x c hx hc => ?_)
    have hlt : i < es.size := by rw [hel]; exact (List.getElem?_eq_some_iff.1 hx).1
    exact ih i x c hx hc (her i x _ hx (Array.getElem?_eq_getElem hlt))
  | tup xs cs hl h ih =>
    intro ce he
    obtain ⟨es, _, hel, her⟩ := he.tup_inv
    refine .tup xs cs hl (fun i x c hx hc => ?_)
    have hlt : i < es.size := by rw [hel]; exact (List.getElem?_eq_some_iff.1 hx).1
    exact ih i x c hx hc (her i x _ hx (Array.getElem?_eq_getElem hlt))
  | own i l h =>
    intro ce he
    obtain ⟨l', hl', _⟩ := he.own_inv
    obtain ⟨h1, h2⟩ := hd _ _ hl'
    rw [h] at h1; injection h1 with h1; subst h1
    exact .own i l h2
  | bp i off l b h hb =>
    intro ce he
    obtain ⟨l', _, hl', _⟩ := he.bp_inv
    obtain ⟨h1, h2⟩ := hd _ _ hl'
    rw [h] at h1; injection h1 with h1; subst h1
    exact .bp i off l b h2 hb
  | ep i j off l b h hb =>
    intro ce he
    obtain ⟨l', _, hl', _⟩ := he.ep_inv
    obtain ⟨h1, h2⟩ := hd _ _ hl'
    rw [h] at h1; injection h1 with h1; subst h1
    exact .ep i j off l b h2 hb
  | cf f i l b h hb =>
    intro ce he
    obtain ⟨l', _, hl', _⟩ := he.cf_inv
    obtain ⟨h1, h2⟩ := hd _ _ hl'
    rw [h] at h1; injection h1 with h1; subst h1
    exact .cf f i l b h2 hb

theorem mtL_get {rn : List (Option Nat)} : ∀ (us vs : List V), MtL rn us vs → us.length = vs.length ∧ ∀ (i : Nat) (u v : V), us[i]? = some u → vs[i]? = some v → Mt rn u v
  | [], [], _ => ⟨rfl, fun i u v h => by simp at h⟩
  | u :: us, v :: vs, ⟨h1, h2⟩ => by
    obtain ⟨g1, g2⟩ := mtL_get us vs h2
    refine ⟨by simp [g1], fun i u' v' hu hv => ?_⟩
    cases i with
    | zero => simp at hu hv; subst hu; subst hv; exact h1
    | succ i => exact g2 i u' v' (by simpa using hu) (by simpa using hv)
  | [], _ :: _, h => h.elim
  | _ :: _, [], h => h.elim

theorem rn_inj : ∀ (rn : List (Option Nat)), (rn.filterMap id).Nodup → ∀ j j' k : Nat, rn[j]? = some (some k) → rn[j']? = some (some k) → j = j'
  | [], _, j, j', k, h1, _ => by simp at h1
  | r :: rs, f3, j, j', k, h1, h2 => by
    have mem : ∀ n : Nat, rs[n]? = some (some k) → k ∈ rs.filterMap id := fun n hn => List.mem_filterMap.2 ⟨some k, List.mem_of_getElem? hn, rfl⟩
    cases r with
    | none =>
      cases j with
      | zero => simp at h1
      | succ j => cases j' with
        | zero => simp at h2
        | succ j' => rw [rn_inj rs (by simpa using f3) j j' k (by simpa using h1) (by simpa using h2)]
    | some q =>
      have f3' : q ∉ rs.filterMap id ∧ (rs.filterMap id).Nodup := by simpa using f3
      cases j with
      | zero => cases j' with
        | zero => rfl
        | succ j' => simp at h1 h2; subst h1; exact absurd (mem j' (by simpa using h2)) f3'.1
      | succ j => cases j' with
        | zero => simp at h1 h2; subst h2; exact absurd (mem j (by simpa using h1)) f3'.1
        | succ j' => rw [rn_inj rs f3'.2 j j' k (by simpa using h1) (by simpa using h2)]

/-- what is there fits what a loop's head tells -/
theorem head_ok {σ0 σ : St} {hv : List Tmp} {md : List Nat} {E : List (Nat × V)} {B : List (Nat × Ob)} {M : List Ob} {rn : List (Option Nat)} {ae a : Act} {we w : World} {Ae A : Nat → Prop} {μe μ : Nat → Option Loc} {bd : Nat → Prop}
    (he : Ok w0 X A0 N (fun j => j < σ0.next) σ0 ae we Ae μe) (h : Ok w0 X A0 N bd σ a w A μ) (hx : Ext hv ae we Ae μe a w A μ) (hf : Fits σ0 σ md E B M rn) :
    ∃ μ', Ok w0 X A0 N (fun j => j < (head σ0 hv md E B M).next) (head σ0 hv md E B M) a w A μ' ∧ Ext hv ae we Ae μe a w A μ' := by
  obtain ⟨f1, f2, f3, f4, f5, f6, f7, f8, f9⟩ := hf
  let μ' : Nat → Option Loc := fun i => if i < σ0.next then μe i else match rn[i - σ0.next]? with
    | some (some k) => μ k
    | some none => match M[i - σ0.next]? with | some (.arr e sz _) => some ⟨none, 0, 0, sz⟩ | _ => none
    | none => none
  have hlo : ∀ i, i < σ0.next → μ' i = μe i := fun i hi => if_pos hi
  have hhi : ∀ j, μ' (σ0.next + j) = match rn[j]? with | some (some k) => μ k | some none => (match M[j]? with | some (.arr e sz _) => some ⟨none, 0, 0, sz⟩ | _ => none) | none => none := fun j => by
    show (if σ0.next + j < σ0.next then _ else _) = _
    rw [if_neg (by omega)]
    simp only [Nat.add_sub_cancel_left]
  have hμe : ∀ i l, μe i = some l → μ i = some l ∧ μ' i = some l := fun i l hi => ⟨hx.mu i l hi, by rw [hlo i (he.bd i (by rw [hi]; simp))]; exact hi⟩
  have hcell := hx.cell
  -- a value told at the head
  have hmt : ∀ (u v : V) (c : Value), Mt rn u v → Rv w A μ u c → Rv w A μ' (v.ren1 (σ0.next + ·)) c := fun u v c hm hr => by
    have other : v.ren1 (σ0.next + ·) = v → (u = v ∧ v.shutA = true) ∨ (u = .nil ∧ ∃ sz, v = .sl sz 0 []) → Rv w A μ' (v.ren1 (σ0.next + ·)) c := fun e hc => by
      rw [e]
      rcases hc with ⟨e1, e2⟩ | ⟨rfl, sz, rfl⟩
      · subst e1
        by_cases hx : ∃ xs, u = .agg xs
        · obtain ⟨xs, rfl⟩ := hx
          obtain ⟨cs, rfl, hs, hrr⟩ := hr.agg_inv
          exact .agg _ cs hs (fun i y d hy hd => .c (shut_rc (hrr i y d hy hd) (List.all_eq_true.1 e2 y (List.mem_of_getElem? hy))))
        · exact .c (shut_rc hr (by cases u <;> first | exact e2 | exact absurd ⟨_, rfl⟩ hx))
      · have := hr.nil_inv; subst this
        exact .c (.sl sz 0 [] rfl none 0 (fun _ => undef) (Nat.le_refl _) (fun p hp => by cases hp) (fun h => absurd rfl h) (fun ad k u ha => by cases ha) (fun k u hk => by simp at hk) (fun k u hk => by simp at hk))
    cases v with
    | own j len =>
      simp only [Mt] at hm
      split at hm
      · rename_i i hi
        subst hm
        obtain ⟨l, hl, rfl, rfl⟩ := hr.own_inv
        exact .own _ l (by show μ' (σ0.next + j) = _; rw [hhi, hi]; exact hl)
      · rename_i hi
        obtain ⟨rfl, rfl⟩ := hm
        obtain ⟨e, sz, hM⟩ := f6 j hi
        have := hr.nil_inv; subst this
        exact .own _ ⟨none, 0, 0, sz⟩ (by show μ' (σ0.next + j) = _; rw [hhi, hi, hM])
      · exact hm.elim
    | bp i off => rcases hm with ⟨_, h2⟩ | ⟨_, _, h2⟩ <;> cases h2
    | ep i j off => rcases hm with ⟨_, h2⟩ | ⟨_, _, h2⟩ <;> cases h2
    | cf f i => rcases hm with ⟨_, h2⟩ | ⟨_, _, h2⟩ <;> cases h2
    | tup xs => rcases hm with ⟨_, h2⟩ | ⟨_, _, h2⟩ <;> cases h2
    | _ => exact other rfl hm
  have hkept : ∀ i, memB md i = false → memB σ0.ids i = true → σ.mem i = σ0.mem i := fun i h1 h2 => (f7 i ((memB_iff _ _).1 h2)).resolve_left (by rw [h1]; simp)
  have hkm : ∀ j k : Nat, rn[j]? = some (some k) → k ∈ rn.filterMap id := fun j k hj => List.mem_filterMap.2 ⟨some k, List.mem_of_getElem? hj, rfl⟩
  have hinj : ∀ j j' k : Nat, rn[j]? = some (some k) → rn[j']? = some (some k) → j = j' := rn_inj rn f3
  -- the objects at the head, and where each comes from
  have hmem : ∀ i ob, (head σ0 hv md E B M).mem i = some ob → (i < σ0.next ∧ ((∃ ob1, lk B i = some ob1 ∧ ob = ob1.rn1 (σ0.next + ·)) ∨ (lk B i = none ∧ memB md i = false ∧ memB σ0.ids i = true ∧ σ0.mem i = some ob))) ∨ ∃ j, i = σ0.next + j ∧ M[j]? = some ob := fun i ob hi => by
    simp only [head, headAt] at hi
    cases hb : Nat.blt i σ0.next with
    | true =>
      rw [hb] at hi
      have hlt : i < σ0.next := Nat.le_of_ble_eq_true hb
      simp only at hi
      cases hB : lk B i with
      | some cs => rw [hB] at hi; injection hi with hi; exact .inl ⟨hlt, .inl ⟨cs, rfl, hi.symm⟩⟩
      | none =>
        rw [hB] at hi; simp only at hi
        cases hm : memB md i with
        | true => rw [hm] at hi; cases hi
        | false =>
          rw [hm] at hi; simp only at hi
          cases hm2 : memB σ0.ids i with
          | true => rw [hm2] at hi; exact .inl ⟨hlt, .inr ⟨rfl, rfl, rfl, hi⟩⟩
          | false => rw [hm2] at hi; cases hi
    | false =>
      rw [hb] at hi
      have hge : ¬ i < σ0.next := fun hc => by rw [show Nat.blt i σ0.next = true from Nat.ble_eq_true_of_le hc] at hb; cases hb
      exact .inr ⟨i - σ0.next, by omega, hi⟩
  -- in the state that is there: the object's number and place
  have src : ∀ i ob, (head σ0 hv md E B M).mem i = some ob → (∃ k ob' l, σ.mem k = some ob' ∧ μ k = some l ∧ μ' i = some l ∧ ((i < σ0.next ∧ k = i) ∨ ∃ j, i = σ0.next + j ∧ rn[j]? = some (some k))) ∨ (∃ l, μ' i = some l ∧ l.b = none) := fun i ob hi => by
    rcases hmem i ob hi with ⟨hlt, ⟨cs, hB, _⟩ | ⟨_, h1, h2, h3⟩⟩ | ⟨j, rfl, hj⟩
    · obtain ⟨_, _, ⟨cs0, hc0⟩, _, hO⟩ := f9 _ (lk_mem _ _ _ hB)
      obtain ⟨ob1, hc1⟩ : ∃ ob1, σ.mem i = some ob1 := by
        cases cs with
        | box p => obtain ⟨us, h1, _⟩ := hO; exact ⟨_, h1⟩
        | arr e sz xs => exact ⟨_, hO⟩
      obtain ⟨l, hl, _⟩ := he.ob i _ hc0
      exact .inl ⟨i, _, l, hc1, (hμe i l hl).1, (hμe i l hl).2, .inl ⟨hlt, rfl⟩⟩
    · obtain ⟨l, hl, _⟩ := he.ob i _ h3
      exact .inl ⟨i, ob, l, by rw [hkept i h1 h2]; exact h3, (hμe i l hl).1, (hμe i l hl).2, .inl ⟨hlt, rfl⟩⟩
    · have hjl : j < rn.length := by rw [f2]; exact (List.getElem?_eq_some_iff.1 hj).1
      cases hr : rn[j]? with
      | none => rw [List.getElem?_eq_none_iff] at hr; omega
      | some r =>
        cases r with
        | some k =>
          have hk := f5 j k hr
          obtain ⟨l, hl, _⟩ := h.ob k ob (by rw [hk]; exact hj)
          exact .inl ⟨k, ob, l, by rw [hk]; exact hj, hl, by rw [hhi, hr]; exact hl, .inr ⟨j, rfl, hr⟩⟩
        | none =>
          obtain ⟨e, sz, hM⟩ := f6 j hr
          exact .inr ⟨⟨none, 0, 0, sz⟩, by rw [hhi, hr, hM], rfl⟩
  have hAlt : ∀ b, A b → b < w.heap.size := fun b hb => (h.hA b hb).1
  refine ⟨μ', ⟨h.tm, h.df, fun t => ?_, h.os, h.tape, h.out, h.size, h.old, h.hA, h.sub, fun i ob hi => ?_, fun i j li lj b hi hj h1 h2 h3 h4 => ?_, fun i hi => ?_⟩, ⟨hx.cell, hx.sub, fun i l hi => (hμe i l hi).2, hx.tm⟩⟩
  · show Rv w A μ' (match lk E t with | some v => v.ren1 (σ0.next + ·) | none => match memB hv t with | true => .und | false => σ0.env t) _
    cases hE : lk E t with
    | some v => exact hmt _ v _ (f1 _ (lk_mem _ _ _ hE)) (h.env t)
    | none =>
      simp only
      cases hh : memB hv t with
      | true => exact .c (.und _)
      | false =>
        simp only
        have hnt : t ∉ hv := fun hm => by rw [(memB_iff _ _).2 hm] at hh; cases hh
        have e1 : a.tmps.getD t undef = ae.tmps.getD t undef := by simp [Array.getD_eq_getD_getElem?, hx.tm t hnt]
        rw [e1]
        exact (he.env t).mono hx.sub hcell (fun i l hi => (hμe i l hi).2)
  · rcases hmem i ob hi with ⟨hlt, ⟨cs, hB, rfl⟩ | ⟨_, h1, h2, h3⟩⟩ | ⟨j, rfl, hj⟩
    · obtain ⟨_, _, ⟨cs0, hc0⟩, _, hO⟩ := f9 _ (lk_mem _ _ _ hB)
      obtain ⟨l, hl, _⟩ := he.ob i _ hc0
      cases cs with
      | arr e sz xs =>
        obtain ⟨l1, hl1, ho1, hb1⟩ := h.ob i _ hO
        rw [(hμe i l hl).1] at hl1; injection hl1 with hl1; subst hl1
        exact ⟨l, (hμe i l hl).2, ho1, hb1⟩
      | box cs =>
      obtain ⟨cs1, hc1, hml⟩ := hO
      obtain ⟨l1, hl1, ho1, hb1⟩ := h.ob i _ hc1
      rw [(hμe i l hl).1] at hl1; injection hl1 with hl1; subst hl1
      refine ⟨l, (hμe i l hl).2, ?_, hb1⟩
      obtain ⟨b, arr, el, q1, q2, q3, q4⟩ := ho1
      obtain ⟨g1, g2⟩ := mtL_get _ _ hml
      refine ⟨b, arr, el, q1, q2, by rw [q3, g1]; simp, fun k u c hk hc => ?_⟩
      simp at hk
      obtain ⟨v, hv', rfl⟩ := hk
      have hlt' : k < cs1.length := by rw [g1]; exact (List.getElem?_eq_some_iff.1 hv').1
      exact hmt _ v c (g2 k _ v (List.getElem?_eq_getElem hlt') hv') (q4 k _ c (List.getElem?_eq_getElem hlt') hc)
    · obtain ⟨l, hl, hoe, _⟩ := he.ob i _ h3
      obtain ⟨l1, hl1, ho1, hb1⟩ := h.ob i ob (by rw [hkept i h1 h2]; exact h3)
      rw [(hμe i l hl).1] at hl1; injection hl1 with hl1; subst hl1
      refine ⟨l, (hμe i l hl).2, ?_, hb1⟩
      cases ob with
      | arr e sz xs => exact ho1
      | box cs =>
        obtain ⟨b, arr, el, q1, q2, q3, q4⟩ := ho1
        obtain ⟨be, arre, ele, r1, r2, r3, r4⟩ := hoe
        refine ⟨b, arr, el, q1, q2, q3, fun k u c hk hc => ?_⟩
        have hlt' : k < arre.size := by rw [r3]; exact (List.getElem?_eq_some_iff.1 hk).1
        exact (q4 k u c hk hc).shrink hμe (r4 k u _ hk (Array.getElem?_eq_getElem hlt'))
    · have hjl : j < rn.length := by rw [f2]; exact (List.getElem?_eq_some_iff.1 hj).1
      cases hr : rn[j]? with
      | none => rw [List.getElem?_eq_none_iff] at hr; omega
      | some r =>
        have hia := List.all_eq_true.1 f8 ob (List.mem_of_getElem? hj)
        cases r with
        | some k =>
          obtain ⟨l, hl, ho, hb⟩ := h.ob k _ (by rw [f5 j k hr]; exact hj)
          exact ⟨l, by rw [hhi, hr]; exact hl, ObOk.re hia ho, hb⟩
        | none =>
          obtain ⟨e', sz', hM⟩ := f6 j hr
          rw [hj] at hM; injection hM with hM; subst hM
          exact ⟨⟨none, 0, 0, sz'⟩, by rw [hhi, hr, hj], ⟨rfl, rfl, fun _ h => (by cases h), [], ⟨by simp, .inl ⟨rfl, rfl⟩⟩, fun _ h => (by cases h), fun k u c hk => by simp at hk⟩, fun b hb => by cases hb⟩
  · obtain ⟨oi, hoi⟩ := Option.ne_none_iff_exists'.1 hi
    obtain ⟨oj, hoj⟩ := Option.ne_none_iff_exists'.1 hj
    rcases src i oi hoi with ⟨ki, o1, l1, a1, a2, a3, a4⟩ | ⟨l1, a3, a4⟩
    · rcases src j oj hoj with ⟨kj, o2, l2, b1, b2, b3, b4⟩ | ⟨l2, b3, b4⟩
      · rw [h1] at a3; injection a3 with a3; subst a3
        rw [h2] at b3; injection b3 with b3; subst b3
        have hk := h.ap ki kj li lj b (by rw [a1]; simp) (by rw [b1]; simp) a2 b2 h3 h4
        subst hk
        have cross : ∀ i j oi, (head σ0 hv md E B M).mem i = some oi → i < σ0.next → rn[j]? = some (some i) → False := fun i j oi hoi hlt hr => by
          rcases hmem i oi hoi with ⟨_, ⟨cs, hB, _⟩ | ⟨_, q1, q2, _⟩⟩ | ⟨j', e, _⟩
          · obtain ⟨_, _, _, q, _⟩ := f9 _ (lk_mem _ _ _ hB)
            exact q (hkm j i hr)
          · have := f4 i (hkm j i hr) q2
            rw [q1] at this; cases this
          · omega
        rcases a4 with ⟨p1, p2⟩ | ⟨ja, p1, p2⟩ <;> rcases b4 with ⟨r1, r2⟩ | ⟨jb, r1, r2⟩
        · rw [← p2, ← r2]
        · subst p2; exact (cross _ _ oi hoi p1 r2).elim
        · subst r2; exact (cross _ _ oj hoj r1 p2).elim
        · rw [p1, r1, hinj ja jb ki p2 r2]
      · rw [h2] at b3; injection b3 with b3; subst b3; rw [b4] at h4; cases h4
    · rw [h1] at a3; injection a3 with a3; subst a3; rw [a4] at h3; cases h3
  · show i < σ0.next + M.length
    by_cases hlt : i < σ0.next
    · omega
    · have e : i = σ0.next + (i - σ0.next) := by omega
      rw [e, hhi] at hi
      cases hr : rn[i - σ0.next]? with
      | none => rw [hr] at hi; exact absurd rfl hi
      | some r => have := (List.getElem?_eq_some_iff.1 hr).1; omega
end
end Go.Aw

set_option linter.unusedVariables false
namespace Go.Aw
section
variable {P : Program} {G : Nat → Option Obj} {T : TypeId → Option TI} {w0 : World} {X A0 : Nat → Prop} {N : Nat}

theorem CE_get {mem : Nat → Option Ob} {fz : List Nat} {env : Nat → V} : ∀ (E : List (Nat × V)) (t : Nat) (v : V), CE mem fz env E → lk E t = some v → FzG mem fz (env t) v
  | [], t, v, _, h => by cases h
  | (k, y) :: l, t, v, ⟨h1, h2⟩, h => by
    simp only [lk] at h
    cases hb : Nat.beq k t with
    | true => rw [hb] at h; injection h with h; subst h; have := Nat.eq_of_beq_eq_true hb; subst this; exact h1
    | false => rw [hb] at h; exact CE_get l t v h2 h
theorem CB_get {mem : Nat → Option Ob} {fz : List Nat} : ∀ (B : List (Nat × Ob)) (i : Nat) (ob : Ob), CB mem fz B → lk B i = some ob → FzB mem fz (mem i) ob
  | [], i, ob, _, h => by cases h
  | (k, y) :: l, i, ob, ⟨h1, h2⟩, h => by
    simp only [lk] at h
    cases hb : Nat.beq k i with
    | true => rw [hb] at h; injection h with h; subst h; have := Nat.eq_of_beq_eq_true hb; subst this; exact h1
    | false => rw [hb] at h; exact CB_get l i ob h2 h
theorem FzB.ne {mem : Nat → Option Ob} {fz : List Nat} {o : Option Ob} {ob : Ob} (h : FzB mem fz o ob) : o ≠ none := by
  rcases h with h | h
  · rw [h]; simp
  · cases ob with
    | box vs => obtain ⟨us, e, _⟩ := h; rw [e]; simp
    | arr e sz xs => exact h.elim
theorem FL_len {mem : Nat → Option Ob} {fz : List Nat} : ∀ (us vs : List V), FL mem fz us vs → us.length = vs.length
  | [], [], _ => rfl
  | u :: us, v :: vs, h => by rw [List.length_cons, List.length_cons, FL_len us vs h.2]
  | [], _ :: _, h => h.elim
  | _ :: _, [], h => h.elim
theorem FL_get {mem : Nat → Option Ob} {fz : List Nat} : ∀ (us vs : List V) (i : Nat) (v : V), FL mem fz us vs → vs[i]? = some v → ∃ u, us[i]? = some u ∧ Fz mem fz u v
  | [], [], i, v, _, h => by simp at h
  | u :: us, y :: vs, 0, v, h, e => by
    rw [List.getElem?_cons_zero] at e
    injection e with e; subst e
    exact ⟨u, List.getElem?_cons_zero, h.1⟩
  | u :: us, y :: vs, i + 1, v, h, e => by
    rw [List.getElem?_cons_succ] at e ⊢
    exact FL_get us vs i v h.2 e
  | [], _ :: _, _, _, h, _ => h.elim
  | _ :: _, [], _, _, h, _ => h.elim
/-- what is written lies in the first n objects -/
def XB (n : Nat) (X : Nat → Prop) (μ : Nat → Option Loc) : Prop := ∀ b, X b → ∃ m l, m < n ∧ μ m = some l ∧ l.b = some b
theorem XB.mono {n : Nat} {μ μ' : Nat → Option Loc} (h : XB n X μ) (hm : ∀ i l, μ i = some l → μ' i = some l) : XB n X μ' := fun b hb =>
  let ⟨m, l, h1, h2, h3⟩ := h b hb
  ⟨m, l, h1, hm _ _ h2, h3⟩
theorem low_ok {n0 : Nat} {σ : St} {a : Act} {w : World} {A : Nat → Prop} {μ : Nat → Option Loc} {n : Nat} {E : List (Nat × V)} {B : List (Nat × Ob)} {fz : List Nat} (hX : fz = [] ∨ (XB n0 X μ ∧ keeps n0 B = true)) (h : Ok w0 X A0 N (fun j => j < σ.next) σ a w A μ)
    (hf : (B.all fun p => !memB fz p.1) = true) (hn : σ.next = n) (he : CE σ.mem fz σ.env E) (hb : CB σ.mem fz B) :
    ∃ A', Ok w0 X A0 N (fun j => j < (low n E B).next) (low n E B) a w A' μ ∧ Ext [] a w A μ a w A' μ := by
  have some_of : ∀ i, (low n E B).mem i ≠ none → σ.mem i ≠ none := fun i hi => by
    obtain ⟨ob, ho⟩ := Option.ne_none_iff_exists'.1 hi
    exact (CB_get B i ob hb ho).ne
  let A' : Nat → Prop := fun b => A b ∨ ∃ i l ob, memB fz i = true ∧ σ.mem i = some ob ∧ μ i = some l ∧ l.b = some b
  have hsub : ∀ b, A b → A' b := fun b hb => .inl hb
  have hnew : ∀ b i l ob, memB fz i = true → σ.mem i = some ob → μ i = some l → l.b = some b → b < w.heap.size ∧ w0.heap.size ≤ b := fun b i l ob h1 h2 h3 h4 => by
    obtain ⟨l', hl', _, hbb⟩ := h.ob i ob h2
    rw [h3] at hl'; injection hl' with hl'; subst hl'
    obtain ⟨q1, _, q3⟩ := hbb b h4
    refine ⟨q1, q3.resolve_left (fun hXb => ?_)⟩
    rcases hX with hX | ⟨hX, hk⟩
    · rw [hX] at h1; cases h1
    · obtain ⟨m, lm, m1, m2, m3⟩ := hX b hXb
      have := List.all_eq_true.1 hk m (List.mem_range.2 m1)
      obtain ⟨obm, hobm⟩ := Option.isSome_iff_exists.1 this
      have := h.ap i m l lm b (by rw [h2]; simp) (CB_get B m obm hb hobm).ne h3 m2 h4 m3
      subst this
      have := List.all_eq_true.1 hf _ (lk_mem B i obm hobm)
      rw [h1] at this; cases this
  have leaf : ∀ (u v : V) (x : Value), Fz σ.mem fz u v → Rv w A μ u x → Rv w A' μ v x := fun u v x e hu => by
    rcases e with e | e
    · rw [← e]; exact hu.mono hsub (fun _ _ _ h => h) (fun _ _ h => h)
    · cases v with
      | sl sz n xs =>
        obtain ⟨i, len, e', e1, e2, e3, e4⟩ := e
        rw [e1] at hu
        obtain ⟨l, hl, hlen, hve⟩ := hu.own_inv
        obtain ⟨l', hl', hob, _⟩ := h.ob i _ e2
        obtain rfl : l' = l := by rw [hl] at hl'; injection hl' with e; exact e.symm
        rw [hve]
        obtain rfl : n = l'.len := by
          have := hob.2.1
          rcases e4 with e4 | e4 <;> omega
        exact .c (rc_arr hob hsub (fun b hb => .inr ⟨i, l', _, e3, e2, hl, hb⟩))
      | _ => exact e.elim
  refine ⟨A', ⟨h.tm, h.df, fun t => ?_, h.os, h.tape, h.out, h.size, h.old, fun b hb => ?_, fun b hb => .inl (h.sub b hb), fun i ob hi => ?_, fun i j li lj b hi hj => h.ap i j li lj b (some_of i hi) (some_of j hj), fun i hi => ?_⟩, ⟨fun _ _ _ h => h, hsub, fun _ _ h => h, fun _ _ => rfl⟩⟩
  · show Rv w A' μ (match lk E t with | some v => v | none => .und) _
    cases hlk : lk E t with
    | some v =>
      rcases CE_get E t v he hlk with e | e
      · exact leaf _ _ _ e (h.env t)
      · cases v with
        | agg vs =>
          obtain ⟨us, e1, e2⟩ := e
          have hu := h.env t
          rw [e1] at hu
          obtain ⟨cs, hcs, hs, hr⟩ := hu.agg_inv
          show Rv w A' μ (.agg vs) _
          rw [hcs]
          refine .agg vs cs (by rw [hs, FL_len us vs e2]) (fun i x c hx hc => ?_)
          obtain ⟨u, hu1, hu2⟩ := FL_get us vs i x e2 hx
          exact leaf _ _ _ hu2 (hr i u c hu1 hc)
        | _ => exact e.elim
    | none => exact .c (.und _)
  · rcases hb with hb | ⟨i, l, ob, h1, h2, h3, h4⟩
    · exact h.hA b hb
    · exact ⟨(hnew b i l ob h1 h2 h3 h4).1, .inr (hnew b i l ob h1 h2 h3 h4).2⟩
  · have fin : ∀ (ob0 : Ob) (l : Loc), σ.mem i = some ob0 → μ i = some l → ObOk w A' μ l ob → (∀ b, l.b = some b → b < w.heap.size ∧ ¬ A b ∧ (X b ∨ w0.heap.size ≤ b)) → ∃ l, μ i = some l ∧ ObOk w A' μ l ob ∧ ∀ b, l.b = some b → b < w.heap.size ∧ ¬ A' b ∧ (X b ∨ w0.heap.size ≤ b) := fun ob0 l hi' hl hob hbb => by
      refine ⟨l, hl, hob, fun b hb => ⟨(hbb b hb).1, fun hA => ?_, (hbb b hb).2.2⟩⟩
      rcases hA with hA | ⟨i2, l2, ob2, h1, h2, h3, h4⟩
      · exact (hbb b hb).2.1 hA
      · have := h.ap i i2 l l2 b (by rw [hi']; simp) (by rw [h2]; simp) hl h3 hb h4
        subst this
        have := List.all_eq_true.1 hf _ (lk_mem B i ob hi)
        rw [h1] at this; cases this
    rcases CB_get B i ob hb hi with hi' | hi'
    · obtain ⟨l, hl, hob, hbb⟩ := h.ob i ob hi'
      exact fin ob l hi' hl (ObOk.mono (w := w) (w' := w) hsub (fun _ _ _ h => h) (fun _ _ h => h) (fun _ _ => rfl) hob) hbb
    · cases ob with
      | box vs =>
        obtain ⟨us, e1, e2⟩ := hi'
        obtain ⟨l, hl, ⟨b, arr, el, o1, o2, o3, o4⟩, hbb⟩ := h.ob i _ e1
        refine fin _ l e1 hl ⟨b, arr, el, o1, o2, by rw [o3, FL_len us vs e2], fun j x c hx hc => ?_⟩ hbb
        obtain ⟨u, hu1, hu2⟩ := FL_get us vs j x e2 hx
        exact leaf _ _ _ hu2 (o4 j u c hu1 hc)
      | arr e sz xs => exact hi'.elim
  · show i < n
    rw [← hn]; exact h.bd i hi
/-- what is left at an exit -/
def After (w0 : World) (X A0 : Nat → Prop) (N : Nat) (Q : Exit → St → Prop) (hv : List Tmp) (a : Act) (w : World) (A : Nat → Prop) (μ : Nat → Option Loc) : Exit → Act → World → Prop :=
  fun e a' w' => (∀ c, e ≠ .panic c) ∧ e ≠ .outgrown ∧ ∃ σ', Q e σ' ∧ Next w0 X A0 N (fun j => j < σ'.next) σ' hv a w A μ a' w'

theorem After.mono {Q : Exit → St → Prop} {hv hv' : List Tmp} {a a1 : Act} {w w1 : World} {A A1 : Nat → Prop} {μ μ1 : Nat → Option Loc} (hx : Ext hv' a w A μ a1 w1 A1 μ1) (hs : ∀ t ∈ hv', t ∈ hv) {hv2 : List Tmp} (hs2 : ∀ t ∈ hv2, t ∈ hv) {e : Exit} {a' : Act} {w' : World}
    (h : After w0 X A0 N Q hv2 a1 w1 A1 μ1 e a' w') : After w0 X A0 N Q hv a w A μ e a' w' := by
  obtain ⟨h1, h2, σ', h3, A', μ', h4, h5⟩ := h
  exact ⟨h1, h2, σ', h3, A', μ', h4, (hx.trans h5).mono (fun t ht => (List.mem_append.1 ht).elim (hs t) (hs2 t))⟩

theorem awp_sound {n0 : Nat} (hT : TOk P T) (hG : GX G w0 X A0) (hP : P.follows .mixedOrders = true) : ∀ (c : Code), codeOk N c = true → ∀ (J : Jt), J.fok n0 = true → ∀ (Q : Exit → St → Prop) (σ : St) (a : Act) (w : World) (A : Nat → Prop) (μ : Nat → Option Loc),
    awp P G T c J Q σ → Ok w0 X A0 N (fun j => j < σ.next) σ a w A μ → XB n0 X μ → c.wp P (After w0 X A0 N Q (dsts c) a w A μ) a w
  | .skip, _, J, hJ, Q, σ, a, w, A, μ, h, hok, hX => wp_skip ⟨fun c h => (by cases h), fun h => (by cases h), σ, h, A, μ, hok, Ext.refl _ _ _ _ _⟩
  | .ret, _, J, hJ, Q, σ, a, w, A, μ, h, hok, hX => wp_ret ⟨fun c h => (by cases h), fun h => (by cases h), σ, h, A, μ, hok, Ext.refl _ _ _ _ _⟩
  | .exit id, _, J, hJ, Q, σ, a, w, A, μ, h, hok, hX => wp_exit ⟨fun c h => (by cases h), fun h => (by cases h), σ, h, A, μ, hok, Ext.refl _ _ _ _ _⟩
  | .region id ops draw, hc, J, hJ, Q, σ, a, w, A, μ, h, hok, hX => by
    simp only [awp, natK_eq, lsK_eq] at h
    have := region_sound (id := id) (draw := draw) hT hG hP hc hok ⟨_, rfl⟩ h
    refine wp_mono this (fun e a' w' ⟨he, σ', hk, A', μ', h1, h2⟩ => ?_)
    subst he
    refine ⟨fun c h => (by cases h), fun h => (by cases h), _, hk, A', μ', ⟨h1.tm, h1.df, h1.env, h1.os, h1.tape, h1.out, h1.size, h1.old, h1.hA, h1.sub, h1.ob, h1.ap, fun i hi => ?_⟩, h2⟩
    exact h1.bd i hi
  | .seq x y, hc, J, hJ, Q, σ, a, w, A, μ, h, hok, hX => by
    simp only [codeOk, Bool.and_eq_true] at hc
    simp only [awp] at h
    split at h
    · simp only [Sq] at h
      obtain ⟨τ, I, md, E, B, M, h1, h2⟩ := h
      refine wp_seq (wp_mono (awp_sound hT hG hP x hc.1 _ (Jt.fok_a hJ) _ σ a w A μ h1 hok hX) (fun e a' w' ⟨g1, g2, σ', g3, A', μ', g4, g5⟩ => ?_))
      cases e with
      | normal =>
        obtain ⟨z, rn, hI, hF⟩ := g3
        obtain ⟨μ2, k1, k2⟩ := head_ok hok g4 g5 hF
        exact wp_mono (awp_sound hT hG hP y hc.2 _ (Jt.fok_b hJ) Q _ a' w' A' μ2 (by have := h2 z hI; rwa [headN_eq] at this) k1 (hX.mono k2.mu)) (fun e a2 w2 h => After.mono k2 (fun t ht => List.mem_append_left _ ht) (fun t ht => List.mem_append_right _ ht) h)
      | exit id => exact ⟨g1, g2, σ', g3, A', μ', g4, g5.mono (fun t ht => List.mem_append_left _ ht)⟩
      | goto l => exact ⟨g1, g2, σ', g3, A', μ', g4, g5.mono (fun t ht => List.mem_append_left _ ht)⟩
      | ret => exact ⟨g1, g2, σ', g3, A', μ', g4, g5.mono (fun t ht => List.mem_append_left _ ht)⟩
      | panic c => exact absurd rfl (g1 c)
      | outgrown => exact absurd rfl g2
    · split at h
      · refine wp_seq (wp_mono (awp_sound hT hG hP x hc.1 _ (Jt.fok_a hJ) _ σ a w A μ h hok hX) (fun e a' w' ⟨h1, h2, σ', h3, A', μ', h4, h5⟩ => ?_))
        cases e with
        | normal =>
          obtain ⟨n, E, B, fz, hal, hf, hn, hE, hB, hK⟩ := h3
          have hX2 : fz = [] ∨ (XB n0 X μ' ∧ keeps n0 B = true) := by
            rcases Jt.fok_fz hJ with e | e
            · rw [e] at hal; exact .inl (List.isEmpty_iff.1 hal)
            · rw [e] at hal; exact .inr ⟨hX.mono h5.mu, hal⟩
          obtain ⟨A2, k1, k2⟩ := low_ok hX2 h4 hf hn hE hB
          exact wp_mono (awp_sound hT hG hP y hc.2 _ (Jt.fok_b hJ) Q _ a' w' A2 μ' hK k1 (hX.mono h5.mu)) (fun e a2 w2 h => After.mono (h5.trans k2) (fun t ht => (List.mem_append.1 ht).elim (List.mem_append_left _) (fun h => by cases h)) (fun t ht => List.mem_append_right _ ht) h)
        | exit id => exact ⟨h1, h2, σ', h3, A', μ', h4, h5.mono (fun t ht => List.mem_append_left _ ht)⟩
        | goto l => exact ⟨h1, h2, σ', h3, A', μ', h4, h5.mono (fun t ht => List.mem_append_left _ ht)⟩
        | ret => exact ⟨h1, h2, σ', h3, A', μ', h4, h5.mono (fun t ht => List.mem_append_left _ ht)⟩
        | panic c => exact absurd rfl (h1 c)
        | outgrown => exact absurd rfl h2
      refine wp_seq (wp_mono (awp_sound hT hG hP x hc.1 _ (Jt.fok_a hJ) _ σ a w A μ h hok hX) (fun e a' w' ⟨h1, h2, σ', h3, A', μ', h4, h5⟩ => ?_))
      cases e with
      | normal => exact wp_mono (awp_sound hT hG hP y hc.2 _ (Jt.fok_b hJ) Q σ' a' w' A' μ' h3 h4 (hX.mono h5.mu)) (fun e a2 w2 h => After.mono h5 (fun t ht => List.mem_append_left _ ht) (fun t ht => List.mem_append_right _ ht) h)
      | exit id => exact ⟨h1, h2, σ', h3, A', μ', h4, h5.mono (fun t ht => List.mem_append_left _ ht)⟩
      | goto l => exact ⟨h1, h2, σ', h3, A', μ', h4, h5.mono (fun t ht => List.mem_append_left _ ht)⟩
      | ret => exact ⟨h1, h2, σ', h3, A', μ', h4, h5.mono (fun t ht => List.mem_append_left _ ht)⟩
      | panic c => exact absurd rfl (h1 c)
      | outgrown => exact absurd rfl h2
  | .cond c x y, hc, J, hJ, Q, σ, a, w, A, μ, h, hok, hX => by
    simp only [codeOk, Bool.and_eq_true] at hc
    simp only [awp] at h
    split at h
    · rename_i b hb
      have hv := hok.ev c
      rw [hb] at hv
      split at h
      · refine wp_cond_split hv.bool_inv (fun ht => ?_) (fun ht => ?_)
        · obtain ⟨n, E, B, fz, hal, hf, hn, hE, hB, hK⟩ := h.out.1 ht
          have hX2 : fz = [] ∨ (XB n0 X μ ∧ keeps n0 B = true) := by
            rcases Jt.fok_fz hJ with e | e
            · rw [e] at hal; exact .inl (List.isEmpty_iff.1 hal)
            · rw [e] at hal; exact .inr ⟨hX, hal⟩
          obtain ⟨A2, k1, k2⟩ := low_ok hX2 hok hf hn hE hB
          exact wp_mono (awp_sound hT hG hP x hc.1 _ (Jt.fok_a hJ) Q _ a w A2 μ hK k1 hX) (fun e a2 w2 h => After.mono k2 (fun t ht => by cases ht) (fun t ht => List.mem_append_left _ ht) h)
        · obtain ⟨n, E, B, fz, hal, hf, hn, hE, hB, hK⟩ := h.out.2 ht
          have hX2 : fz = [] ∨ (XB n0 X μ ∧ keeps n0 B = true) := by
            rcases Jt.fok_fz hJ with e | e
            · rw [e] at hal; exact .inl (List.isEmpty_iff.1 hal)
            · rw [e] at hal; exact .inr ⟨hX, hal⟩
          obtain ⟨A2, k1, k2⟩ := low_ok hX2 hok hf hn hE hB
          exact wp_mono (awp_sound hT hG hP y hc.2 _ (Jt.fok_b hJ) Q _ a w A2 μ hK k1 hX) (fun e a2 w2 h => After.mono k2 (fun t ht => by cases ht) (fun t ht => List.mem_append_right _ ht) h)
      refine wp_cond_split hv.bool_inv (fun ht => ?_) (fun ht => ?_)
      · exact wp_mono (awp_sound hT hG hP x hc.1 _ (Jt.fok_a hJ) Q σ a w A μ (h.out.1 ht) hok hX) (fun e a' w' h => After.mono (Ext.refl [] _ _ _ _) (fun t ht => by cases ht) (fun t ht => List.mem_append_left _ ht) h)
      · exact wp_mono (awp_sound hT hG hP y hc.2 _ (Jt.fok_b hJ) Q σ a w A μ (h.out.2 ht) hok hX) (fun e a' w' h => After.mono (Ext.refl [] _ _ _ _) (fun t ht => by cases ht) (fun t ht => List.mem_append_right _ ht) h)
    · exact h.elim
  | .block id c, hc, J, hJ, Q, σ, a, w, A, μ, h, hok, hX => by
    refine wp_block (wp_mono (awp_sound hT hG hP c hc _ hJ _ σ a w A μ h hok hX) (fun e a' w' ⟨h1, h2, σ', h3, h4⟩ => ?_))
    cases e with
    | normal => exact ⟨h1, h2, σ', h3, h4⟩
    | exit id' =>
      simp only [Exit.inBlock]
      simp only at h3
      by_cases hid : id' = id
      · subst hid
        rw [if_pos rfl]
        have : Nat.beq id' id' = true := Nat.beq_refl _
        rw [this] at h3
        exact ⟨fun c h => (by cases h), fun h => (by cases h), σ', h3, h4⟩
      · rw [if_neg hid]
        have : Nat.beq id' id = false := by
          cases hb : Nat.beq id' id with
          | false => rfl
          | true => exact absurd (Nat.eq_of_beq_eq_true hb) hid
        rw [this] at h3
        exact ⟨h1, h2, σ', h3, h4⟩
    | goto l => exact ⟨h1, h2, σ', h3, h4⟩
    | ret => exact ⟨h1, h2, σ', h3, h4⟩
    | panic c => exact absurd rfl (h1 c)
    | outgrown => exact absurd rfl h2
  | .loop c, hc, J, hJ, Q, σ, a, w, A, μ, h, hok, hX => by
    simp only [awp, Lp] at h
    obtain ⟨τ, I, m, md, E, B, M, ⟨x0, rn0, hI0, hF0⟩, hround⟩ := h
    have hc' : codeOk N c = true := hc
    refine wp_loop_ex (fun n a' w' => ∃ x A' μ', I x ∧ m x = n ∧ Ok w0 X A0 N (fun j => j < (head σ (dsts c) md (E x) (B x) (M x)).next) (head σ (dsts c) md (E x) (B x) (M x)) a' w' A' μ' ∧ Ext (dsts c) a w A μ a' w' A' μ') ?_ ?_
    · obtain ⟨μ', h1, h2⟩ := head_ok hok hok (Ext.refl (dsts c) _ _ _ _) hF0
      exact ⟨m x0, x0, A, μ', hI0, rfl, h1, h2⟩
    · rintro n a1 w1 ⟨x, A1, μ1, hI, rfl, h1, h2⟩
      have hr := hround x hI
      rw [headN_eq] at hr
      refine wp_mono (awp_sound hT hG hP c hc' _ hJ _ _ a1 w1 A1 μ1 hr h1 (hX.mono h2.mu)) (fun e a' w' ⟨g1, g2, σ', g3, A', μ', g4, g5⟩ => ?_)
      cases e with
      | normal =>
        obtain ⟨y, rn, hIy, hlt, hF⟩ := g3
        obtain ⟨μ2, k1, k2⟩ := head_ok hok g4 (h2.trans' g5) hF
        exact ⟨m y, hlt, y, A', μ2, hIy, rfl, k1, k2⟩
      | exit id => exact ⟨g1, g2, σ', g3, A', μ', g4, h2.trans' g5⟩
      | goto l => exact ⟨g1, g2, σ', g3, A', μ', g4, h2.trans' g5⟩
      | ret => exact ⟨g1, g2, σ', g3, A', μ', g4, h2.trans' g5⟩
      | panic c => exact absurd rfl (g1 c)
      | outgrown => exact absurd rfl g2
  | .rangeFunc .., _, J, hJ, Q, σ, a, w, A, μ, h, hok, hX => h.elim
  | .scope _, _, J, hJ, Q, σ, a, w, A, μ, h, hok, hX => h.elim
  | .label _, _, J, hJ, Q, σ, a, w, A, μ, h, hok, hX => h.elim
  | .goto _, _, J, hJ, Q, σ, a, w, A, μ, h, hok, hX => h.elim
  | .refuse _, _, J, hJ, Q, σ, a, w, A, μ, h, hok, hX => h.elim
end
end Go.Aw

set_option linter.unusedVariables false
namespace Go.Aw
def St.start (mi : List Ob) (Vs : List V) : St := { env := fun t => (Vs[t]?).getD .und, mem := fun i => mi[i]?, next := mi.length, ids := List.range mi.length }
def St.startN (n : Nat) (mi : List Ob) (Vs : List V) : St := { env := fun t => (Vs[t]?).getD .und, mem := fun i => mi[i]?, next := n, ids := List.range n }
/-- a value that is given back: u is there, r is told -/
def Rt (σ : St) (rn : List (Option Nat)) (fz : List Nat) (u r : V) : Prop :=
  match r with
  | .own j len => match rn[j]? with
    | some (some i) => u = .own i len
    | some none => u = .nil ∧ len = 0
    | none => False
  | .sl sz n xs => u = .sl sz n xs ∨ (u = .nil ∧ n = 0 ∧ xs = []) ∨ ∃ i len e, (u = .own i len ∧ len = n) ∧ σ.mem i = some (.arr e sz xs) ∧ i ∈ fz
  | .bp j off => match rn[j]? with
    | some (some i) => u = .bp i off
    | _ => False
  | .agg _ | .tup _ | .ep .. | .cf .. => False
  | v => u = v
def RtL (σ : St) (rn : List (Option Nat)) (fz : List Nat) : List V → List V → Prop
  | [], l => l = []
  | u :: us, l => ∃ r rs, l = r :: rs ∧ Rt σ rn fz u r ∧ RtL σ rn fz us rs
def RtA (σ : St) (rn : List (Option Nat)) (fz : List Nat) (u r : V) : Prop :=
  match r with
  | .agg rs => ∃ us, u = .agg us ∧ RtL σ rn fz us rs
  | r => Rt σ rn fz u r
def RtAL (σ : St) (rn : List (Option Nat)) (fz : List Nat) : List V → List V → Prop
  | [], l => l = []
  | u :: us, l => ∃ r rs, l = r :: rs ∧ RtA σ rn fz u r ∧ RtAL σ rn fz us rs
/-- the values at the results' places -/
def rvs (T : TypeId → Option TI) (σ : St) : List ResultVar → (List V → Prop) → Prop
  | [], k => k []
  | .tmp t :: l, k => rvs T σ l (fun us => k (σ.env t :: us))
  | .cell a t :: l, k => match T t with
    | some ti => rdP (fun _ => true) σ.mem ti.size ti.agg (σ.env a) (fun u => rvs T σ l (fun us => k (u :: us)))
    | none => False
def Rus (σ : St) (mi mo : List Ob) (r : V) (us : List V) : Prop :=
  ∃ (rn : List (Option Nat)) (fz : List Nat), (match us with | [u] => RtA σ rn fz u r | us => ∃ xs, r = .tup xs ∧ RtAL σ rn fz us xs) ∧
    rn.length = mo.length ∧ (rn.filterMap id).Nodup ∧ (∀ (j i : Nat), rn[j]? = some (some i) → σ.mem i = mo[j]?) ∧ (∀ (j : Nat), rn[j]? = some none → ∃ e sz, mo[j]? = some (.arr e sz [])) ∧ mo.all Ob.isA = true ∧
    (∀ m, m < mi.length → rn[m]? = some (some m)) ∧ (∀ i ∈ fz, i ∉ rn.filterMap id)
/-- what the function gives back -/
def RetOk (mi mo : List Ob) (r : V) (σ : St) (us : List V) : Prop := Rus σ mi mo r us
def Ret (T : TypeId → Option TI) (rs : List ResultVar) (mi mo : List Ob) (r : V) : Exit → St → Prop
  | .normal, σ => rvs T σ rs (RetOk mi mo r σ)
  | .ret, σ => rvs T σ rs (RetOk mi mo r σ)
  | _, _ => False

section
variable {P : Program} {G : Nat → Option Obj} {T : TypeId → Option TI} {w0 w : World} {X A0 A : Nat → Prop} {N : Nat} {bd : Nat → Prop} {σ : St} {a : Act} {μ : Nat → Option Loc}

def rval (tmps : Array Value) : ResultVar → Sem Value
  | .tmp t => pure (tmps.getD t undef)
  | .cell b t => do loadVar t (← asAddr (tmps.getD b undef))
theorem rvs_run (hT : TOk P T) (h : Ok w0 X A0 N bd σ a w A μ) : ∀ (rs : List ResultVar) (k : List V → Prop), rvs T σ rs k → ∃ (us : List V) (vs : List Value), k us ∧
    (rs.mapM (rval a.tmps)).run P w = .ok vs w ∧ us.length = rs.length ∧ vs.length = us.length ∧ ∀ (i : Nat) (u : V) (v : Value), us[i]? = some u → vs[i]? = some v → Rv w A μ u v
  | [], k, hk => ⟨[], [], hk, by simp, rfl, rfl, fun i u v h => by simp at h⟩
  | .tmp t :: l, k, hk => by
    obtain ⟨us, vs, h1, h2, h3, h4, h5⟩ := rvs_run hT h l _ hk
    refine ⟨_, a.tmps.getD t undef :: vs, h1, by simp [List.mapM_cons, rval, h2], by simp [h3], by simp [h4], fun i u v hu hv => ?_⟩
    cases i with
    | zero => simp only [List.getElem?_cons_zero, Option.some.injEq] at hu hv; subst hu; subst hv; exact h.env t
    | succ i => exact h5 i u v (by simpa using hu) (by simpa using hv)
  | .cell b t :: l, k, hk => by
    simp only [rvs] at hk
    split at hk
    · rename_i ti ht
      obtain ⟨u0, g1, g2⟩ := rdP_ex hk
      obtain ⟨cv, g3, g4⟩ := rdP_run (hT _ _ ht) h.mok (h.env b) g1
      obtain ⟨us, vs, h1, h2, h3, h4, h5⟩ := rvs_run hT h l _ g2
      have hp : ∃ ad, a.tmps.getD b undef = .pointer (some ad) := by
        have he := h.env b
        unfold rdP at g1
        split at g1
        · rename_i e; rw [e] at he; obtain ⟨_, _, _, _, hv⟩ := he.bp_inv; exact ⟨_, hv⟩
        · rename_i e; rw [e] at he; obtain ⟨_, _, _, _, hv⟩ := he.ep_inv; exact ⟨_, hv⟩
        · rename_i e; rw [e] at he; obtain ⟨_, _, hv, _⟩ := he.rp_inv; exact ⟨_, hv⟩
        · exact g1.elim
      obtain ⟨ad, hp⟩ := hp
      have g5 : (loadVar t ad).run P w = .ok cv w := by
        rw [hp] at g3; simpa [Instr.loadAt, Instr.sureAddr] using g3
      refine ⟨_, cv :: vs, h1, by simp [List.mapM_cons, rval, h2, hp, asAddr, g5], by simp [h3], by simp [h4], fun i u v hu hv => ?_⟩
      cases i with
      | zero => simp only [List.getElem?_cons_zero, Option.some.injEq] at hu hv; subst hu; subst hv; exact g4
      | succ i => exact h5 i u v (by simpa using hu) (by simpa using hv)
    · exact hk.elim
def resV : List Value → Value
  | [v] => v
  | vs => .tuple vs.toArray
theorem results_run {fn : Func} {rs : List ResultVar} {vs : List Value} (h : fn.results.toList = rs) (hr : (rs.mapM (rval a.tmps)).run P w = .ok vs w) :
    (results fn a.tmps).run P w = .ok (resV vs) w := by
  have e : results fn a.tmps = (do let vs ← fn.results.mapM (rval a.tmps); pure (if h : vs.size = 1 then vs[0] else .tuple vs)) := rfl
  rw [e, Array.mapM_eq_mapM_toList, h]
  simp only [Sem.run_bind, Sem.run_map, hr, Result.andThen_ok, Sem.run_pure]
  congr 1
  match vs with
  | [] => rfl
  | [v] => rfl
  | _ :: _ :: _ => rfl

theorem rt_ok (h : Ok w0 X A0 N bd σ a w A μ) {rn : List (Option Nat)} {fz : List Nat} {A' : Nat → Prop} {μ' : Nat → Option Loc} (hA : ∀ b, A b → A' b) (hfz : ∀ i l b, i ∈ fz → μ i = some l → l.b = some b → A' b)
    (hμ : ∀ (j i : Nat), rn[j]? = some (some i) → μ' j = μ i) (hμ0 : ∀ j : Nat, rn[j]? = some none → ∃ sz, μ' j = some ⟨none, 0, 0, sz⟩) {u r : V} {c : Value} (hr : Rt σ rn fz u r) (hu : Rv w A μ u c) : Rv w A' μ' r c := by
  have plain : u = r → r.shut = true → Rv w A' μ' r c := fun e hs => by subst e; exact .c ((shut_rc hu hs).mono hA (fun _ _ _ h => h))
  cases r with
  | own j len =>
    simp only [Rt] at hr
    split at hr
    · rename_i i hi
      subst hr
      obtain ⟨l, hl, rfl, rfl⟩ := hu.own_inv
      exact .own _ l (by rw [hμ _ _ hi]; exact hl)
    · rename_i hi
      obtain ⟨rfl, rfl⟩ := hr
      obtain ⟨sz, hs⟩ := hμ0 _ hi
      have := hu.nil_inv; subst this
      exact .own _ ⟨none, 0, 0, sz⟩ hs
    · exact hr.elim
  | sl sz n xs =>
    rcases hr with rfl | ⟨rfl, rfl, rfl⟩ | ⟨i, len, e, ⟨rfl, rfl⟩, hm, hf⟩
    · exact plain rfl rfl
    · have := hu.nil_inv; subst this
      exact .c (.sl sz 0 [] rfl none 0 (fun _ => undef) (Nat.le_refl _) (fun _ h => (by cases h)) (fun h => absurd rfl h) (fun _ k u _ hk => (by simp at hk)) (fun k u hk => (by simp at hk)) (fun k u hk => (by simp at hk)))
    · obtain ⟨l, hl, rfl, rfl⟩ := hu.own_inv
      obtain ⟨l', hl', hob, _⟩ := h.ob i _ hm
      rw [hl] at hl'; injection hl' with hl'; subst hl'
      exact .c (rc_arr hob hA (fun b hb => hfz i l b hf hl hb))
  | agg xs => exact hr.elim
  | tup xs => exact hr.elim
  | bp j off =>
    simp only [Rt] at hr
    split at hr
    · rename_i i hi
      subst hr
      obtain ⟨l, b, hl, hb, rfl⟩ := hu.bp_inv
      exact .bp _ off l b (by rw [hμ _ _ hi]; exact hl) hb
    · exact hr.elim
  | ep i j off => exact hr.elim
  | cf f i => exact hr.elim
  | und => exact .c (.und _)
  | _ => exact plain hr rfl
theorem rtL_get {rn : List (Option Nat)} {fz : List Nat} : ∀ (us rs : List V), RtL σ rn fz us rs → us.length = rs.length ∧ ∀ (i : Nat) (u r : V), us[i]? = some u → rs[i]? = some r → Rt σ rn fz u r
  | [], l, h => by simp only [RtL] at h; subst h; exact ⟨rfl, fun i u x hu => by simp at hu⟩
  | u :: us, l, h => by
    obtain ⟨x, xs, rfl, h1, h2⟩ := h
    obtain ⟨g1, g2⟩ := rtL_get us xs h2
    refine ⟨by simp [g1], fun i u' x' hu hx => ?_⟩
    cases i with
    | zero => simp at hu hx; subst hu; subst hx; exact h1
    | succ i => exact g2 i u' x' (by simpa using hu) (by simpa using hx)
theorem rtAL_get {rn : List (Option Nat)} {fz : List Nat} : ∀ (us rs : List V), RtAL σ rn fz us rs → us.length = rs.length ∧ ∀ (i : Nat) (u r : V), us[i]? = some u → rs[i]? = some r → RtA σ rn fz u r
  | [], l, h => by simp only [RtAL] at h; subst h; exact ⟨rfl, fun i u x hu => by simp at hu⟩
  | u :: us, l, h => by
    obtain ⟨x, xs, rfl, h1, h2⟩ := h
    obtain ⟨g1, g2⟩ := rtAL_get us xs h2
    refine ⟨by simp [g1], fun i u' x' hu hx => ?_⟩
    cases i with
    | zero => simp at hu hx; subst hu; subst hx; exact h1
    | succ i => exact g2 i u' x' (by simpa using hu) (by simpa using hx)
theorem rtA_ok (h : Ok w0 X A0 N bd σ a w A μ) {rn : List (Option Nat)} {fz : List Nat} {A' : Nat → Prop} {μ' : Nat → Option Loc} (hA : ∀ b, A b → A' b) (hfz : ∀ i l b, i ∈ fz → μ i = some l → l.b = some b → A' b)
    (hμ : ∀ (j i : Nat), rn[j]? = some (some i) → μ' j = μ i) (hμ0 : ∀ j : Nat, rn[j]? = some none → ∃ sz, μ' j = some ⟨none, 0, 0, sz⟩) {u r : V} {c : Value} (hr : RtA σ rn fz u r) (hu : Rv w A μ u c) : Rv w A' μ' r c := by
  by_cases hx : ∃ xs, r = .agg xs
  · obtain ⟨rs, rfl⟩ := hx
    obtain ⟨us, rfl, hl⟩ := hr
    obtain ⟨cs, rfl, hs, hc⟩ := hu.agg_inv
    obtain ⟨g1, g2⟩ := rtL_get _ _ hl
    refine .agg rs cs (by omega) (fun i y c hy hcc => ?_)
    have hlt : i < us.length := by rw [g1]; exact (List.getElem?_eq_some_iff.1 hy).1
    exact rt_ok h hA hfz hμ hμ0 (g2 i _ y (List.getElem?_eq_getElem hlt) hy) (hc i _ c (List.getElem?_eq_getElem hlt) hcc)
  · have e : RtA σ rn fz u r = Rt σ rn fz u r := by cases r <;> first | rfl | exact absurd ⟨_, rfl⟩ hx
    rw [e] at hr
    exact rt_ok h hA hfz hμ hμ0 hr hu

theorem acalls_of {f : FuncId} {fn : Func} {c : Code} (hT : TOk P T) (hP : P.follows .mixedOrders = true) (hf : P.funcs[f]? = some fn) (hb : fn.body = some c) (hnm : (fn.name == "runtime.NumGoroutine") = false) (rs : List ResultVar) (hres : fn.results.toList = rs)
    (hcode : codeOk fn.ntmps c = true) {mi mo : List Ob} {Vs : List V} {r : V} (hn : Vs.length ≤ fn.ntmps) (J : Jt) (hJ : J.fok mi.length = true) (h0 : natF mi.length fun n => awp P G T c J (Ret T rs mi mo r) (St.startN n mi Vs)) : ACalls P G f mi Vs mo r := by
  refine ⟨⟨fn, hf, hnm, by rw [hb]; rfl⟩, fun w A μ vs hsz hargs hAlt hGl hobj => ?_⟩
  have h : awp P G T c J (Ret T rs mi mo r) (St.start mi Vs) := by rw [natF_eq] at h0; exact h0
  let X : Nat → Prop := blk μ mi.length
  have hstart : Ok w X A fn.ntmps (fun j => j < (St.start mi Vs).next) (St.start mi Vs) { tmps := vs ++ Array.replicate (fn.ntmps - vs.size) undef, defers := [] } w A μ := by
    refine ⟨by simp; omega, rfl, fun t => ?_, rfl, rfl, rfl, Nat.le_refl _, fun _ _ _ => rfl, fun b hb => ⟨hAlt b hb, .inl hb⟩, fun _ h => h, fun i ob hi => ?_, fun i j li lj b hi hj h1 h2 h3 h4 => ?_, fun i hi => hobj.bd i hi⟩
    · show Rv w A μ ((Vs[t]?).getD .und) _
      cases hV : Vs[t]? with
      | none => exact .c (.und _)
      | some x =>
        have hlt : t < vs.size := by rw [hsz]; exact (List.getElem?_eq_some_iff.1 hV).1
        have e : (vs ++ Array.replicate (fn.ntmps - vs.size) undef).getD t undef = vs[t] := by
          simp [Array.getD_eq_getD_getElem?, Array.getElem?_append, hlt]
        rw [e]
        exact hargs t x _ hV (Array.getElem?_eq_getElem hlt)
    · obtain ⟨l, h1, h2, h3⟩ := hobj.ob i ob hi
      exact ⟨l, h1, h2, fun b hb => ⟨(h3 b hb).1, (h3 b hb).2.1, .inl ⟨i, l, (List.getElem?_eq_some_iff.1 hi).1, h1, hb⟩⟩⟩
    · obtain ⟨oi, hoi⟩ := Option.ne_none_iff_exists'.1 hi
      obtain ⟨oj, hoj⟩ := Option.ne_none_iff_exists'.1 hj
      exact hobj.ap i j li lj b (List.getElem?_eq_some_iff.1 hoi).1 (List.getElem?_eq_some_iff.1 hoj).1 h1 h2 h3 h4
  refine calls_of_wp hf hb (wp_mono (awp_sound hT (fun g o hg => ⟨(hGl g o hg).1, hAlt g (hGl g o hg).1, fun ⟨m, l, hm, hl, hb⟩ => (by
      obtain ⟨l', hl', _, hbb⟩ := hobj.ob m _ (List.getElem?_eq_getElem hm)
      rw [hl] at hl'; injection hl' with hl'; subst hl'
      exact (hbb g hb).2.1 (hGl g o hg).1), (hGl g o hg).2⟩) hP c hcode J hJ _ _ _ w A μ h hstart (fun b ⟨m, l, hm, hl, hb⟩ => ⟨m, l, hm, hl, hb⟩)) (fun e a' w' ⟨g1, g2, σ', g3, A1, μ1, g4, g5⟩ => ?_))
  have main : rvs T σ' rs (RetOk mi mo r σ') → a'.defers = [] ∧ ∃ v, (results fn a'.tmps).run P w' = .ok v w' ∧ ∃ v' A' μ', Ending.returned v = .returned v' ∧ Post w A μ mi.length mo r v' w' A' μ' := fun hrv => by
    obtain ⟨us, vls, ⟨rn, fz, k1, k2, k3, k4, k5, k6, k7, k9⟩, q1, q2, q3, q4⟩ := rvs_run hT g4 rs _ hrv
    refine ⟨g4.df, _, results_run hres q1, ?_⟩
    let A' : Nat → Prop := fun b => A1 b ∨ ∃ i l, i ∈ fz ∧ μ1 i = some l ∧ l.b = some b ∧ σ'.mem i ≠ none
    let μ' : Nat → Option Loc := fun j => match rn[j]? with
      | some (some i) => μ1 i
      | some none => (match mo[j]? with | some (.arr e sz _) => some ⟨none, 0, 0, sz⟩ | _ => none)
      | none => none
    have hμ : ∀ (j i : Nat), rn[j]? = some (some i) → μ' j = μ1 i := fun j i hj => by show (match rn[j]? with | some (some i) => μ1 i | some none => _ | none => none) = _; rw [hj]
    have hμ0 : ∀ j : Nat, rn[j]? = some none → ∃ sz, μ' j = some ⟨none, 0, 0, sz⟩ := fun j hj => by
      obtain ⟨e, sz, hm⟩ := k5 j hj
      exact ⟨sz, by show (match rn[j]? with | some (some i) => μ1 i | some none => (match mo[j]? with | some (.arr e sz _) => some (⟨none, 0, 0, sz⟩ : Loc) | _ => none) | none => none) = _; rw [hj, hm]⟩
    -- frozen objects are the function's own
    have hfr : ∀ b, (∃ i l, i ∈ fz ∧ μ1 i = some l ∧ l.b = some b ∧ σ'.mem i ≠ none) → b < w'.heap.size ∧ w.heap.size ≤ b := fun b ⟨i, l, h1, h2, h3, h4⟩ => by
      obtain ⟨ob, hob⟩ := Option.ne_none_iff_exists'.1 h4
      obtain ⟨l', hl', _, hbb⟩ := g4.ob i ob hob
      rw [h2] at hl'; injection hl' with hl'; subst hl'
      obtain ⟨q1, _, q3⟩ := hbb b h3
      refine ⟨q1, q3.resolve_left (fun ⟨m, lm, hm, hlm, hbm⟩ => ?_)⟩
      have hrm := k7 m hm
      have hml : m < mo.length := by rw [← k2]; exact (List.getElem?_eq_some_iff.1 hrm).1
      have := g4.ap i m l lm b h4 (by rw [k4 m m hrm, List.getElem?_eq_getElem hml]; simp) h2 (g5.mu m lm hlm) h3 hbm
      subst this
      exact k9 i h1 (List.mem_filterMap.2 ⟨some i, List.mem_of_getElem? hrm, rfl⟩)
    have hval : ∀ {u x : V} {c : Value}, RtA σ' rn fz u x → Rv w' A1 μ1 u c → Rv w' A' μ' x c := fun {u x c} hr hu => by
      -- only objects that are there count
      have hr' : RtA σ' rn (fz.filter (fun i => (σ'.mem i).isSome)) u x := by
        have one : ∀ {u x : V}, Rt σ' rn fz u x → Rt σ' rn (fz.filter (fun i => (σ'.mem i).isSome)) u x := fun {u x} hr => by
          cases x <;> try exact hr
          rcases hr with h | h | ⟨i, len, e, h1, h2, h3⟩
          · exact .inl h
          · exact .inr (.inl h)
          · exact .inr (.inr ⟨i, len, e, h1, h2, List.mem_filter.2 ⟨h3, by rw [h2]; rfl⟩⟩)
        have many : ∀ (us rs : List V), RtL σ' rn fz us rs → RtL σ' rn (fz.filter (fun i => (σ'.mem i).isSome)) us rs := fun us => by
          induction us with
          | nil => exact fun rs h => h
          | cons u us ih => exact fun rs ⟨r, rs', h1, h2, h3⟩ => ⟨r, rs', h1, one h2, ih _ h3⟩
        by_cases hx : ∃ xs, x = .agg xs
        · obtain ⟨xs, rfl⟩ := hx
          obtain ⟨us, h1, h2⟩ := hr
          exact ⟨us, h1, many _ _ h2⟩
        · have e : ∀ fz, RtA σ' rn fz u x = Rt σ' rn fz u x := fun fz => by cases x <;> first | rfl | exact absurd ⟨_, rfl⟩ hx
          rw [e] at hr ⊢
          exact one hr
      refine rtA_ok g4 (fun b hb => .inl hb) (fun i l b hi hl hb => .inr ⟨i, l, (List.mem_filter.1 hi).1, hl, hb, ?_⟩) hμ hμ0 hr' hu
      have := (List.mem_filter.1 hi).2
      intro e; rw [e] at this; cases this
    refine ⟨_, A', μ', rfl, ⟨g4.os, g4.tape, g4.out, g4.size, g4.old, fun b hb => ?_, fun b hb => .inl (g4.sub b hb), ?_, fun m hm => ?_, ⟨fun m ob hm => ?_, fun i j li lj b hi hj h1 h2 h3 h4 => ?_, fun i hi => ?_⟩⟩⟩
    · rcases hb with hb | hb
      · exact g4.hA b hb
      · exact ⟨(hfr b hb).1, .inr (hfr b hb).2⟩
    · -- the value
      clear q1
      match us, vls, q3, k1, q4 with
      | [u], [v], _, k1, q4 => exact hval k1 (q4 0 u v rfl rfl)
      | [], [], _, ⟨xs, e, hl⟩, q4 =>
        subst e
        obtain ⟨p1, p2⟩ := rtAL_get _ _ hl
        exact .tup xs _ (by simpa using p1) (fun i x c hx hc => by simp at hc)
      | u1 :: u2 :: us, v1 :: v2 :: vls, hlen, ⟨xs, e, hl⟩, q4 =>
        subst e
        obtain ⟨p1, p2⟩ := rtAL_get _ _ hl
        refine .tup xs _ (by simp at hlen p1 ⊢; omega) (fun i x c hx hc => ?_)
        have hc' : (v1 :: v2 :: vls)[i]? = some c := by simpa using hc
        have hlt : i < (u1 :: u2 :: us).length := by rw [p1]; exact (List.getElem?_eq_some_iff.1 hx).1
        exact hval (p2 i _ x (List.getElem?_eq_getElem hlt) hx) (q4 i _ c (List.getElem?_eq_getElem hlt) hc')
    · rw [hμ m m (k7 m hm)]
      cases hμm : μ m with
      | none =>
        obtain ⟨l, hl, _⟩ := hobj.ob m _ (List.getElem?_eq_getElem hm)
        rw [hμm] at hl; cases hl
      | some l => exact g5.mu m l hμm
    · have hml : m < rn.length := by rw [k2]; exact (List.getElem?_eq_some_iff.1 hm).1
      have hia := List.all_eq_true.1 k6 ob (List.mem_of_getElem? hm)
      cases hr : rn[m]? with
      | none => rw [List.getElem?_eq_none_iff] at hr; omega
      | some q =>
        cases q with
        | some i =>
          obtain ⟨l, hl, ho, hbb⟩ := g4.ob i ob (by rw [k4 m i hr]; exact hm)
          refine ⟨l, by rw [hμ m i hr]; exact hl, ?_, fun b hb => ⟨(hbb b hb).1, fun hA => ?_, (hbb b hb).2.2⟩⟩
          · exact ObOk.mono (w := w') (fun b hb => .inl hb) (fun _ _ _ h => h) (fun i l h => h) (fun _ _ => rfl) (show ObOk w' A1 μ' l ob from ObOk.re hia ho)
          · next _ =>
            · rcases hA with hA | ⟨i2, l2, p1, p2, p3, p4⟩
              · exact (hbb b hb).2.1 hA
              · have := g4.ap i i2 l l2 b (by rw [k4 m i hr, hm]; simp) p4 hl p2 hb p3
                subst this
                exact k9 i p1 (List.mem_filterMap.2 ⟨some i, List.mem_of_getElem? hr, rfl⟩)
        | none =>
          obtain ⟨e, sz, hM⟩ := k5 m hr
          rw [hm] at hM; injection hM with hM; subst hM
          refine ⟨⟨none, 0, 0, sz⟩, ?_, ⟨rfl, rfl, fun _ h => (by cases h), [], ⟨by simp, .inl ⟨rfl, rfl⟩⟩, fun _ h => (by cases h), fun k u c hk => by simp at hk⟩, fun b hb => by cases hb⟩
          show (match rn[m]? with | some (some i) => μ1 i | some none => (match mo[m]? with | some (.arr e sz _) => some (⟨none, 0, 0, sz⟩ : Loc) | _ => none) | none => none) = _
          rw [hr, hm]
    · have at1 : ∀ (i : Nat) (l : Loc) (b : Nat), i < mo.length → μ' i = some l → l.b = some b → ∃ k, rn[i]? = some (some k) ∧ μ1 k = some l ∧ σ'.mem k ≠ none := fun i l b hi h1 hb => by
        have hil : i < rn.length := by omega
        cases hr : rn[i]? with
        | none => rw [List.getElem?_eq_none_iff] at hr; omega
        | some q =>
          cases q with
          | some k => exact ⟨k, rfl, by rw [← hμ i k hr]; exact h1, by rw [k4 i k hr, List.getElem?_eq_getElem hi]; simp⟩
          | none =>
            obtain ⟨sz, hs⟩ := hμ0 i hr
            rw [hs] at h1; injection h1 with h1; subst h1; cases hb
      obtain ⟨ki, p1, p2, p3⟩ := at1 i li b hi h1 h3
      obtain ⟨kj, r1, r2, r3⟩ := at1 j lj b hj h2 h4
      have := g4.ap ki kj li lj b p3 r3 p2 r2 h3 h4
      subst this
      exact rn_inj rn k3 i j ki p1 r1
    · cases hr : rn[i]? with
      | none =>
        exfalso; apply hi
        show (match rn[i]? with | some (some i) => μ1 i | some none => _ | none => none) = _
        rw [hr]
      | some q => have := (List.getElem?_eq_some_iff.1 hr).1; omega
  cases e with
  | normal => exact main g3
  | ret => exact main g3
  | exit id => exact g3.elim
  | goto l => exact g3.elim
  | panic c => exact absurd rfl (g1 c)
  | outgrown => exact absurd rfl g2
end
end Go.Aw

set_option linter.unusedVariables false
namespace Go.Aw
def veq : V → V → Bool
  | .int k n, .int k' n' => decide (k = k') && decide (n = n')
  | .bool a, .bool b => decide (a = b)
  | .str a, .str b => decide (a.data.toList = b.data.toList)
  | .nil, .nil => true
  | _, _ => false
theorem veq_ok {a b : V} (h : veq a b = true) : a = b := by
  cases a <;> cases b <;> simp only [veq, Bool.and_eq_true, decide_eq_true_eq, Bool.false_eq_true] at h <;> first | exact h.elim | skip
  · obtain ⟨rfl, rfl⟩ := h; rfl
  · subst h; rfl
  · rename_i x y
    have : x = y := ByteArray.ext (Array.toList_inj.1 h)
    rw [this]
  · rfl
def veqL : List V → List V → Bool
  | [], [] => true
  | a :: xs, b :: bs => veq a b && veqL xs bs
  | _, _ => false
theorem veqL_ok : ∀ (xs bs : List V), veqL xs bs = true → xs = bs
  | [], [], _ => rfl
  | a :: xs, b :: bs, h => by
    simp only [veqL, Bool.and_eq_true] at h
    rw [veq_ok h.1, veqL_ok xs bs h.2]
  | [], _ :: _, h => by cases h
  | _ :: _, [], h => by cases h

def fldB (P : Program) : List Field → List (Nat × TypeId) → List (Nat × Nat) → Bool
  | [], [], [] => true
  | f :: fs, (off, ft) :: l, (o2, sz) :: m => Nat.beq f.offset off && Nat.beq f.type ft && Nat.beq o2 off && (match P.info? ft with | some i => Nat.beq i.size sz && Nat.blt 0 i.size | none => false) && fldB P fs l m
  | _, _, _ => false
def plcB (s : Nat) : Nat → List (Nat × Nat) → Bool
  | _, [] => true
  | n, (a, b) :: l => Nat.beq a (n * s) && Nat.beq b s && plcB s (n + 1) l
/-- what the table says of a type is so -/
def tiB (P : Program) (t : TypeId) (ti : TI) : Bool :=
  (ti.agg || Nat.beq ti.size 1) && Nat.blt 0 ti.size && Nat.blt 0 ti.bytes &&
  (match P.info? t with
    | some i => Nat.beq i.size ti.size && Nat.beq i.bytes ti.bytes && (match i.zero with | some z => veqL (z.cells.toList.map cv) ti.zero && Nat.beq z.cells.size ti.size | none => false)
    | none => false) &&
  (match P.underlying t with
    | some (.struct fs) => Nat.beq ti.alen 0 && ti.agg && !ti.sl && ti.int.isNone && !ti.str && !ti.bool && fldB P fs.toList ti.flds ti.plc
    | some (.array n e) => Nat.beq ti.alen n && ti.agg && !ti.sl && ti.int.isNone && !ti.str && !ti.bool && ti.flds.isEmpty && Nat.beq ti.elem e && (match P.info? e with | some i => plcB i.size 0 ti.plc | none => false)
    | some (.slice e) => Nat.beq ti.alen 0 && !ti.agg && ti.sl && Nat.beq ti.elem e && ti.int.isNone && !ti.str && !ti.bool && ti.flds.isEmpty
    | some (.int k) => Nat.beq ti.alen 0 && !ti.agg && !ti.sl && decide (ti.int = some k) && !ti.str && !ti.bool && ti.flds.isEmpty
    | some .string => Nat.beq ti.alen 0 && !ti.agg && !ti.sl && ti.int.isNone && ti.str && !ti.bool && ti.flds.isEmpty
    | some .bool => Nat.beq ti.alen 0 && !ti.agg && !ti.sl && ti.int.isNone && !ti.str && ti.bool && ti.flds.isEmpty
    | _ => false)
theorem fldB_ok {P : Program} : ∀ (fs : List Field) (l : List (Nat × TypeId)) (m : List (Nat × Nat)), fldB P fs l m = true →
    (∀ (f off : Nat) (ft : TypeId), l[f]? = some (off, ft) → ∃ fl, fs[f]? = some fl ∧ fl.offset = off ∧ fl.type = ft ∧ ∃ fi, P.info? ft = some fi ∧ fi.size ≠ 0) ∧ fs.mapM (fun f => (P.info? f.type).map fun i => (f.offset, i.size)) = some m
  | [], [], [], _ => ⟨fun f off ft h => by simp at h, rfl⟩
  | f :: fs, (off, ft) :: l, (o2, sz) :: m, h => by
    simp only [fldB, Bool.and_eq_true] at h
    obtain ⟨⟨⟨⟨h1, h2⟩, h3⟩, h4⟩, h5⟩ := h
    have e1 := Nat.eq_of_beq_eq_true h1
    have e2 := Nat.eq_of_beq_eq_true h2
    have e3 := Nat.eq_of_beq_eq_true h3
    obtain ⟨g1, g2⟩ := fldB_ok fs l m h5
    cases hi : P.info? ft with
    | none => rw [hi] at h4; cases h4
    | some i =>
      rw [hi] at h4
      simp only [Bool.and_eq_true] at h4
      have e4 := Nat.eq_of_beq_eq_true h4.1
      have e5 : 0 < i.size := Nat.le_of_ble_eq_true h4.2
      refine ⟨fun n off' ft' hn => ?_, ?_⟩
      · cases n with
        | zero => simp at hn; obtain ⟨rfl, rfl⟩ := hn; exact ⟨f, rfl, e1, e2, i, hi, by omega⟩
        | succ n => exact g1 n off' ft' (by simpa using hn)
      · rw [List.mapM_cons, e2, hi, g2, e1, e3]; simp [e4]
  | [], _ :: _, _, h => by cases h
  | [], [], _ :: _, h => by cases h
  | _ :: _, [], _, h => by cases h
  | _ :: _, (_, _) :: _, [], h => by cases h
theorem plcB_ok (s : Nat) : ∀ (l : List (Nat × Nat)) (n : Nat), plcB s n l = true → ∀ (i : Nat) (p : Nat × Nat), l[i]? = some p → some ((n + i) * s, s) = some p
  | [], n, _, i, p, h => by simp at h
  | (a, b) :: l, n, h, i, p, hi => by
    simp only [plcB, Bool.and_eq_true] at h
    obtain ⟨⟨h1, h2⟩, h3⟩ := h
    cases i with
    | zero => simp at hi; subst hi; rw [Nat.eq_of_beq_eq_true h1, Nat.eq_of_beq_eq_true h2, Nat.add_zero]
    | succ i =>
      have := plcB_ok s l (n + 1) h3 i p (by simpa using hi)
      rw [show n + (i + 1) = n + 1 + i by omega]; exact this
theorem tiB_ok {P : Program} {t : TypeId} {ti : TI} (h : tiB P t ti = true) : TIb P t ti := by
  simp only [tiB, Bool.and_eq_true] at h
  obtain ⟨⟨⟨⟨h1, h2⟩, h3⟩, h4⟩, h5⟩ := h
  cases hi : P.info? t with
  | none => rw [hi] at h4; cases h4
  | some i =>
    rw [hi] at h4
    simp only [Bool.and_eq_true] at h4
    obtain ⟨⟨a1, a2⟩, a3⟩ := h4
    cases hz : i.zero with
    | none => rw [hz] at a3; cases a3
    | some z =>
      rw [hz] at a3
      simp only [Bool.and_eq_true] at a3
      have ez := veqL_ok _ _ a3.1
      have es := Nat.eq_of_beq_eq_true a3.2
      have base : ∃ i z, P.info? t = some i ∧ i.size = ti.size ∧ i.bytes = ti.bytes ∧ i.zero = some z ∧ z.cells.toList.map cv = ti.zero ∧ z.cells.size = ti.size :=
        ⟨i, z, hi, Nat.eq_of_beq_eq_true a1, Nat.eq_of_beq_eq_true a2, hz, ez, es⟩
      have hone : ti.agg = false → ti.size = 1 := fun hf => by rw [hf, Bool.false_or] at h1; exact Nat.eq_of_beq_eq_true h1
      have hp : 0 < ti.size := Nat.le_of_ble_eq_true h2
      have hbp : 0 < ti.bytes := Nat.le_of_ble_eq_true h3
      cases hu : P.underlying t with
      | none => rw [hu] at h5; cases h5
      | some d =>
        rw [hu] at h5
        cases d with
        | struct fs =>
          simp only [Bool.and_eq_true, Bool.not_eq_true'] at h5
          obtain ⟨⟨⟨⟨⟨⟨c0, c1⟩, c2⟩, c3⟩, c4⟩, c5⟩, c6⟩ := h5
          obtain ⟨g1, g2⟩ := fldB_ok _ _ _ c6
          refine ⟨fun _ => ⟨z, fun n => ti.plc.toArray[n]?, ez, fun n p hn => by simpa using hn, fun parts => ?_⟩, hone, hp, hbp, base, _, hu, fun _ => .inl ⟨fs, rfl⟩, fun hf => (by rw [c1] at hf; cases hf), fun f off ft hf => ?_, fun hs => (by rw [c2] at hs; cases hs), fun k hk => (by rw [hk] at c3; cases c3), fun hs => (by rw [c4] at hs; cases hs), fun hs => (by rw [c5] at hs; cases hs), fun ha => absurd ha (by rw [Nat.eq_of_beq_eq_true c0]; exact Nat.lt_irrefl _)⟩
          · unfold Program.built
            simp only [hi, hu, hz, g2]
          · obtain ⟨fl, k1, k2, k3, k4⟩ := g1 f off ft hf
            exact ⟨fs, fl, rfl, by simpa using k1, k2, k3, k4⟩
        | array n e =>
          simp only [Bool.and_eq_true, Bool.not_eq_true'] at h5
          obtain ⟨⟨⟨⟨⟨⟨⟨⟨c0, c1⟩, c2⟩, c3⟩, c4⟩, c5⟩, c6⟩, c7⟩, c8⟩ := h5
          cases hie : P.info? e with
          | none => rw [hie] at c8; cases c8
          | some ie =>
            rw [hie] at c8
            refine ⟨fun _ => ⟨z, fun n => some (n * ie.size, ie.size), ez, fun n p hn => by have := plcB_ok _ _ 0 c8 n p hn; rwa [Nat.zero_add] at this, fun parts => ?_⟩, hone, hp, hbp, base, _, hu, fun _ => .inr ⟨n, e, rfl⟩, fun hf => (by rw [c1] at hf; cases hf), fun f off ft hf => ?_, fun hs => (by rw [c2] at hs; cases hs), fun k hk => (by rw [hk] at c3; cases c3), fun hs => (by rw [c4] at hs; cases hs), fun hs => (by rw [c5] at hs; cases hs), fun _ => (by rw [Nat.eq_of_beq_eq_true c0, Nat.eq_of_beq_eq_true c7])⟩
            · unfold Program.built
              simp only [hi, hu, hz, hie]
            · rw [List.isEmpty_iff] at c6; rw [c6] at hf; simp at hf
        | slice e =>
          simp only [Bool.and_eq_true, Bool.not_eq_true'] at h5
          obtain ⟨⟨⟨⟨⟨⟨⟨c0, c1⟩, c2⟩, c3⟩, c4⟩, c5⟩, c6⟩, c7⟩ := h5
          refine ⟨fun hh => (by rw [c1] at hh; cases hh), hone, hp, hbp, base, _, hu, fun hh => (by rw [c1] at hh; cases hh), fun _ => ⟨fun _ h => (by cases h), fun _ _ h => (by cases h)⟩, fun f off ft hf => ?_, fun _ => ⟨by rw [Nat.eq_of_beq_eq_true c3], hp⟩, fun k hk => (by rw [hk] at c4; cases c4), fun hs => (by rw [c5] at hs; cases hs), fun hs => (by rw [c6] at hs; cases hs), fun ha => absurd ha (by rw [Nat.eq_of_beq_eq_true c0]; exact Nat.lt_irrefl _)⟩
          rw [List.isEmpty_iff] at c7; rw [c7] at hf; simp at hf
        | int k =>
          simp only [Bool.and_eq_true, Bool.not_eq_true', decide_eq_true_eq] at h5
          obtain ⟨⟨⟨⟨⟨⟨c0, c1⟩, c2⟩, c3⟩, c4⟩, c5⟩, c6⟩ := h5
          refine ⟨fun hh => (by rw [c1] at hh; cases hh), hone, hp, hbp, base, _, hu, fun hh => (by rw [c1] at hh; cases hh), fun _ => ⟨fun _ h => (by cases h), fun _ _ h => (by cases h)⟩, fun f off ft hf => ?_, fun hs => (by rw [c2] at hs; cases hs), fun k' hk => (by rw [c3] at hk; injection hk with hk; rw [hk]), fun hs => (by rw [c4] at hs; cases hs), fun hs => (by rw [c5] at hs; cases hs), fun ha => absurd ha (by rw [Nat.eq_of_beq_eq_true c0]; exact Nat.lt_irrefl _)⟩
          rw [List.isEmpty_iff] at c6; rw [c6] at hf; simp at hf
        | string =>
          simp only [Bool.and_eq_true, Bool.not_eq_true'] at h5
          obtain ⟨⟨⟨⟨⟨⟨c0, c1⟩, c2⟩, c3⟩, c4⟩, c5⟩, c6⟩ := h5
          refine ⟨fun hh => (by rw [c1] at hh; cases hh), hone, hp, hbp, base, _, hu, fun hh => (by rw [c1] at hh; cases hh), fun _ => ⟨fun _ h => (by cases h), fun _ _ h => (by cases h)⟩, fun f off ft hf => ?_, fun hs => (by rw [c2] at hs; cases hs), fun k hk => (by rw [hk] at c3; cases c3), fun _ => rfl, fun hs => (by rw [c5] at hs; cases hs), fun ha => absurd ha (by rw [Nat.eq_of_beq_eq_true c0]; exact Nat.lt_irrefl _)⟩
          rw [List.isEmpty_iff] at c6; rw [c6] at hf; simp at hf
        | bool =>
          simp only [Bool.and_eq_true, Bool.not_eq_true'] at h5
          obtain ⟨⟨⟨⟨⟨⟨c0, c1⟩, c2⟩, c3⟩, c4⟩, c5⟩, c6⟩ := h5
          refine ⟨fun hh => (by rw [c1] at hh; cases hh), hone, hp, hbp, base, _, hu, fun hh => (by rw [c1] at hh; cases hh), fun _ => ⟨fun _ h => (by cases h), fun _ _ h => (by cases h)⟩, fun f off ft hf => ?_, fun hs => (by rw [c2] at hs; cases hs), fun k hk => (by rw [hk] at c3; cases c3), fun hs => (by rw [c4] at hs; cases hs), fun _ => rfl, fun ha => absurd ha (by rw [Nat.eq_of_beq_eq_true c0]; exact Nat.lt_irrefl _)⟩
          rw [List.isEmpty_iff] at c6; rw [c6] at hf; simp at hf
        | _ => cases h5
def kindN (P : Program) (e : TypeId) : Nat := match P.underlying e with | some (.int _) => 1 | some .string => 2 | some .bool => 3 | _ => 0
def natsB (n : Nat) : List Nat → Nat → Bool
  | [], 0 => true
  | m :: l, k + 1 => Nat.beq m n && natsB n l k
  | _, _ => false
def eqfB (P : Program) : List Field → List Nat → Nat → Bool
  | [], [], _ => true
  | f :: fs, n :: ns, o => (!(f.name == "_") && Nat.beq f.offset o) && ((Nat.blt 0 n && Nat.beq (kindN P f.type) n) && eqfB P fs ns (o + 1))
  | _, _, _ => false
def eqB (P : Program) (t : TypeId) (ti : TI) : Bool :=
  match ti.eqk with
  | [] => true
  | n :: ns => Nat.blt 0 n && !P.eqGuardType P.depth t && (match P.underlying t with
    | some (.array m e) => Nat.beq (kindN P e) n && natsB n (n :: ns) m && (match P.info? e with | some i => Nat.beq i.size 1 | none => false)
    | some (.struct fs) => !P.stoodInHeld t && eqfB P fs.toList (n :: ns) 0
    | _ => false)
theorem natsB_ok {n : Nat} : ∀ (l : List Nat) (k : Nat), natsB n l k = true → l = List.replicate k n
  | [], 0, _ => rfl
  | m :: l, k + 1, h => by
    simp only [natsB, Bool.and_eq_true] at h
    rw [Nat.eq_of_beq_eq_true h.1, natsB_ok l k h.2]; rfl
  | [], _ + 1, h => by cases h
  | _ :: _, 0, h => by cases h
theorem run_eq1 {P : Program} {w : World} {d : Nat} {e : TypeId} {n : Nat} (hn : kindN P e = n) (h0 : 0 < n) {a b : Value} {r : Bool} (h : ceq1 n a b = some r) : (Op.equalIn (d + 1) e a b).run P w = .ok r w := by
  unfold ceq1 at h
  unfold kindN at hn
  split at h
  · rename_i k x k' y
    split at h
    · rename_i hk; subst hk; injection h with h; subst h
      split at hn <;> first | exact absurd hn (by decide) | skip
      rename_i k1 hu
      rw [run_equalIn_int w d e k k1 x y hu]; congr 1
    · cases h
  · injection h with h; subst h
    split at hn <;> first | exact absurd hn (by decide) | skip
    rename_i hu
    rw [run_equalIn_string w d e _ _ hu]; congr 1; rw [Bool.eq_iff_iff, beq_iff_eq, decide_eq_true_iff]
  · injection h with h; subst h
    split at hn <;> first | exact absurd hn (by decide) | skip
    rename_i hu
    exact run_equalIn_bool' w d e _ _ hu
  · cases h
theorem run_part1 {P : Program} {w : World} {e : TypeId} {n : Nat} (hn : kindN P e = n) (h0 : 0 < n) {xs : Array Value} {i : Nat} {v : Value} (hv : xs[i]? = some v) : (part e xs i).run P w = .ok v w := by
  have ha : (isAgg e).run P w = .ok false w := by
    unfold kindN at hn
    split at hn <;> first | exact absurd hn (by omega) | skip
    all_goals (rename_i hu; unfold isAgg; simp only [Sem.run_bind, run_underlying hu, Result.andThen_ok]; rfl)
  simp only [part, Sem.run_bind, ha, Result.andThen_ok, hv]
  rfl
theorem run_equal_arr {P : Program} {t e : TypeId} {m n : Nat} (hu : P.underlying t = some (.array m e)) (hn : kindN P e = n) (h0 : 0 < n) {i : TypeInfo} (hi : P.info? e = some i) (hs : i.size = 1) (w : World) (xs ys : Array Value) (b : Bool)
    (h : ceqL (List.replicate m n) xs.toList ys.toList = some b) : (Op.equal t (.agg xs) (.agg ys)).run P w = .ok b w := by
  have hsz : (sizeOf e).run P w = .ok 1 w := by simp [sizeOf, typeInfo, hi, hs]
  have hM : Op.equal t (.agg xs) (.agg ys) = Op.equalIn (9998 + 1 + 1) t (.agg xs) (.agg ys) := rfl
  rw [hM]
  generalize 9998 = d
  rw [Op.equalIn]
  simp only [Sem.run_bind, run_underlying hu, Result.andThen_ok, hsz]
  rw [Std.Legacy.Range.forIn_eq_forIn_range']
  have key : ∀ (k o : Nat) (b : Bool), ceqL (List.replicate k n) (xs.toList.drop o) (ys.toList.drop o) = some b →
      ∃ s : Option Bool, Sem.run P (forIn (List.range' o k 1) ((none : Option Bool), ()) fun i __s => do
        let a ← part e xs (i * 1)
        let b ← part e ys (i * 1)
        let r ← Op.equalIn (d + 1) e a b
        if (!r) = true then pure (ForInStep.done (some false, ())) else pure (ForInStep.yield (none, ()))) w = Result.ok (s, ()) w ∧ s.getD true = b := by
    intro k
    induction k with
    | zero =>
      intro o b h
      have : b = true := by
        cases hx : xs.toList.drop o <;> cases hy : ys.toList.drop o <;> rw [hx, hy] at h <;> simp [ceqL] at h
        exact h
      subst this
      exact ⟨none, by simp, rfl⟩
    | succ k ih =>
      intro o b h
      rw [List.replicate_succ] at h
      cases hx : xs.toList.drop o with
      | nil => rw [hx] at h; cases hy : ys.toList.drop o <;> rw [hy] at h <;> cases h
      | cons x xr =>
        cases hy : ys.toList.drop o with
        | nil => rw [hx, hy] at h; cases h
        | cons y yr =>
          rw [hx, hy] at h
          simp only [ceqL] at h
          split at h
          · rename_i p q e1 e2
            injection h with h; subst h
            have hxo : xs[o * 1]? = some x := by
              have := congrArg (·[0]?) hx; simpa using this
            have hyo : ys[o * 1]? = some y := by
              have := congrArg (·[0]?) hy; simpa using this
            have hxr : xs.toList.drop (o + 1) = xr := by
              have := congrArg (List.drop 1) hx; simpa [Nat.add_comm] using this
            have hyr : ys.toList.drop (o + 1) = yr := by
              have := congrArg (List.drop 1) hy; simpa [Nat.add_comm] using this
            obtain ⟨s, hh, hs⟩ := ih (o + 1) q (by rw [hxr, hyr]; exact e2)
            rw [List.range'_succ]
            simp only [List.forIn_cons, Sem.run_bind, run_part1 hn h0 hxo, run_part1 hn h0 hyo, Result.andThen_ok, run_eq1 hn h0 e1]
            cases p with
            | false => exact ⟨some false, by simp, rfl⟩
            | true => exact ⟨s, by simpa using hh, hs⟩
          · cases h
  rw [show ([:m] : Std.Legacy.Range).size = m by simp [Std.Legacy.Range.size]]
  obtain ⟨s, hh, hs⟩ := key m 0 b h
  refine (congrArg (Result.andThen · _) hh).trans ?_
  subst hs
  cases s <;> simp
theorem run_equal_str {P : Program} {t : TypeId} {fs : Array Field} {ns : List Nat} (hu : P.underlying t = some (.struct fs)) (hst : P.stoodInHeld t = false) (hf : eqfB P fs.toList ns 0 = true) (w : World) (xs ys : Array Value) (b : Bool)
    (h : ceqL ns xs.toList ys.toList = some b) : (Op.equal t (.agg xs) (.agg ys)).run P w = .ok b w := by
  have hM : Op.equal t (.agg xs) (.agg ys) = Op.equalIn (9998 + 1 + 1) t (.agg xs) (.agg ys) := rfl
  rw [hM]
  generalize 9998 = d
  rw [Op.equalIn]
  have hp : (Sem.run P program w) = .ok P w := rfl
  simp only [Sem.run_bind, run_underlying hu, Result.andThen_ok, hp, hst, if_neg Bool.false_ne_true]
  rw [← Array.forIn_toList]
  have key : ∀ (fl : List Field) (ns : List Nat) (o : Nat) (b : Bool), eqfB P fl ns o = true → ceqL ns (xs.toList.drop o) (ys.toList.drop o) = some b →
      ∃ s : Option Bool, Sem.run P (forIn fl ((none : Option Bool), ()) fun f __s =>
        if f.name ≠ "_" then do
          let a ← part f.type xs f.offset
          let b ← part f.type ys f.offset
          let r ← Op.equalIn (d + 1) f.type a b
          if (!r) = true then pure (ForInStep.done (some false, ())) else pure (ForInStep.yield (none, ()))
        else pure (ForInStep.yield (none, ()))) w = Result.ok (s, ()) w ∧ s.getD true = b := by
    intro fl
    induction fl with
    | nil =>
      intro ns o b hf h
      cases ns with
      | nil =>
        have : b = true := by
          cases hx : xs.toList.drop o <;> cases hy : ys.toList.drop o <;> rw [hx, hy] at h <;> simp [ceqL] at h
          exact h
        subst this
        exact ⟨none, by simp, rfl⟩
      | cons n ns => cases hf
    | cons f fl ih =>
      intro ns o b hf h
      cases ns with
      | nil => cases hf
      | cons n ns =>
        simp only [eqfB, Bool.and_eq_true, Bool.not_eq_true'] at hf
        obtain ⟨⟨hname, hoff⟩, ⟨h0, hn⟩, hf⟩ := hf
        have hoff := Nat.eq_of_beq_eq_true hoff
        have hn := Nat.eq_of_beq_eq_true hn
        have h0 : 0 < n := Nat.le_of_ble_eq_true h0
        have hname : f.name ≠ "_" := by rw [beq_eq_false_iff_ne] at hname; exact hname
        cases hx : xs.toList.drop o with
        | nil => rw [hx] at h; cases hy : ys.toList.drop o <;> rw [hy] at h <;> cases h
        | cons x xr =>
          cases hy : ys.toList.drop o with
          | nil => rw [hx, hy] at h; cases h
          | cons y yr =>
            rw [hx, hy] at h
            simp only [ceqL] at h
            split at h
            · rename_i p q e1 e2
              injection h with h; subst h
              have hxo : xs[f.offset]? = some x := by
                have := congrArg (·[0]?) hx; rw [hoff]; simpa using this
              have hyo : ys[f.offset]? = some y := by
                have := congrArg (·[0]?) hy; rw [hoff]; simpa using this
              have hxr : xs.toList.drop (o + 1) = xr := by
                have := congrArg (List.drop 1) hx; simpa [Nat.add_comm] using this
              have hyr : ys.toList.drop (o + 1) = yr := by
                have := congrArg (List.drop 1) hy; simpa [Nat.add_comm] using this
              obtain ⟨s, hh, hs⟩ := ih ns (o + 1) q hf (by rw [hxr, hyr]; exact e2)
              simp only [List.forIn_cons, if_pos hname, Sem.run_bind, run_part1 hn h0 hxo, run_part1 hn h0 hyo, Result.andThen_ok, run_eq1 hn h0 e1]
              cases p with
              | false => exact ⟨some false, by simp, rfl⟩
              | true => exact ⟨s, by simpa using hh, hs⟩
            · cases h
  obtain ⟨s, hh, hs⟩ := key fs.toList ns 0 b hf h
  refine (congrArg (Result.andThen · _) hh).trans ?_
  subst hs
  cases s <;> simp
theorem eqB_ok {P : Program} {t : TypeId} {ti : TI} (h : eqB P t ti = true) : ti.eqk ≠ [] → P.eqGuardType P.depth t = false ∧ ∀ (w : World) (xs ys : Array Value) (b : Bool), ceqL ti.eqk xs.toList ys.toList = some b → (Op.equal t (.agg xs) (.agg ys)).run P w = .ok b w := fun hne => by
  unfold eqB at h
  split at h
  · rename_i e; exact absurd e hne
  · rename_i n ns e
    simp only [Bool.and_eq_true, Bool.not_eq_true'] at h
    obtain ⟨⟨h1, h2⟩, h3⟩ := h
    refine ⟨h2, fun w xs ys b hb => ?_⟩
    split at h3
    · rename_i m el hu
      simp only [Bool.and_eq_true] at h3
      obtain ⟨⟨h4, h5⟩, h6⟩ := h3
      cases hi : P.info? el with
      | none => rw [hi] at h6; cases h6
      | some i =>
        rw [hi] at h6
        rw [e, natsB_ok _ _ h5] at hb
        exact run_equal_arr hu (Nat.eq_of_beq_eq_true h4) (Nat.le_of_ble_eq_true h1) hi (Nat.eq_of_beq_eq_true h6) w xs ys b hb
    · rename_i fs hu
      simp only [Bool.and_eq_true, Bool.not_eq_true'] at h3
      rw [e] at hb
      exact run_equal_str hu h3.1 h3.2 w xs ys b hb
    · cases h3
theorem tok_of {P : Program} (tab : List (TypeId × TI)) (h : tab.all (fun p => tiB P p.1 p.2 && eqB P p.1 p.2) = true) : TOk P (lk tab) := fun t ti ht => by
  have h' := List.all_eq_true.1 h _ (lk_mem _ _ _ ht)
  simp only [Bool.and_eq_true] at h'
  exact { toTIb := tiB_ok h'.1, eq := eqB_ok h'.2 }
end Go.Aw

set_option linter.unusedVariables false
namespace Go.Aw
def FE (rn : List (Option Nat)) (env : Nat → V) : List (Nat × V) → Prop
  | [] => True
  | (t, v) :: l => Mt rn (env t) v ∧ FE rn env l
def FM (mem : Nat → Option Ob) : List (Option Nat) → List Ob → Prop
  | [], [] => True
  | some i :: rn, ob :: M => mem i = some ob ∧ FM mem rn M
  | none :: rn, ob :: M => (∃ e sz, ob = .arr e sz []) ∧ FM mem rn M
  | _, _ => False
def FI (md : List Nat) (m m0 : Nat → Option Ob) : List Nat → Prop
  | [] => True
  | i :: l => match memB md i with | true => FI md m m0 l | false => m i = m0 i ∧ FI md m m0 l
def FB (rn : List (Option Nat)) (m m0 : Nat → Option Ob) : List (Nat × Ob) → Prop
  | [] => True
  | (i, p) :: l => (∃ ob, m0 i = some ob) ∧ ObMt rn (m i) p ∧ FB rn m m0 l
def ndB : List Nat → Bool
  | [] => true
  | i :: l => match memB l i with | true => false | false => ndB l
def FS (ids md : List Nat) (nx : Nat) (rn : List (Option Nat)) (B : List (Nat × Ob)) (M : List Ob) : Bool :=
  ndB (rn.filterMap id) && (rn.filterMap id).all (fun i => match memB ids i with | true => memB md i | false => true) && M.all Ob.isA &&
  B.all (fun p => memB md p.1 && Nat.blt p.1 nx && !memB (rn.filterMap id) p.1)
theorem ndB_ok : ∀ (l : List Nat), ndB l = true → l.Nodup
  | [], _ => List.nodup_nil
  | i :: l, h => by
    simp only [ndB] at h
    cases hm : memB l i with
    | true => rw [hm] at h; cases h
    | false =>
      rw [hm] at h
      exact List.nodup_cons.2 ⟨fun hi => (by rw [(memB_iff l i).2 hi] at hm; cases hm), ndB_ok l h⟩
theorem fits_of {σ0 σ : St} {md : List Nat} {E : List (Nat × V)} {B : List (Nat × Ob)} {M : List Ob} {rn : List (Option Nat)} (h1 : FE rn σ.env E) (h2 : FM σ.mem rn M) (h3 : FI md σ.mem σ0.mem σ0.ids) (h4 : FB rn σ.mem σ0.mem B) (h5 : FS σ0.ids md σ0.next rn B M = true) :
    Fits σ0 σ md E B M rn := by
  simp only [FS, Bool.and_eq_true] at h5
  obtain ⟨⟨⟨s1, s2⟩, s3⟩, s4⟩ := h5
  have e1 : ∀ (E : List (Nat × V)), FE rn σ.env E → ∀ p ∈ E, Mt rn (σ.env p.1) p.2 := fun E => by
    induction E with
    | nil => exact fun _ p hp => by cases hp
    | cons q E ih =>
        intro h p hp
        obtain ⟨a, b⟩ := h
        rcases List.mem_cons.1 hp with rfl | hp
        · exact a
        · exact ih b p hp
  have e2 : ∀ (rn : List (Option Nat)) (M : List Ob), FM σ.mem rn M → rn.length = M.length ∧ (∀ (j i : Nat), rn[j]? = some (some i) → σ.mem i = M[j]?) ∧ ∀ (j : Nat), rn[j]? = some none → ∃ e sz, M[j]? = some (.arr e sz []) := fun rn => by
    induction rn with
    | nil => intro M h; cases M with
      | nil => exact ⟨rfl, fun j i h => by simp at h, fun j h => by simp at h⟩
      | cons _ _ => exact h.elim
    | cons r rn ih =>
      intro M h
      cases M with
      | nil => cases r <;> exact h.elim
      | cons ob M =>
        cases r with
        | some i =>
          obtain ⟨a, b⟩ := h
          obtain ⟨g1, g2, g3⟩ := ih M b
          refine ⟨by simp [g1], fun j k hj => ?_, fun j hj => ?_⟩
          · cases j with
            | zero => simp at hj; subst hj; exact a
            | succ j => exact g2 j k (by simpa using hj)
          · cases j with
            | zero => simp at hj
            | succ j => exact g3 j (by simpa using hj)
        | none =>
          obtain ⟨⟨e, sz, rfl⟩, b⟩ := h
          obtain ⟨g1, g2, g3⟩ := ih M b
          refine ⟨by simp [g1], fun j k hj => ?_, fun j hj => ?_⟩
          · cases j with
            | zero => simp at hj
            | succ j => exact g2 j k (by simpa using hj)
          · cases j with
            | zero => exact ⟨e, sz, rfl⟩
            | succ j => exact g3 j (by simpa using hj)
  have e3 : ∀ (l : List Nat), FI md σ.mem σ0.mem l → ∀ i ∈ l, memB md i = true ∨ σ.mem i = σ0.mem i := fun l => by
    induction l with
    | nil => exact fun _ i hi => by cases hi
    | cons k l ih =>
      intro h i hi
      simp only [FI] at h
      cases hm : memB md k with
      | true =>
        rw [hm] at h
        rcases List.mem_cons.1 hi with rfl | hi
        · exact .inl hm
        · exact ih h i hi
      | false =>
        rw [hm] at h
        rcases List.mem_cons.1 hi with rfl | hi
        · exact .inr h.1
        · exact ih h.2 i hi
  have e4 : ∀ (B : List (Nat × Ob)), FB rn σ.mem σ0.mem B → ∀ p ∈ B, (∃ ob, σ0.mem p.1 = some ob) ∧ ObMt rn (σ.mem p.1) p.2 := fun B => by
    induction B with
    | nil => exact fun _ p hp => by cases hp
    | cons q B ih =>
        intro h p hp
        obtain ⟨a, b, c⟩ := h
        rcases List.mem_cons.1 hp with rfl | hp
        · exact ⟨a, b⟩
        · exact ih c p hp
  obtain ⟨g1, g2, g3⟩ := e2 rn M h2
  refine ⟨e1 E h1, g1, ndB_ok _ s1, fun i hi hm => ?_, g2, g3, e3 _ h3, s3, fun p hp => ?_⟩
  · have := List.all_eq_true.1 s2 i hi
    rw [hm] at this; exact this
  · obtain ⟨a, b⟩ := e4 B h4 p hp
    have := List.all_eq_true.1 s4 p hp
    simp only [Bool.and_eq_true, Bool.not_eq_true'] at this
    exact ⟨this.1.1, this.1.2, a, fun hm => (by rw [(memB_iff _ _).2 hm] at this; cases this.2), b⟩

/-- a loop, told by a family -/
theorem Lp.mk {F : (Exit → St → Prop) → St → Prop} {hv : List Tmp} {Q : Exit → St → Prop} {σ : St} {τ : Type} (I : τ → Prop) (m : τ → Nat) (md : List Nat) (E : τ → List (Nat × V)) (B : τ → List (Nat × Ob)) (M : τ → List Ob) (x : τ) (rn : List (Option Nat))
    (h0 : I x) (h1 : Fits σ σ md (E x) (B x) (M x) rn) (h2 : ∀ x, I x → headN σ hv md (E x) (B x) (M x) (F (fun e σ' => match e with | .normal => ∃ y rn, I y ∧ m y < m x ∧ Fits σ σ' md (E y) (B y) (M y) rn | e => Q e σ'))) : Lp F hv Q σ :=
  ⟨τ, I, m, md, E, B, M, ⟨x, rn, h0, h1⟩, h2⟩
/-- a call that takes data and gives data -/
theorem call_mk {P : Program} {G : Nat → Option Obj} {ck : Nat → Bool} {id : Nat} {us : List V} {m : Nat → Option Ob} {f : FuncId}  {k : V → Eff → Prop} {Vs : List V} {mo : List Ob} {r : V} (h : ACalls P G f [] Vs mo r) (ha : AvAL ck m us Vs)
    (hs : (us.all V.shutA = true) ∨ (bareV r = true ∧ ∀ ob ∈ mo, BareO ob)) (hf : r.flat = true) (hi : mo.all Ob.isA = true) (hl : mo.length ≤ 8) (hk : k (r.ren (id + ·)) (Eff.setL id mo)) : callE P G ck id us m f k := .inl ⟨Vs, mo, r, h, ha, hs, hf, hi, hl, hk⟩
end Go.Aw

set_option linter.unusedVariables false
namespace Go.Aw
theorem none_elim {α : Type} {r : α} {G : Prop} (h : (none : Option α) = some r) : G := by cases h
theorem ite_elim {α : Type} {p : Prop} [Decidable p] {a b : Option α} {r : α} {G : Prop} (h1 : p → a = some r → G) (h2 : ¬ p → b = some r → G) : (if p then a else b) = some r → G := fun h => by
  by_cases c : p
  · rw [if_pos c] at h; exact h1 c h
  · rw [if_neg c] at h; exact h2 c h
theorem ite_elimB {α : Type} {q : Bool} {a b : Option α} {r : α} {G : Prop} (h1 : q = true → a = some r → G) (h2 : q = false → b = some r → G) : (if q = true then a else b) = some r → G := fun h => by
  cases q
  · exact h2 rfl h
  · exact h1 rfl h
theorem bind_elim {α β : Type} {o : Option α} {g : α → Option β} {r : β} {G : Prop} (h : ∀ t, o = some t → g t = some r → G) : o.bind g = some r → G := fun hb => by
  cases o with
  | none => cases hb
  | some t => exact h t rfl hb
/-- a test that the way decides -/
theorem ft_ {b : Bool} (h : b = true := by
    first | with_reducible assumption | with_reducible exact decide_eq_true (by with_reducible assumption) | (simp only [List.length_map, Bool.not_eq_true', Bool.not_eq_false', decide_eq_true_eq, decide_eq_false_iff_not]; first | with_reducible assumption | omega) | rfl) : b = true := h
theorem ff_ {b : Bool} (h : b = false := by
    first | with_reducible assumption | with_reducible exact decide_eq_false (by with_reducible assumption) | (simp only [List.length_map, Bool.not_eq_true', Bool.not_eq_false', decide_eq_true_eq, decide_eq_false_iff_not]; first | with_reducible assumption | omega) | rfl) : b = false := h
theorem nf_ {p : Prop} (h : p := by
    first | with_reducible assumption | omega | (simp only [List.length_set, List.length_map, List.length_cons, List.length_nil, List.length_replicate, List.length_append, List.length_take] <;> first | with_reducible assumption | omega) | (simp only [List.length_map, List.length_cons, List.length_nil, List.length_replicate] at * <;> first | with_reducible assumption | omega)) : p := h

theorem avAL_nil {ck : Nat → Bool} {m : Nat → Option Ob} : AvAL ck m [] [] := rfl
theorem avAL_cons {ck : Nat → Bool} {m : Nat → Option Ob} {u x : V} {us xs : List V} (h : AvA ck m u x) (t : AvAL ck m us xs) : AvAL ck m (u :: us) (x :: xs) := ⟨x, xs, rfl, h, t⟩
theorem avL_nil {ck : Nat → Bool} {m : Nat → Option Ob} : AvL ck m [] [] := rfl
theorem avL_cons {ck : Nat → Bool} {m : Nat → Option Ob} {u x : V} {us xs : List V} (h : Av ck m u x) (t : AvL ck m us xs) : AvL ck m (u :: us) (x :: xs) := ⟨x, xs, rfl, h, t⟩
theorem avA_agg {ck : Nat → Bool} {m : Nat → Option Ob} {us xs : List V} (h : AvL ck m us xs) : AvA ck m (.agg us) (.agg xs) := ⟨xs, rfl, h⟩
theorem av_shut' {ck : Nat → Bool} {m : Nat → Option Ob} {u : V} (h : u.shut = true) : Av ck m u u := by
  cases u <;> first | rfl | exact .inl rfl | cases h
theorem avA_shut' {ck : Nat → Bool} {m : Nat → Option Ob} {u : V} (h : u.shut = true) : AvA ck m u u := by
  cases u <;> first | rfl | exact .inl rfl | cases h
theorem av_own {ck : Nat → Bool} {m : Nat → Option Ob} {i len : Nat} {e sz : Nat} {xs : List (List V)} (hc : ck i = true) (hm : m i = some (.arr e sz xs)) : Av ck m (.own i len) (.sl sz len xs) := by
  unfold Av; simp only [hc, hm]; exact ⟨len, .inl rfl, rfl⟩
theorem avA_own {ck : Nat → Bool} {m : Nat → Option Ob} {i len : Nat} {e sz : Nat} {xs : List (List V)} (hc : ck i = true) (hm : m i = some (.arr e sz xs)) : AvA ck m (.own i len) (.sl sz len xs) := av_own (len := len) hc hm
theorem av_nil {ck : Nat → Bool} {m : Nat → Option Ob} {sz : Nat} : Av ck m .nil (.sl sz 0 []) := .inr ⟨sz, rfl⟩
theorem avA_nil {ck : Nat → Bool} {m : Nat → Option Ob} {sz : Nat} : AvA ck m .nil (.sl sz 0 []) := .inr ⟨sz, rfl⟩

theorem rtL_nil {σ : St} {rn : List (Option Nat)} {fz : List Nat} : RtL σ rn fz [] [] := rfl
theorem rtL_cons {σ : St} {rn : List (Option Nat)} {fz : List Nat} {u r : V} {us rs : List V} (h : Rt σ rn fz u r) (t : RtL σ rn fz us rs) : RtL σ rn fz (u :: us) (r :: rs) := ⟨r, rs, rfl, h, t⟩
theorem rtAL_nil {σ : St} {rn : List (Option Nat)} {fz : List Nat} : RtAL σ rn fz [] [] := rfl
theorem rtAL_cons {σ : St} {rn : List (Option Nat)} {fz : List Nat} {u r : V} {us rs : List V} (h : RtA σ rn fz u r) (t : RtAL σ rn fz us rs) : RtAL σ rn fz (u :: us) (r :: rs) := ⟨r, rs, rfl, h, t⟩
theorem rtA_agg {σ : St} {rn : List (Option Nat)} {fz : List Nat} {us rs : List V} (h : RtL σ rn fz us rs) : RtA σ rn fz (.agg us) (.agg rs) := ⟨us, rfl, h⟩
theorem rt_eq {σ : St} {rn : List (Option Nat)} {fz : List Nat} {u : V} (h : (match u with | .own .. | .agg _ | .tup _ | .bp .. | .ep .. | .cf .. => false | _ => true) = true) : Rt σ rn fz u u := by
  cases u <;> first | rfl | exact .inl rfl | cases h
theorem rtA_eq {σ : St} {rn : List (Option Nat)} {fz : List Nat} {u : V} (h : (match u with | .own .. | .agg _ | .tup _ | .bp .. | .ep .. | .cf .. => false | _ => true) = true) : RtA σ rn fz u u := by
  cases u <;> first | rfl | exact .inl rfl | cases h
theorem rt_nil {σ : St} {rn : List (Option Nat)} {fz : List Nat} {sz : Nat} : Rt σ rn fz .nil (.sl sz 0 []) := .inr (.inl ⟨rfl, rfl, rfl⟩)
theorem rtA_nil {σ : St} {rn : List (Option Nat)} {fz : List Nat} {sz : Nat} : RtA σ rn fz .nil (.sl sz 0 []) := .inr (.inl ⟨rfl, rfl, rfl⟩)
theorem rtA_fz {σ : St} {rn : List (Option Nat)} {fz : List Nat} {i len e sz : Nat} {xs : List (List V)} (h : σ.mem i = some (.arr e sz xs)) (hf : i ∈ fz) : RtA σ rn fz (.own i len) (.sl sz len xs) := .inr (.inr ⟨i, len, e, ⟨rfl, rfl⟩, h, hf⟩)
theorem rt_fz {σ : St} {rn : List (Option Nat)} {fz : List Nat} {i len e sz : Nat} {xs : List (List V)} (h : σ.mem i = some (.arr e sz xs)) (hf : i ∈ fz) : Rt σ rn fz (.own i len) (.sl sz len xs) := .inr (.inr ⟨i, len, e, ⟨rfl, rfl⟩, h, hf⟩)
/-- one result, no object given -/
theorem ret_fz {r u : V} {σ : St} (fz : List Nat) (h : RtA σ [] fz u r) : RetOk [] [] r σ [u] :=
  ⟨[], fz, h, rfl, List.nodup_nil, fun j i h => (by simp at h), fun j h => (by simp at h), rfl, fun m h => (by simp at h), fun i _ h => (by cases h)⟩
theorem ret_tup {u1 u2 : V} {us rs : List V} {σ : St} (fz : List Nat) (h : RtAL σ [] fz (u1 :: u2 :: us) rs) : RetOk [] [] (.tup rs) σ (u1 :: u2 :: us) :=
  ⟨[], fz, ⟨rs, rfl, h⟩, rfl, List.nodup_nil, fun j i h => (by simp at h), fun j h => (by simp at h), rfl, fun m h => (by simp at h), fun i _ h => (by cases h)⟩
/-- one slice of the function's own -/
theorem ret_own {i len e sz : Nat} {xs : List (List V)} {σ : St} (h : σ.mem i = some (.arr e sz xs)) : RetOk [] [.arr e sz xs] (.own 0 len) σ [.own i len] :=
  ⟨[some i], [], rfl, rfl, (by simp), fun j k hj => (by cases j with
    | zero => simp at hj; subst hj; exact h
    | succ j => simp at hj), fun j hj => (by cases j with
    | zero => simp at hj
    | succ j => simp at hj), rfl, fun m h => (by simp at h), fun i h => (by cases h)⟩
theorem ret_own0 {e sz : Nat} {σ : St} : RetOk [] [.arr e sz []] (.own 0 0) σ [.nil] :=
  ⟨[none], [], ⟨rfl, rfl⟩, rfl, (by simp), fun j k hj => (by cases j with
    | zero => simp at hj
    | succ j => simp at hj), fun j hj => (by cases j with
    | zero => exact ⟨e, sz, rfl⟩
    | succ j => simp at hj), rfl, fun m h => (by simp at h), fun i h => (by cases h)⟩

theorem chk_ {α : Type} {p : Prop} [Decidable p] {A : Option α} {r : α} {X : Prop} (H : (if p then A else none) = some r) (h : p → A = some r → X) : X := by
  by_cases c : p
  · rw [if_pos c] at H; exact h c H
  · rw [if_neg c] at H; cases H
theorem FM_ok {mem : Nat → Option Ob} : ∀ (rn : List (Option Nat)) (M : List Ob), FM mem rn M → rn.length = M.length ∧ (∀ (j i : Nat), rn[j]? = some (some i) → mem i = M[j]?) ∧ ∀ (j : Nat), rn[j]? = some none → ∃ e sz, M[j]? = some (.arr e sz [])
  | [], [], _ => ⟨rfl, fun j i h => by simp at h, fun j h => by simp at h⟩
  | [], _ :: _, h => h.elim
  | some _ :: _, [], h => h.elim
  | none :: _, [], h => h.elim
  | some i :: rn, ob :: M, ⟨a, b⟩ => by
    obtain ⟨g1, g2, g3⟩ := FM_ok rn M b
    refine ⟨by simp [g1], fun j k hj => ?_, fun j hj => ?_⟩
    · cases j with
      | zero => simp at hj; subst hj; exact a
      | succ j => exact g2 j k (by simpa using hj)
    · cases j with
      | zero => simp at hj
      | succ j => exact g3 j (by simpa using hj)
  | none :: rn, ob :: M, ⟨⟨e, sz, h⟩, b⟩ => by
    subst h
    obtain ⟨g1, g2, g3⟩ := FM_ok rn M b
    refine ⟨by simp [g1], fun j k hj => ?_, fun j hj => ?_⟩
    · cases j with
      | zero => simp at hj
      | succ j => exact g2 j k (by simpa using hj)
    · cases j with
      | zero => exact ⟨e, sz, rfl⟩
      | succ j => exact g3 j (by simpa using hj)
/-- the first n are kept under their numbers -/
def pre (m : Nat) : Nat → List (Option Nat) → Bool
  | 0, _ => true
  | n + 1, some i :: l => Nat.beq i m && pre (m + 1) n l
  | _ + 1, _ => false
theorem pre_ok : ∀ (n m : Nat) (l : List (Option Nat)), pre m n l = true → ∀ j, j < n → l[j]? = some (some (m + j))
  | 0, m, l, _, j, hj => absurd hj (Nat.not_lt_zero j)
  | n + 1, m, [], h, j, hj => by cases h
  | n + 1, m, none :: l, h, j, hj => by cases h
  | n + 1, m, some i :: l, h, j, hj => by
    simp only [pre, Bool.and_eq_true] at h
    cases j with
    | zero => rw [Nat.eq_of_beq_eq_true h.1]; rfl
    | succ j =>
      have := pre_ok n (m + 1) l h.2 j (Nat.lt_of_succ_lt_succ hj)
      rw [show m + (j + 1) = m + 1 + j by omega]; simpa using this
def RB (rn : List (Option Nat)) (fz : List Nat) (n : Nat) (mo : List Ob) : Bool :=
  ndB (rn.filterMap id) && mo.all Ob.isA && pre 0 n rn && fz.all (fun i => !memB (rn.filterMap id) i)
theorem ret_gen {mi mo : List Ob} {r : V} {σ : St} {us : List V} (rn : List (Option Nat)) (fz : List Nat) (h : match us with | [u] => RtA σ rn fz u r | us => ∃ xs, r = .tup xs ∧ RtAL σ rn fz us xs) (hm : FM σ.mem rn mo) (hb : RB rn fz mi.length mo = true) : RetOk mi mo r σ us := by
  simp only [RB, Bool.and_eq_true] at hb
  obtain ⟨⟨⟨b1, b2⟩, b3⟩, b5⟩ := hb
  obtain ⟨g1, g2, g3⟩ := FM_ok rn mo hm
  refine ⟨rn, fz, h, g1, ndB_ok _ b1, g2, g3, b2, fun m hm => ?_, fun i hi hc => ?_⟩
  · have := pre_ok _ 0 rn b3 m hm
    rwa [Nat.zero_add] at this
  · have := List.all_eq_true.1 b5 i hi
    rw [(memB_iff _ _).2 hc] at this; cases this
def MI (m : Nat → Option Ob) : List Nat → List Ob → Prop
  | [], [] => True
  | i :: ids, ob :: mi => m i = some ob ∧ MI m ids mi
  | _, _ => False
theorem MI_ok {m : Nat → Option Ob} : ∀ (ids : List Nat) (mi : List Ob), MI m ids mi → ids.length = mi.length ∧ ∀ (n i : Nat), ids[n]? = some i → m i = mi[n]?
  | [], [], _ => ⟨rfl, fun n i h => by simp at h⟩
  | [], _ :: _, h => h.elim
  | _ :: _, [], h => h.elim
  | k :: ids, ob :: mi, ⟨a, b⟩ => by
    obtain ⟨g1, g2⟩ := MI_ok ids mi b
    refine ⟨by simp [g1], fun n i h => ?_⟩
    cases n with
    | zero => simp at h; subst h; exact a
    | succ n => exact g2 n i (by simpa using h)
/-- a call that writes into objects of the caller's own -/
theorem call_mk2 {P : Program} {G : Nat → Option Obj} {ck : Nat → Bool} {id : Nat} {us : List V} {m : Nat → Option Ob} {f : FuncId}  {k : V → Eff → Prop} {Vs : List V} {mi mo : List Ob} {r : V} (ids : List Nat) (h : ACalls P G f mi Vs mo r)
    (hm : MI m ids mi) (hlo : Nat.beq mo.length mi.length = true) (hnd : ndB ids = true) (hck : ids.all ck = true) (hck2 : ck 1000000007 = true) (harr : (mi ++ mo).all Ob.isA = true) (ha : us = Vs.map (V.ren fun n => ids.getD n 0))
    (hV : Vs.all (fun v => v.flat2 && v.refs ids.length) = true) (hr : V.clo r = true) (hk : k r (Eff.at ids mo)) : callE P G ck id us m f k := by
  obtain ⟨g1, g2⟩ := MI_ok ids mi hm
  exact .inr ⟨ids, Vs, mi, mo, r, h, g1, Nat.eq_of_beq_eq_true hlo, ndB_ok _ hnd, hck, hck2, g2, harr, ha, hV, hr, hk⟩
theorem cut_ {K : St → Prop} {σ : St} (n : Nat) (E : List (Nat × V)) (B : List (Nat × Ob)) (h0 : σ.next = n) (h1 : CE0 σ.mem [] σ.env E) (h2 : CB0 σ.mem B) (k : K (low n E B)) : Cut none K σ :=
  ⟨n, E, B, [], rfl, List.all_eq_true.2 (fun p _ => rfl), h0, h1.up, h2.up, k⟩
theorem cutF_ {m : Nat} {K : St → Prop} {σ : St} (n : Nat) (fz : List Nat) (E : List (Nat × V)) (B : List (Nat × Ob)) (hf : (B.all fun p => !memB fz p.1) = true) (h0 : σ.next = n) (h1 : CE σ.mem fz σ.env E) (h2 : CB σ.mem fz B) (k : K (low n E B)) (hk : keeps m B = true := by rfl) : Cut (some m) K σ := ⟨n, E, B, fz, hk, hf, h0, h1, h2, k⟩
theorem fz_own {mem : Nat → Option Ob} {fz : List Nat} {i len e sz n : Nat} {xs ys : List (List V)} (hm : mem i = some (.arr e sz xs)) (hf : memB fz i = true) (hn : n = len ∨ xs.length = n) (hx : xs = ys) : Fz mem fz (.own i len) (.sl sz n ys) := by
  subst hx
  exact .inr ⟨i, len, e, rfl, hm, hf, hn⟩
theorem av_ownX {ck : Nat → Bool} {m : Nat → Option Ob} {i len n : Nat} {e sz : Nat} {xs ys : List (List V)} (hc : ck i = true) (hm : m i = some (.arr e sz xs)) (hn : xs.length = n) (hx : xs = ys) : Av ck m (.own i len) (.sl sz n ys) := by
  subst hx
  unfold Av; simp only [hc, hm]; exact ⟨n, .inr hn, rfl⟩
theorem avA_ownX {ck : Nat → Bool} {m : Nat → Option Ob} {i len n : Nat} {e sz : Nat} {xs ys : List (List V)} (hc : ck i = true) (hm : m i = some (.arr e sz xs)) (hn : xs.length = n) (hx : xs = ys) : AvA ck m (.own i len) (.sl sz n ys) := av_ownX (len := len) hc hm hn hx
theorem fz_sl {mem : Nat → Option Ob} {fz : List Nat} {u : V} {sz a n : Nat} {xs ys : List (List V)} (h0 : u = .sl sz a xs) (h : a = n) (k : xs = ys) : Fz mem fz u (.sl sz n ys) := .inl (by rw [h0, h, k])
end Go.Aw

set_option linter.unusedVariables false
namespace Go.Aw
open Go.RowKit
def rd (xs : List Int) (i : Int) : Int := xs.getD i.toNat 0
def rdOf {α : Type} (d : α) (xs : List α) (i : Int) : α := xs.getD i.toNat d
def Ev {α : Type} (g : Nat → Option α) (r : α) : Prop := ∃ K, ∀ k, K ≤ k → g k = some r
theorem Ev.now {α : Type} (r : α) : Ev (fun _ => some r) r := ⟨0, fun _ _ => rfl⟩
theorem Ev.rounds {α : Type} {g : Nat → Option α} {r : α} (h : Ev g r) : ∃ k, g k = some r := by
  obtain ⟨K, h⟩ := h
  exact ⟨K, h K (Nat.le_refl _)⟩
theorem Ev.bind {α β : Type} {g : Nat → Option α} {f : Nat → α → Option β} {a : α} {r : β} (h : Ev g a) (k : Ev (fun n => f n a) r) : Ev (fun n => (g n).bind (f n)) r := by
  obtain ⟨K, h⟩ := h
  obtain ⟨L, k⟩ := k
  refine ⟨max K L, fun n hn => ?_⟩
  show (g n).bind (f n) = some r
  rw [h n (by omega)]
  exact k n (by omega)
theorem Ev.step {α : Type} {g f : Nat → Option α} {r : α} (h : ∀ k, g (k + 1) = f k) (k : Ev f r) : Ev g r := by
  obtain ⟨K, k⟩ := k
  refine ⟨K + 1, fun n hn => ?_⟩
  obtain ⟨m, rfl⟩ : ∃ m, n = m + 1 := ⟨n - 1, by omega⟩
  rw [h m]
  exact k m (by omega)
theorem Ev.congr {α : Type} {g f : Nat → Option α} {r : α} (h : ∀ k, g k = f k) (k : Ev f r) : Ev g r := by
  obtain ⟨K, k⟩ := k
  exact ⟨K, fun n hn => (h n).trans (k n hn)⟩

variable {α : Type} {X Y : Prop} {A B : Option α} {r : α}
theorem br_t {b : Bool} (H : (if b = true then A else B) = some r) (h1 : b = true → A = some r → X) (h2 : b = false → B = some r → Y) : Br b X Y := by
  cases b
  · exact Br.f rfl (h2 rfl H)
  · exact Br.t rfl (h1 rfl H)
theorem br_nt {b : Bool} (H : (if b = true then A else B) = some r) (h1 : b = true → A = some r → Y) (h2 : b = false → B = some r → X) : Br (!b) X Y := by
  cases b
  · exact Br.t rfl (h2 rfl H)
  · exact Br.f rfl (h1 rfl H)
theorem br_nnt {b : Bool} (H : (if b = true then A else B) = some r) (h1 : b = true → A = some r → X) (h2 : b = false → B = some r → Y) : Br (!(!b)) X Y := by
  cases b
  · exact Br.f rfl (h2 rfl H)
  · exact Br.t rfl (h1 rfl H)
theorem br_d {p : Prop} [Decidable p] (H : (if p then A else B) = some r) (h1 : p → A = some r → X) (h2 : ¬ p → B = some r → Y) : Br (decide p) X Y := by
  by_cases c : p
  · rw [if_pos c] at H; exact Br.t (decide_eq_true c) (h1 c H)
  · rw [if_neg c] at H; exact Br.f (decide_eq_false c) (h2 c H)
theorem br_nd {p : Prop} [Decidable p] (H : (if p then A else B) = some r) (h1 : p → A = some r → Y) (h2 : ¬ p → B = some r → X) : Br (!decide p) X Y := by
  by_cases c : p
  · rw [if_pos c] at H; exact Br.f (by rw [decide_eq_true c]; rfl) (h1 c H)
  · rw [if_neg c] at H; exact Br.t (by rw [decide_eq_false c]; rfl) (h2 c H)
theorem br_nnd {p : Prop} [Decidable p] (H : (if p then A else B) = some r) (h1 : p → A = some r → X) (h2 : ¬ p → B = some r → Y) : Br (!(!decide p)) X Y := by
  rw [Bool.not_not]; exact br_d H h1 h2
theorem nd_ {p : Prop} [Decidable p] (H : (if p then A else none) = some r) (h : p → A = some r → X) : Nd p X := by
  by_cases c : p
  · rw [if_pos c] at H; exact Nd.mk c (h c H)
  · rw [if_neg c] at H; cases H

theorem wr64 (x : Int) : wr .i64 x = wrap64 x := rfl
/-- equalities of lists and lengths, as they come -/
theorem lm_ {P : Prop} (h : P := by
    first | rfl | with_reducible assumption | omega | (simp only [List.length_append, List.length_cons, List.length_nil, List.length_map, List.length_set, List.length_replicate, List.length_take, List.length_drop, List.map_append, List.map_cons, List.map_nil, List.map_set, List.set_set, List.map_replicate, List.map_take, List.map_drop] <;> first | rfl | omega | (simp only [wr64] at * <;> omega)) | (simp only [wr64] at * <;> omega) | (simp only [wr64, List.length_append, List.length_cons, List.length_nil, List.length_take, List.length_drop, List.length_map] at * <;> omega)) : P := h
theorem fm_ {P : Prop} (h : P := by
    first | rfl | (conv => lhs; whnf
                   all_goals (first | rfl | (simp only [List.map_append, List.map_cons, List.map_nil, List.map_set, List.set_set, List.map_replicate, List.map_take, List.map_drop]; rfl)))) : P := h
theorem fi_ {P : Prop} (h : P := by repeat (first | exact trivial | refine ⟨rfl, ?_⟩)) : P := h
theorem lt_ {P : Prop} (h : P := by first | omega | (dsimp only; omega)) : P := h
/-- values that are the same, one by one -/
def LE : List V → List V → Prop
  | [], [] => True
  | a :: l, b :: k => a = b ∧ LE l k
  | _, _ => False
theorem le_eq : ∀ {us vs : List V}, LE us vs → us = vs
  | [], [], _ => rfl
  | a :: l, b :: k, ⟨h, g⟩ => by rw [h, le_eq g]
  | [], _ :: _, h => h.elim
  | _ :: _, [], h => h.elim
theorem sl_e {u : V} {sz a n : Nat} {xs ys : List (List V)} (h0 : u = .sl sz a xs) (h : a = n) (k : xs = ys) : u = .sl sz n ys := by rw [h0, h, k]
theorem ag_e {u : V} {us vs : List V} (h0 : u = .agg us) (h : LE us vs) : u = .agg vs := by rw [h0, le_eq h]
theorem bx_eq {o : Option Ob} {us vs : List V} (h0 : o = some (.box us)) (h : LE us vs) : o = some (.box vs) := by rw [h0, le_eq h]
theorem bo_nil : ∀ ob ∈ ([] : List Ob), BareO ob := fun ob h => by cases h
theorem bo_cons {ob : Ob} {l : List Ob} (h : BareO ob) (k : ∀ ob ∈ l, BareO ob) : ∀ o ∈ ob :: l, BareO o := fun o ho => by
  rcases List.mem_cons.1 ho with rfl | ho
  · exact h
  · exact k o ho
theorem bo_arr {α : Type} {e sz : Nat} {en : α → List V} {l : List α} (h : ∀ x, (en x).all V.bare = true) : BareO (.arr e sz (l.map en)) := fun p hp u hu => by
  obtain ⟨x, _, rfl⟩ := List.mem_map.1 hp
  unfold V.bareE
  rw [List.all_eq_true.1 (h x) u hu]; rfl
theorem bo_arrE {α : Type} {e sz : Nat} {en : α → List V} {l : List α} (h : ∀ x ∈ l, (en x).all V.bareE = true) : BareO (.arr e sz (l.map en)) := fun p hp u hu => by
  obtain ⟨x, hx, rfl⟩ := List.mem_map.1 hp
  exact List.all_eq_true.1 (h x hx) u hu
theorem el_of {xs ys : List (List V)} {i : Nat} {p : List V} (h : xs = ys) (k : ys[i]? = some p) : xs[i]? = some p := by rw [h]; exact k
theorem rdms {α : Type} (en : α → List V) (l : List α) (i : Int) (r : α) (h0 : 0 ≤ i) (h1 : i < (l.length : Int)) : ((l.set i.toNat r).map en)[i.toNat]? = some (en r) := by
  have : i.toNat < l.length := by omega
  simp [this]
theorem mt_own {i a b : Nat} (h : a = b) : V.own i a = V.own i b := by rw [h]
theorem mt_sl {sz a b : Nat} {xs ys : List (List V)} (h : a = b) (k : xs = ys) : V.sl sz a xs = V.sl sz b ys := by rw [h, k]
section
variable {ck : Nat → Bool} {m : Nat → Option Ob}
theorem av_ownD {i len e sz n : Nat} {xs ys : List (List V)} (hc : ck i = true) (hm : m i = some (.arr e sz xs)) (h : len = n) (k : xs = ys) : Av ck m (.own i len) (.sl sz n ys) := by subst h; subst k; exact av_own hc hm
theorem avA_ownD {i len e sz n : Nat} {xs ys : List (List V)} (hc : ck i = true) (hm : m i = some (.arr e sz xs)) (h : len = n) (k : xs = ys) : AvA ck m (.own i len) (.sl sz n ys) := av_ownD (len := len) hc hm h k
theorem av_slD {sz a n : Nat} {xs ys : List (List V)} (h : a = n) (k : xs = ys) : Av ck m (.sl sz a xs) (.sl sz n ys) := by subst h; subst k; exact av_shut' rfl
theorem avA_slD {sz a n : Nat} {xs ys : List (List V)} (h : a = n) (k : xs = ys) : AvA ck m (.sl sz a xs) (.sl sz n ys) := by subst h; subst k; exact avA_shut' rfl
end
section
variable {σ : St} {rn : List (Option Nat)} {fz : List Nat}
theorem rt_slD {sz a n : Nat} {xs ys : List (List V)} (h : a = n) (k : xs = ys) : Rt σ rn fz (.sl sz a xs) (.sl sz n ys) := by subst h; subst k; exact rt_eq rfl
theorem rtA_slD {sz a n : Nat} {xs ys : List (List V)} (h : a = n) (k : xs = ys) : RtA σ rn fz (.sl sz a xs) (.sl sz n ys) := by subst h; subst k; exact rtA_eq rfl
theorem rt_fzD {i len e sz n : Nat} {xs ys : List (List V)} (hm : σ.mem i = some (.arr e sz xs)) (h : len = n) (k : xs = ys) (hf : memB fz i = true) : Rt σ rn fz (.own i len) (.sl sz n ys) := by subst h; subst k; exact rt_fz hm ((memB_iff _ _).1 hf)
theorem rtA_fzD {i len e sz n : Nat} {xs ys : List (List V)} (hm : σ.mem i = some (.arr e sz xs)) (h : len = n) (k : xs = ys) (hf : memB fz i = true) : RtA σ rn fz (.own i len) (.sl sz n ys) := by subst h; subst k; exact rtA_fz hm ((memB_iff _ _).1 hf)
theorem rt_fz' {i len e sz : Nat} {xs : List (List V)} (hm : σ.mem i = some (.arr e sz xs)) (hf : memB fz i = true) : Rt σ rn fz (.own i len) (.sl sz len xs) := rt_fz hm ((memB_iff _ _).1 hf)
theorem rtA_fz' {i len e sz : Nat} {xs : List (List V)} (hm : σ.mem i = some (.arr e sz xs)) (hf : memB fz i = true) : RtA σ rn fz (.own i len) (.sl sz len xs) := rtA_fz hm ((memB_iff _ _).1 hf)
end
end Go.Aw

set_option linter.unusedVariables false
namespace Go.Aw
open Go.RowKit Go.Deep Go.ChangeShapes Go.WideShapes Go.ChangeAt
/-! ### arguments read as data: what they hold -/
def RcL (w : World) (A : Nat → Prop) (us : List V) (cs : List Value) : Prop := cs.length = us.length ∧ ∀ (i : Nat) (u : V) (c : Value), us[i]? = some u → cs[i]? = some c → Rc w A u c ∧ c.oneCell' = true
theorem RcL.one {w : World} {A : Nat → Prop} {u : V} {c : Value} (h : Rc w A u c) (h1 : c.oneCell' = true) : RcL w A [u] [c] := ⟨rfl, fun i u' c' hu hc => by
  cases i with
  | zero => simp at hu hc; subst hu; subst hc; exact ⟨h, h1⟩
  | succ i => simp at hu⟩
theorem RcL.append {w : World} {A : Nat → Prop} {us vs : List V} {cs ds : List Value} (h : RcL w A us cs) (k : RcL w A vs ds) : RcL w A (us ++ vs) (cs ++ ds) := by
  refine ⟨by simp [h.1, k.1], fun i u c hu hc => ?_⟩
  by_cases hi : i < us.length
  · rw [List.getElem?_append_left hi] at hu
    rw [List.getElem?_append_left (by rw [h.1]; exact hi)] at hc
    exact h.2 i u c hu hc
  · rw [List.getElem?_append_right (by omega)] at hu
    rw [List.getElem?_append_right (by rw [h.1]; omega), h.1] at hc
    exact k.2 _ u c hu hc
/-- all that lies there -/
def Lies (w : World) : Nat → Prop := fun b => b < w.heap.size
def Opn {α : Type} (P : Program) (t : TypeId) (enc : α → List V) (okx : α → Prop) : Prop :=
  ∀ (H : Type) (en : TypeId × Value → H) (w : World) (fuel : Nat) (cs : List Value) (y : DataW H × List MemPlace),
    DataW.trod en P w 0 (fun _ => true) true fuel t cs = some y → (∀ n ∈ y.1.weights P t, n ≤ reachBytes) → ∃ x, RcL w (Lies w) (enc x) cs ∧ okx x
theorem opn_bool {P : Program} {t : TypeId} (ht : P.underlying t = some .bool) : Opn P t (fun x : Bool => [.bool x]) (fun _ => True) := by
  intro H en w fuel cs y h _
  obtain ⟨b, rfl, _⟩ := DataW.trod_bool ht h
  exact ⟨b, .one (.bool b) rfl, trivial⟩
theorem opn_int {P : Program} {t : TypeId} {k : IntKind} (ht : P.underlying t = some (.int k)) : Opn P t (fun x : Int => [.int k x]) (fun x => (Lit.int k x).wf = true) := by
  intro H en w fuel cs y h _
  obtain ⟨n, rfl, _, hw⟩ := DataW.trod_int ht h
  exact ⟨n, .one (.int k n) rfl, hw⟩
theorem opn_string {P : Program} {t : TypeId} (ht : P.underlying t = some .string) : Opn P t (fun x : ByteArray => [.str x]) (fun x => x.size ≤ 140737488351232) := by
  intro H en w fuel cs y h hw
  obtain ⟨s, rfl, rfl, _⟩ := DataW.trod_string ht h
  refine ⟨s, .one (.str s) rfl, ?_⟩
  have := hw s.data.toList.length (by simp [DataW.weights])
  rw [Array.length_toList] at this
  exact this
theorem ex_list {α : Type} (Q : Nat → α → Prop) (n : Nat) (h : ∀ i, i < n → ∃ x, Q i x) : ∃ xs : List α, xs.length = n ∧ ∀ (j : Nat) (p : α), xs[j]? = some p → Q j p := by
  induction n with
  | zero => exact ⟨[], rfl, fun j p hp => by simp at hp⟩
  | succ n ih =>
    obtain ⟨xs, hl, hx⟩ := ih (fun i hi => h i (by omega))
    obtain ⟨x, hq⟩ := h n (by omega)
    refine ⟨xs ++ [x], by simp [hl], fun j p hp => ?_⟩
    by_cases c : j < n
    · rw [List.getElem?_append_left (by omega)] at hp; exact hx j p hp
    · have hj : j = n := by
        have := (List.getElem?_eq_some_iff.1 hp).1
        simp [hl] at this; omega
      subst hj
      rw [List.getElem?_append_right (by omega), hl, Nat.sub_self] at hp
      injection hp with hp
      exact hp ▸ hq
theorem weightsAll_mem {H : Type} {P : Program} {e : TypeId} {d : DataW H} : ∀ {ds : List (DataW H)}, d ∈ ds → ∀ n ∈ d.weights P e, n ∈ DataW.weightsAll P e ds
  | d0 :: ds, hd, n, hn => by
    simp only [DataW.weightsAll, List.mem_append]
    rcases List.mem_cons.1 hd with rfl | hd
    · exact Or.inl hn
    · exact Or.inr (weightsAll_mem hd n hn)
theorem weightsAll_len {H : Type} (D : Nat → DataW H) (len m : Nat) (hl : len ≤ m) (i : Nat) (hi : i < len) : D i ∈ (List.range len).map D := List.mem_map.2 ⟨i, List.mem_range.2 hi, rfl⟩
theorem cell_lies {w : World} {a : Addr} {v : Value} (h : w.cell? a = some v) : a.block < w.heap.size := by
  unfold World.cell? at h
  split at h
  · rename_i hb; exact (Array.getElem?_eq_some_iff.1 hb).1
  · cases h
theorem opn_slice {α : Type} {P : Program} {t e : TypeId} {enc : α → List V} {okx : α → Prop} {b sz : Nat} (ht : P.underlying t = some (.slice e)) (hc : P.cellsOf e = sz) (hp : 0 < sz) (hb0 : P.bytesOf e = b) (hlen : ∀ x, (enc x).length = sz) (he : Opn P e enc okx) :
    Opn P t (fun xs : List α => [.sl sz xs.length (xs.map enc)]) (fun xs => (xs.length ≤ 9223372036854775807 ∧ xs.length * b ≤ 140737488351232) ∧ ∀ x ∈ xs, okx x) := by
  subst hb0
  intro H en w fuel cs y h hw
  rcases open_slice ht h with ⟨rfl, rfl⟩ | ⟨a, len, cap, m, n, D, Pl, rfl, _, hl, hm, hmm, rfl, hel⟩
  · exact ⟨[], .one (.sl sz 0 [] rfl none 0 (fun _ => undef) (Nat.le_refl _) (fun _ h => by cases h) (fun h => absurd rfl h) (fun _ _ _ h => by cases h) (fun _ _ h => by simp at h) (fun _ _ h => by simp at h)) rfl, ⟨by simp, by simp⟩, fun x hx => by cases hx⟩
  have hm2 : m = cap := by simpa using hmm
  subst hm2
  simp only [DataW.weights, ht, List.mem_cons, List.mem_append] at hw
  have hex : ∀ i, i < len → ∃ x, (∃ c, w.cells? 0 (a.add (i * P.cellsOf e)) (P.cellsOf e) = some c ∧ RcL w (Lies w) (enc x) c) ∧ okx x := fun i hi => by
    obtain ⟨cs', h1, h2⟩ := hel i (by omega)
    obtain ⟨x, hk, ho⟩ := he _ en w n cs' _ h2 (fun q hq => hw q (Or.inr (Or.inl (weightsAll_mem (weightsAll_len D len m hl i hi) q hq))))
    exact ⟨x, ⟨cs', h1, hk⟩, ho⟩
  obtain ⟨xs, hxl, hx⟩ := ex_list _ len hex
  have hb : (len + (m - len)) * P.bytesOf e ≤ reachBytes := by
    have := hw _ (Or.inl rfl)
    simpa using this
  have hu : ∀ p ∈ xs.map enc, p.length = sz := fun p hp => by
    obtain ⟨x, _, rfl⟩ := List.mem_map.1 hp
    exact hlen x
  have key : ∀ (k : Nat) (u : V), (xs.map enc).flatten[k]? = some u → ∃ c, w.cell? (a.add k) = some c ∧ Rc w (Lies w) u c ∧ c.oneCell' = true := fun k u hk => by
    obtain ⟨p, h1, h2⟩ := flat_inv _ k u hu hk
    simp only [List.getElem?_map, Option.map_eq_some_iff] at h1
    obtain ⟨x, h1, rfl⟩ := h1
    obtain ⟨⟨c, g1, g2⟩, _⟩ := hx _ x h1
    have hlt : k % sz < c.length := by rw [g2.1, hlen]; exact Nat.mod_lt _ hp
    obtain ⟨_, hcl, hcc⟩ := World.cells?_some g1
    have e1 := hcc (k % sz) (by rw [hc]; exact Nat.mod_lt _ hp)
    rw [Go.Deep.add_add, hc, Nat.div_add_mod' k sz, List.getElem?_eq_getElem hlt] at e1
    obtain ⟨q1, q2⟩ := g2.2 _ u _ h2 (List.getElem?_eq_getElem hlt)
    exact ⟨_, e1, q1, q2⟩
  subst hxl
  refine ⟨xs, .one (.sl sz xs.length (xs.map enc) (by simp) (some a) m (fun k => (w.cell? (a.add k)).getD undef) (by simpa using hl) hu (fun hn => ⟨a, rfl, ?_⟩) (fun ad k u ha hk => ?_) (fun k u hk => ?_) (fun k u hk => ?_)) rfl, ⟨?_, ?_⟩, fun x hxm => ?_⟩
  · have h0 : xs ≠ [] := fun h => hn (by rw [h]; rfl)
    have hl0 : 0 < xs.length := List.length_pos_iff.2 h0
    have hfl := flat_len (xs.map enc) hu
    obtain ⟨c, h1, _⟩ := key 0 _ (List.getElem?_eq_getElem (by rw [hfl]; exact Nat.mul_pos (by simpa using hl0) hp))
    have := cell_lies h1
    rwa [add_block] at this
  · injection ha with ha; subst ha
    obtain ⟨c, h1, _⟩ := key k u hk
    rw [h1]; rfl
  · obtain ⟨c, h1, h2, _⟩ := key k u hk
    rw [h1]; exact h2
  · obtain ⟨c, h1, _, h2⟩ := key k u hk
    rw [h1]; exact h2
  · unfold maxLen at hm; omega
  · exact Nat.le_trans (Nat.mul_le_mul_right _ (by omega)) hb
  · obtain ⟨j, hj, hj2⟩ := List.getElem_of_mem hxm
    exact (hx j x (by rw [List.getElem?_eq_getElem hj, hj2])).2
/-- fields in line, from the cell 'off' on -/
def OpnF {α : Type} (P : Program) (fs : List Field) (off sz : Nat) (enc : α → List V) (okx : α → Prop) : Prop :=
  ∀ (H : Type) (en : TypeId × Value → H) (w : World) (fuel : Nat) (cs : List Value) (xs : List (DataW H × List MemPlace)), cs.length = off + sz → xs.length = fs.length →
    (∀ (i : Nat) (f : Field), fs[i]? = some f → DataW.trod en P w 0 (fun _ => true) true fuel f.type ((cs.drop f.offset).take (P.cellsOf f.type)) = xs[i]?) →
    (∀ n ∈ DataW.weightsEach P (fs.map (·.type)) (xs.map (·.1)), n ≤ reachBytes) → ∃ x, RcL w (Lies w) (enc x) (cs.drop off) ∧ okx x
theorem opnF_one {α : Type} {P : Program} {f : Field} {off sz : Nat} {enc : α → List V} {okx : α → Prop} (ho : f.offset = off) (hc : P.cellsOf f.type = sz) (h : Opn P f.type enc okx) : OpnF P [f] off sz enc okx := by
  intro H en w fuel cs xs hl hxl hx hw
  match xs, hxl with
  | [y], _ =>
    have h0 := hx 0 f rfl
    rw [ho, hc, List.take_of_length_le (by rw [List.length_drop]; omega)] at h0
    exact h _ en w fuel _ y h0 (fun n hn => hw n (by simp only [List.map_cons, List.map_nil, DataW.weightsEach, List.append_nil]; exact hn))
theorem opnF_cons {α β : Type} {P : Program} {f : Field} {fs : List Field} {off sa sb : Nat} {a : α → List V} {b : β → List V} {oka : α → Prop} {okb : β → Prop} (ho : f.offset = off) (hc : P.cellsOf f.type = sa) (h : Opn P f.type a oka) (hr : OpnF P fs (off + sa) sb b okb) :
    OpnF P (f :: fs) off (sa + sb) (fun x : α × β => a x.1 ++ b x.2) (fun x => oka x.1 ∧ okb x.2) := by
  intro H en w fuel cs xs hl hxl hx hw
  match xs, hxl with
  | y :: ys, hxl =>
    have h0 := hx 0 f rfl
    rw [ho, hc] at h0
    simp only [List.map_cons, DataW.weightsEach, List.mem_append] at hw
    obtain ⟨x0, k0, o0⟩ := h _ en w fuel _ y h0 (fun n hn => hw n (Or.inl hn))
    obtain ⟨x1, k1, o1⟩ := hr _ en w fuel cs ys (by omega) (by simpa using hxl) (fun i g hg => hx (i + 1) g (by simpa using hg)) (fun n hn => hw n (Or.inr hn))
    refine ⟨(x0, x1), ?_, o0, o1⟩
    have := k0.append k1
    rwa [← List.drop_drop, List.take_append_drop] at this
theorem opn_struct {α β : Type} {P : Program} {t : TypeId} {fs : Array Field} {sz : Nat} {enc : α → List V} {e : β → List V} {okx : α → Prop} {f : β → α} (ht : P.underlying t = some (.struct fs)) (hc : P.cellsOf t = sz) (h : OpnF P fs.toList 0 sz enc okx) (hf : ∀ x, ∃ y, f y = x) (hee : ∀ y, e y = enc (f y)) :
    Opn P t e (fun y => okx (f y)) := by
  intro H en w fuel cs y hy hw
  obtain ⟨xs, n, rfl, rfl, hl, hlen, hx⟩ := DataW.trod_struct ht hy
  simp only [DataW.weights, ht] at hw
  obtain ⟨x, hk, ho⟩ := h _ en w n cs xs (by rw [hl, hc, Nat.zero_add]) (by simpa using hlen) (fun i g hg => hx i g (by simpa using hg)) hw
  obtain ⟨z, rfl⟩ := hf x
  exact ⟨z, by rw [hee]; exact hk, ho⟩
/-- a struct argument: its cells, laid open -/
theorem opn_arg {β : Type} {P : Program} {t : TypeId} {fs : Array Field} {e : β → List V} {okx : β → Prop} {H : Type} {en : TypeId × Value → H} {w : World} {r : Reach} {b0 : Nat} {v : Value} {d : DataW H} {p : List MemPlace}
    (ht : P.underlying t = some (.struct fs)) (ho : Opn P t e okx) (hv : Value.okWide P w r b0 t v) (h : DataW.Trod en P w 0 (fun _ => true) true t v d p) (hw : ∀ n ∈ d.weights P t, n ≤ reachBytes) :
    ∃ x, Rv w (Lies w) (fun _ => none) (.agg (e x)) v ∧ okx x := by
  obtain ⟨cs, rfl, hsz⟩ := okWide_struct ht hv
  obtain ⟨fuel, hf⟩ := h
  obtain ⟨x, hk, hx⟩ := ho _ en w fuel _ _ hf hw
  exact ⟨x, .agg _ _ (by have := hk.1; simpa [Value.cells] using this) (fun i u c hu hc => .c (hk.2 i u c hu (by simpa [Value.cells] using hc)).1), hx⟩
theorem opn_slice_arg {β : Type} {P : Program} {t e : TypeId} {en0 : β → V} {okx : β → Prop} {H : Type} {en : TypeId × Value → H} {w : World} {r : Reach} {b0 : Nat} {v : Value} {d : DataW H} {p : List MemPlace}
    (ht : P.underlying t = some (.slice e)) (ho : Opn P t (fun x => [en0 x]) okx) (hv : Value.okWide P w r b0 t v) (h : DataW.Trod en P w 0 (fun _ => true) true t v d p) (hw : ∀ n ∈ d.weights P t, n ≤ reachBytes) :
    ∃ x, Rv w (Lies w) (fun _ => none) (en0 x) v ∧ okx x := by
  obtain ⟨a, len, cap, rfl⟩ := okWide_slice ht hv
  obtain ⟨fuel, hf⟩ := h
  obtain ⟨x, hk, hx⟩ := ho _ en w fuel _ _ hf hw
  exact ⟨x, .c (hk.2 0 _ _ rfl rfl).1, hx⟩
/-- values handed in, one by one -/
theorem rvs_nil {w : World} {A : Nat → Prop} {μ : Nat → Option Loc} : ∀ (i : Nat) (x : V) (v : Value), ([] : List V)[i]? = some x → (#[] : Array Value)[i]? = some v → Rv w A μ x v := fun i x v h => by simp at h
def RvL (w : World) (A : Nat → Prop) : List V → List Value → Prop
  | [], [] => True
  | x :: xs, v :: vs => Rv w A (fun _ => none) x v ∧ RvL w A xs vs
  | _, _ => False
theorem RvL.get {w : World} {A : Nat → Prop} : ∀ (xs : List V) (vs : List Value), RvL w A xs vs → vs.length = xs.length ∧ ∀ (i : Nat) (x : V) (v : Value), xs[i]? = some x → vs[i]? = some v → Rv w A (fun _ => none) x v
  | [], [], _ => ⟨rfl, fun i x v h => by simp at h⟩
  | [], _ :: _, h => h.elim
  | _ :: _, [], h => h.elim
  | x :: xs, v :: vs, ⟨a, b⟩ => by
    obtain ⟨g1, g2⟩ := RvL.get xs vs b
    refine ⟨by simp [g1], fun i y u hy hu => ?_⟩
    cases i with
    | zero => simp at hy hu; subst hy; subst hu; exact a
    | succ i => exact g2 i y u (by simpa using hy) (by simpa using hu)
/-- a function that takes data and says yes or no -/
theorem calls_bool {P : Program} {G : Nat → Option Obj} {f : FuncId} {Vs : List V} {b : Bool} (h : ACalls P G f [] Vs [] (.bool b)) {w : World} {vs : List Value} (hv : RvL w (Lies w) Vs vs) (hG : Gl G w (Lies w)) :
    Calls P f vs.toArray w fun e w' => e = .returned (.bool b) ∧ Below w.heap.size w w' := by
  obtain ⟨g1, g2⟩ := RvL.get Vs vs hv
  refine (h.2 w (Lies w) (fun _ => none) vs.toArray (by simpa using g1) (fun i x v hx hv => g2 i x v hx (by simpa using hv)) (fun b hb => hb) hG ⟨fun m ob hm => by simp at hm, fun i j li lj b hi => by simp at hi, fun i hi => absurd rfl hi⟩).mono fun e w' ⟨v, A', μ', he, hp⟩ => ?_
  subst he
  have := hp.res.bool_inv; subst this
  exact ⟨rfl, hp.os, hp.tape, hp.out, hp.size, fun k hk => hp.old k hk (fun ⟨m, l, hm, _⟩ => by simp at hm)⟩
theorem gl_none {w : World} {A : Nat → Prop} : Gl (fun _ => none) w A := fun g o h => by cases h
end Go.Aw

namespace Go.Aw
open Go.Shelf Go.Sort Go.RowKit Go.Proofs
set_option linter.unusedVariables false
set_option linter.unusedSimpArgs false

/-- strings as the sort takes them -/
def sRow (ss : List (List UInt8)) : List (List V) := ss.map fun s => [.str ⟨s.toArray⟩]
theorem sRow_flat (ss : List (List UInt8)) : (sRow ss).flatten = ss.map fun s => V.str ⟨s.toArray⟩ := by
  induction ss with
  | nil => rfl
  | cons s ss ih => simp only [sRow, List.map_cons, List.flatten_cons] at ih ⊢; rw [ih]; rfl

theorem sort_ac {P : Program} {ρ : Ren} (Ly : Lays.n192 P ρ) (hf : Fok P (ρ.f 192)) (G : Nat → Option Obj) (e : TypeId) (ss : List (List UInt8)) (hsz : ss.length < 4611686018427387904) :
    ACalls P G (ρ.f 192) [.arr e 1 (sRow ss)] [.own 0 ss.length] [.arr e 1 (sRow (ss.mergeSort fun x y => decide (x ≤ y)))] (.und) := by
  refine ⟨hf, fun w A μ vs hvs hv hbd hG hO => ?_⟩
  obtain ⟨vs⟩ := vs
  rcases vs with _ | ⟨v0, _ | ⟨_, _⟩⟩ <;> simp at hvs
  have hv0 := hv 0 (.own 0 ss.length) v0 rfl rfl
  obtain ⟨l, hl, hob, hb⟩ := hO.ob 0 _ rfl
  have hv1 : v0 = .slice (l.b.map (⟨·, 0, none⟩)) l.len l.cap := by
    generalize hu : V.own 0 ss.length = u at hv0
    cases hv0 with
    | c h => subst hu; cases h
    | own i l' h' => injection hu with e1 e2; subst e1; rw [hl] at h'; injection h' with h'; subst h'; rfl
    | _ => cases hu
  subst hv1
  obtain ⟨h1, h2, h3, cs, ⟨ho1, ho2⟩, hone, h5⟩ := hob
  have h2' : l.len = ss.length := by rw [h2]; simp [sRow]
  rcases ho2 with ⟨e1, e2⟩ | ⟨g, cap, cur, e1, e2, e3, e4, e5, e6, e7⟩
  · have : ss = [] := List.length_eq_zero_iff.1 (by omega)
    subst this
    rw [e2]
    refine (Any.sort_Strings_none Ly _ _ w).mono ?_
    rintro e w' ⟨rfl, rfl⟩
    refine ⟨_, A, μ, rfl, rfl, rfl, rfl, Nat.le_refl _, fun _ _ _ => rfl, fun b h => ⟨hbd b h, .inl h⟩, fun _ h => h, .c (.und _), fun _ _ => rfl, ?_⟩
    refine ⟨fun m ob hm => ?_, hO.ap, hO.bd⟩
    obtain ⟨l', hl', hob', hb'⟩ := hO.ob m ob (by simpa [sRow] using hm)
    refine ⟨l', hl', hob', fun b hb0 => ⟨(hb' b hb0).1, (hb' b hb0).2.1, .inl ⟨m, l', ?_, hl', hb0⟩⟩⟩
    rcases m with _ | m
    · exact Nat.one_pos
    · simp at hm
  · injection e1 with e1 _ ecap
    have hlb : l.b = some g := by
      cases hlb : l.b with
      | none => rw [hlb] at e1; simp at e1
      | some b => rw [hlb] at e1; simp at e1; rw [e1]
    obtain ⟨hgs, hgA, _⟩ := hb g hlb
    have hl1 : cs.length = ss.length := by rw [ho1, h2']; simp
    have hcs : ∀ k (hk : k < ss.length), cs[k]? = some (encStr ss[k]) := fun k hk => by
      obtain ⟨c, hc⟩ : ∃ c, cs[k]? = some c := ⟨cs[k], by simp [hl1, hk]⟩
      have := h5 k (.str ⟨ss[k].toArray⟩) c (by rw [sRow_flat]; simp [hk]) hc
      rw [hc]; cases this; rfl
    have hcur : ∀ k (hk : k < ss.length), cur[k]? = some (encStr ss[k]) := fun k hk => by
      have := hcs k hk
      rw [← e7, List.getElem?_take_of_lt (by rw [h2']; omega)] at this
      simpa using this
    have hH : Holds encStr w g 0 ss.toArray := fun j hj => by
      have hj' : j < ss.length := by simpa using hj
      constructor
      · simp only [World.cell?, e3, Nat.zero_add]
        rw [hcur j hj']; simp [hj']
      · simp [World.frozen?, e3]
    rw [e1, h2']
    refine (Any.sort_Strings Ly g 0 l.cap ss w hH hgs hsz).mono ?_
    rintro e w' ⟨rfl, n, os, rfl⟩
    have hsl : (ss.mergeSort fun x y => decide (x ≤ y)).length = ss.length := List.length_mergeSort _
    generalize ss.mergeSort (fun x y => decide (x ≤ y)) = ts at *
    have hold : ∀ b, b < w.heap.size → b ≠ g → (grow (putRow encStr (Go.Sort.ahead w n) g 0 ts.toArray) os).heap[b]? = w.heap[b]? := fun b hb hbg => by
      rw [heap_grow_old _ _ (by simpa using hb)]
      simp only [putRow, mapBlock, heap_ahead, Array.getElem?_modify]
      rw [if_neg (Ne.symm hbg)]
    have hg : (grow (putRow encStr (Go.Sort.ahead w n) g 0 ts.toArray) os).heap[g]? = some (.cells (putCells encStr 0 ts.toArray cur) e (0, 0)) := by
      rw [heap_grow_old _ _ (by simpa using hgs)]
      simp only [putRow, mapBlock, heap_ahead, Array.getElem?_modify]
      rw [e3]; simp [onCells]
    refine ⟨_, A, μ, rfl, rfl, rfl, rfl, by simp, fun b hb' hnb => hold b hb' (fun h => hnb ⟨0, l, Nat.one_pos, hl, h ▸ hlb⟩), fun b h => ⟨Nat.lt_of_lt_of_le (hbd b h) (by simp), .inl h⟩, fun _ h => h, .c (.und _), fun _ _ => rfl, ?_⟩
    refine ⟨fun m ob hm => ?_, fun i j li lj b hi hj => hO.ap i j li lj b hi hj, fun i hi => hO.bd i hi⟩
    rcases m with _ | m
    · simp at hm
      subst hm
      refine ⟨l, hl, ⟨h1, by simp [sRow, h2', hsl], by simp [sRow], ts.map encStr, ⟨by simp [hsl, h2'], .inr ⟨g, cap, putCells encStr 0 ts.toArray cur, by rw [hlb, ecap]; rfl, Nat.zero_le _, hg, e4, e5, by simpa [putCells] using e6, ?_⟩⟩, ?_, ?_⟩, fun b hb' => ?_⟩
      · apply List.ext_getElem?
        intro k
        by_cases hk : k < ts.length
        · rw [List.getElem?_take_of_lt (by omega)]
          have := hcur k (by omega)
          simp [putCells, this, hk]
        · rw [List.getElem?_eq_none (by simp; omega), List.getElem?_eq_none (by simp; omega)]
      · intro c hc; simp at hc; obtain ⟨s, _, rfl⟩ := hc; rfl
      · intro k u c hu hc
        rw [sRow_flat] at hu
        simp at hu hc
        obtain ⟨s, hs, rfl⟩ := hu
        obtain ⟨s', hs', rfl⟩ := hc
        rw [hs] at hs'; injection hs' with hs'; subst hs'
        exact .str _
      · rw [hlb] at hb'; injection hb' with hb'; subst hb'
        exact ⟨by simpa using Nat.lt_of_lt_of_le hgs (Nat.le_add_right _ _), hgA, .inl ⟨0, l, Nat.one_pos, hl, hlb⟩⟩
    · simp at hm

/-- a row of texts, sorted -/
def sortS (l : List ByteArray) : List ByteArray := ((l.map fun s => s.data.toList).mergeSort fun x y => decide (x ≤ y)).map fun b => ⟨b.toArray⟩
def sortSf (l : List ByteArray) : Option (List ByteArray) := if l.length < 4611686018427387904 then some (sortS l) else none
theorem sortS_ac {P : Program} {ρ : Ren} (Ly : Lays.n192 P ρ) {n : FuncId} (hf : Fok P n) (G : Nat → Option Obj) (e : TypeId) (hn : ρ.f 192 = n) {l r : List ByteArray} (H : sortSf l = some r) {en : ByteArray → List V} (hen : ∀ s, en s = [.str s]) :
    ACalls P G n [.arr e 1 (l.map en)] [.own 0 l.length] [.arr e 1 (r.map en)] .und := by
  subst hn
  unfold sortSf at H
  split at H
  · rename_i hl
    injection H with H; subst H
    have := sort_ac Ly hf G e (l.map fun s => s.data.toList) (by rw [List.length_map]; exact hl)
    rw [List.length_map] at this
    have e1 : sRow (l.map fun s => s.data.toList) = l.map en := by
      unfold sRow; rw [List.map_map]; apply List.map_congr_left; intro s _; rw [hen]; rfl
    have e2 : sRow ((l.map fun s => s.data.toList).mergeSort fun x y => decide (x ≤ y)) = (sortS l).map en := by
      unfold sRow sortS; rw [List.map_map]; apply List.map_congr_left; intro s _; simp only [Function.comp_apply]; rw [hen]
    rw [e1, e2] at this
    exact this
  · cases H
theorem sortS_len {l r : List ByteArray} (H : sortSf l = some r) : r.length = l.length := by
  unfold sortSf at H
  split at H
  · injection H with H; subst H; simp [sortS]
  · cases H
theorem sortS_mem {l r : List ByteArray} (H : sortSf l = some r) (x : ByteArray) : x ∈ r ↔ x ∈ l := by
  unfold sortSf at H
  split at H
  · injection H with H; subst H
    simp only [sortS, List.mem_map, List.mem_mergeSort]
    constructor
    · rintro ⟨b, ⟨y, hy, rfl⟩, rfl⟩; exact hy
    · intro h; exact ⟨x.data.toList, ⟨x, h, rfl⟩, rfl⟩
  · cases H
theorem bytesLess_is : ∀ (x y : List UInt8), Op.bytesLess x y = decide (x < y)
  | [], [] => by simp [Op.bytesLess]
  | _ :: _, [] => by simp [Op.bytesLess]
  | [], _ :: _ => by simp [Op.bytesLess]
  | a :: x, b :: y => by
    rw [Op.bytesLess, bytesLess_is x y]
    simp only [List.cons_lt_cons_iff]
    by_cases h1 : a < b <;> by_cases h2 : a = b <;> by_cases h3 : x < y <;> simp [h1, h2, h3]
theorem sortS_nd {l r : List ByteArray} (H : sortSf l = some r) (hn : l.Nodup) : r.Pairwise fun x y => Op.bytesLess x.toList y.toList = true := by
  unfold sortSf at H
  split at H
  · injection H with H; subst H
    unfold sortS
    have tr : ∀ a b c : List UInt8, decide (a ≤ b) = true → decide (b ≤ c) = true → decide (a ≤ c) = true := fun a b c h k => by
      simp only [decide_eq_true_eq] at h k ⊢; exact List.le_trans h k
    have to : ∀ a b : List UInt8, (decide (a ≤ b) || decide (b ≤ a)) = true := fun a b => by
      simp only [Bool.or_eq_true, decide_eq_true_eq]; exact List.le_total a b
    have h1 := List.pairwise_mergeSort tr to (l.map fun s => s.data.toList)
    have h2 : (l.map fun s => s.data.toList).Nodup := by
      refine List.Pairwise.map _ (fun a b h e => h ?_) hn
      apply ByteArray.ext; apply Array.ext'; exact e
    have h3 := (List.mergeSort_perm (l.map fun s => s.data.toList) fun x y => decide (x ≤ y)).nodup_iff.2 h2
    have h4 := List.Pairwise.and h1 h3
    refine List.Pairwise.map _ (fun a b h => ?_) h4
    have e : ∀ x : List UInt8, ByteArray.toList ⟨x.toArray⟩ = x := fun x => by rw [ByteArray.toList_eq]
    simp only [decide_eq_true_eq] at h
    rw [e, e, bytesLess_is, decide_eq_true_eq]
    refine Classical.byContradiction fun q => h.2 ?_
    exact List.le_antisymm h.1 (List.not_lt.1 q)
  · cases H
#print axioms sortS_ac
end Go.Aw

