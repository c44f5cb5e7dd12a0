/- The program's StuffRecall returns what the reference's returns, for all arguments. -/
import Derived.Test.YtamkmmkchdnkmaaRows
import Derived.Test.YtamkmmkchdnkmaaZFnExactStuffRecall2
import Derived.KernelRfl
namespace Go.Proofs.Ytamkmmkchdnkmaa.fnExactStuffRecall
open Go.ChangeShapes Go.WideShapes Go.ChangeAt Go.RowKit Go.Aw Go.Proofs.Ytamkmmkchdnkmaa.SR
set_option linter.unusedVariables false
theorem own : ownKnob Try.prog.godebug = none := by kernel_rfl
theorem laidOut : laidOutB Try.prog = true := by kernel_rfl
theorem open189 : Opn Try.prog 189 en_S_laws_StuffFoe ok_laws_StuffFoe := opn_struct (f := fun y : S_laws_StuffFoe => (y.f0, y.f1)) Try.underlying189 (by kernel_rfl) (opnF_cons (sa := 1) (by rfl) (by kernel_rfl) (opn_string Try.underlying9) (opnF_one (sz := 1) (by rfl) (by kernel_rfl) (opn_string Try.underlying9))) (fun x => ⟨⟨x.1, x.2⟩, rfl⟩) (fun _ => rfl)
theorem open22 : Opn Try.prog 22 (fun xs : List S_laws_StuffFoe => [.sl 2 xs.length (xs.map en_S_laws_StuffFoe)]) (fun xs : List S_laws_StuffFoe => (xs.length ≤ 9223372036854775807 ∧ xs.length * 32 ≤ 140737488351232) ∧ ∀ z ∈ xs, ok_laws_StuffFoe z) := opn_slice Try.underlying22 (by kernel_rfl) (Nat.le_of_ble_eq_true rfl) (by kernel_rfl) (fun _ => rfl) (open189)
theorem open191 : Opn Try.prog 191 en_S_laws_StuffLot ok_laws_StuffLot := opn_struct (f := fun y : S_laws_StuffLot => (y.f0, y.f1)) Try.underlying191 (by kernel_rfl) (opnF_cons (sa := 1) (by rfl) (by kernel_rfl) (opn_string Try.underlying9) (opnF_one (sz := 1) (by rfl) (by kernel_rfl) (opn_string Try.underlying9))) (fun x => ⟨⟨x.1, x.2⟩, rfl⟩) (fun _ => rfl)
theorem open23 : Opn Try.prog 23 (fun xs : List S_laws_StuffLot => [.sl 2 xs.length (xs.map en_S_laws_StuffLot)]) (fun xs : List S_laws_StuffLot => (xs.length ≤ 9223372036854775807 ∧ xs.length * 32 ≤ 140737488351232) ∧ ∀ z ∈ xs, ok_laws_StuffLot z) := opn_slice Try.underlying23 (by kernel_rfl) (Nat.le_of_ble_eq_true rfl) (by kernel_rfl) (fun _ => rfl) (open191)
theorem open267 : Opn Try.prog 267 en_S_laws_StuffPart ok_laws_StuffPart := opn_struct (f := fun y : S_laws_StuffPart => (y.f0, y.f1)) Try.underlying267 (by kernel_rfl) (opnF_cons (sa := 1) (by rfl) (by kernel_rfl) (opn_string Try.underlying9) (opnF_one (sz := 1) (by rfl) (by kernel_rfl) (opn_int Try.underlying3))) (fun x => ⟨⟨x.1, x.2⟩, rfl⟩) (fun _ => rfl)
theorem open193 : Opn Try.prog 193 (fun xs : List S_laws_StuffPart => [.sl 2 xs.length (xs.map en_S_laws_StuffPart)]) (fun xs : List S_laws_StuffPart => (xs.length ≤ 9223372036854775807 ∧ xs.length * 24 ≤ 140737488351232) ∧ ∀ z ∈ xs, ok_laws_StuffPart z) := opn_slice Try.underlying193 (by kernel_rfl) (Nat.le_of_ble_eq_true rfl) (by kernel_rfl) (fun _ => rfl) (open267)
theorem open44 : Opn Try.prog 44 (fun xs : List ByteArray => [.sl 1 xs.length (xs.map en_str)]) (fun xs : List ByteArray => (xs.length ≤ 9223372036854775807 ∧ xs.length * 16 ≤ 140737488351232) ∧ ∀ z ∈ xs, z.size ≤ 140737488351232) := opn_slice Try.underlying44 (by kernel_rfl) (Nat.le_of_ble_eq_true rfl) (by kernel_rfl) (fun _ => rfl) (opn_string Try.underlying9)
theorem open195 : Opn Try.prog 195 en_S_laws_StuffVessel ok_laws_StuffVessel := opn_struct (f := fun y : S_laws_StuffVessel => (y.f0, y.f1, y.f2, y.f3)) Try.underlying195 (by kernel_rfl) (opnF_cons (sa := 1) (by rfl) (by kernel_rfl) (opn_string Try.underlying9) (opnF_cons (sa := 1) (by rfl) (by kernel_rfl) (opn_int Try.underlying3) (opnF_cons (sa := 1) (by rfl) (by kernel_rfl) (open193) (opnF_one (sz := 1) (by rfl) (by kernel_rfl) (open44))))) (fun x => ⟨⟨x.1, x.2.1, x.2.2.1, x.2.2.2⟩, rfl⟩) (fun _ => rfl)
theorem open24 : Opn Try.prog 24 (fun xs : List S_laws_StuffVessel => [.sl 4 xs.length (xs.map en_S_laws_StuffVessel)]) (fun xs : List S_laws_StuffVessel => (xs.length ≤ 9223372036854775807 ∧ xs.length * 72 ≤ 140737488351232) ∧ ∀ z ∈ xs, ok_laws_StuffVessel z) := opn_slice Try.underlying24 (by kernel_rfl) (Nat.le_of_ble_eq_true rfl) (by kernel_rfl) (fun _ => rfl) (open195)
theorem open198 : Opn Try.prog 198 en_S_laws_StuffOut ok_laws_StuffOut := opn_struct (f := fun y : S_laws_StuffOut => (y.f0, y.f1, y.f2)) Try.underlying198 (by kernel_rfl) (opnF_cons (sa := 1) (by rfl) (by kernel_rfl) (opn_string Try.underlying9) (opnF_cons (sa := 1) (by rfl) (by kernel_rfl) (open193) (opnF_one (sz := 1) (by rfl) (by kernel_rfl) (open44)))) (fun x => ⟨⟨x.1, x.2.1, x.2.2⟩, rfl⟩) (fun _ => rfl)
theorem open25 : Opn Try.prog 25 (fun xs : List S_laws_StuffOut => [.sl 3 xs.length (xs.map en_S_laws_StuffOut)]) (fun xs : List S_laws_StuffOut => (xs.length ≤ 9223372036854775807 ∧ xs.length * 64 ≤ 140737488351232) ∧ ∀ z ∈ xs, ok_laws_StuffOut z) := opn_slice Try.underlying25 (by kernel_rfl) (Nat.le_of_ble_eq_true rfl) (by kernel_rfl) (fun _ => rfl) (open198)
theorem open27 : Opn Try.prog 27 en_S_laws_StuffBook ok_laws_StuffBook := opn_struct (f := fun y : S_laws_StuffBook => (y.f0, y.f1, y.f2, y.f3)) Try.underlying27 (by kernel_rfl) (opnF_cons (sa := 1) (by rfl) (by kernel_rfl) (open22) (opnF_cons (sa := 1) (by rfl) (by kernel_rfl) (open23) (opnF_cons (sa := 1) (by rfl) (by kernel_rfl) (open24) (opnF_one (sz := 1) (by rfl) (by kernel_rfl) (open25))))) (fun x => ⟨⟨x.1, x.2.1, x.2.2.1, x.2.2.2⟩, rfl⟩) (fun _ => rfl)
set_option maxRecDepth 100000 in
theorem lifted (os : Os) (started : os.Started) (H : Type) (enc : TypeId × Value → H) :
    ReturnsInHanded {} Try.checked os 6 .any (Rows.fnExactStuffRecallSpec.pre6 enc Try.prog Try.f6 Rows.fnExactStuffRecallRow.domain false) (Rows.fnExactStuffRecallSpec.post enc Try.prog Try.f6 false true false false) := by
  refine returnsInHanded_of_change_sized (C := Try.checked) own started (by kernel_rfl) Try.func6
    (ChangeSpec.witness6 (enc := enc) (C := Try.checked) false ⟨#[], #[.agg #[.slice none 0 0, .slice none 0 0, .slice none 0 0, .slice none 0 0], .string ByteArray.empty], []⟩ 16 (by kernel_rfl) (by kernel_rfl) (by kernel_rfl) (by kernel_rfl)) ?_
  intro W base args ds gs before hval0 hW hcnd hsz0 _
  have hsz : (DataW.weightsEach Try.prog (Try.f6.params.toList ++ Rows.fnExactStuffRecallSpec.plain.varTypes Try.prog) (ds ++ gs)).all (· ≤ reachBytes) = true := hsz0
  have hval : ∀ (j : Nat) t v, Try.f6.params[j]? = some t → args[j]? = some v → Value.okWide Try.prog W .any base t v := hval0
  have hW' := hW
  obtain ⟨p, q, hA0, hV, rfl, hfz, hnd⟩ := hW
  have hA : DataW.TrodAll enc Try.prog W 0 (fun _ => true) true Try.f6.params.toList args.toList ds p := hA0
  rw [Try.params6] at hA hval hsz
  obtain ⟨v0, vs0, d0, ds0, p0, q0, hargs, rfl, rfl, h0, r0⟩ := trodAll_cons hA
  obtain ⟨v1, vs1, d1, ds1, p1, q1, rfl, rfl, rfl, h1, r1⟩ := trodAll_cons r0
  obtain ⟨rfl, rfl, rfl⟩ := trodAll_nil r1
  obtain rfl : args = #[v0, v1] := by cases args; simp_all
  obtain ⟨rfl, rfl⟩ := trodVars_none hV
  have t0 := h0
  have lt0 : ∀ x ∈ p0, x.block < W.heap.size := by obtain ⟨m, hm⟩ := t0; exact DataW.trod_lt m _ _ _ hm
  obtain ⟨x0, hr0, ho0⟩ := opn_arg Try.underlying27 open27 (hval 0 27 v0 rfl rfl) h0 (fun n hn => by have z := List.all_eq_true.1 hsz n (DataW.weights_mem_each (j := 0) rfl rfl n hn); simpa using z)
  obtain ⟨x1, rfl, rfl, rfl, y1⟩ := Go.ChangeMaps.open_string Try.underlying9 (hval 1 9 v1 rfl rfl) h1
  have w1 : x1.size ≤ 140737488351232 := by
    have z := sized_string hsz (j := 1) (t := 9) rfl rfl
    rw [Array.length_toList] at z
    exact z
  clear hA0 hval0 hsz0 hsz
  obtain ⟨k, hk⟩ := Pure.FnExactStuffRecall x0 x1 ho0 w1
  refine (calls_bool (laws_FnExactStuffRecall.ac (G := (fun _ => none)) hk) (vs := [v0, .string x1]) ⟨hr0, .c (.str _), trivial⟩ gl_none).mono fun e W' ⟨he, bel⟩ => ?_
  subst he
  exact ⟨_, rfl, _, _, _, [], _, [], hW', trodAll_mk1 (shut_bool Try.underlying4 _), (trodAll_cons_mk (Below.trod laidOut (by kernel_rfl) (of_decide_eq_true (by kernel_rfl)) t0 bel lt0) (trodAll_cons_mk (Go.ChangeMaps.shut_string Try.underlying9 y1) trodAll_mk0)), rfl, bel.frame _, fun h => by cases h⟩
theorem j0 : (Rows.fnExactStuffRecallRow.plainKeys == Try.pinned.checked.prog.plainKeys) = true := by kernel_rfl
theorem j1 : Try.pinned.checked.prog.stopsHeard = true := by kernel_rfl
theorem j2 : Try.pinned.checked.prog.mayEnter = true := by kernel_rfl
theorem j3 : (Rows.fnExactStuffRecallRow.lifted == Try.pinned.checked.prog.liftsFinal) = true := by kernel_rfl
theorem j4 : (Try.pinned.checked.prog.make == some Rows.fnExactStuffRecallRow.make) = true := by kernel_rfl
theorem joined : joinedFacts Try.pinned.checked.prog 6 Try.f6 Rows.fnExactStuffRecallSpec Rows.fnExactStuffRecallRow = true := by
  unfold joinedFacts
  simp only [Bool.and_eq_true]
  repeat' apply And.intro
  all_goals first | with_reducible exact j0 | with_reducible exact j1 | with_reducible exact j2 | with_reducible exact j3 | with_reducible exact j4 | kernel_rfl
theorem over : Rows.fnExactStuffRecallRow.holds Try.pinned (OpenSpec.ofChange Rows.fnExactStuffRecallSpec) :=
  OpenClaim.holds_of_wide 6 Try.f6 rfl rfl rfl rfl rfl rfl rfl ⟨rfl, rfl, rfl, rfl, rfl⟩ rfl rfl rfl rfl rfl (by kernel_rfl) Try.func6 joined
    (of_decide_eq_true (by kernel_rfl)) (by unfold Func.isWrapper; first | (rw [if_pos (by decide +kernel)]; kernel_rfl) | (rw [if_neg (by decide +kernel)]; exact ⟨rfl, rfl⟩))
    (fun os started H enc _ => lifted os started H enc)
theorem proved : Rows.FnExactStuffRecallSaid := over
#print axioms proved
end Go.Proofs.Ytamkmmkchdnkmaa.fnExactStuffRecall
namespace Go.Proofs.Ytamkmmkchdnkmaa
/-- The row, under a short name, for the claim. -/
theorem fnExactStuffRecall_holds : Rows.FnExactStuffRecallSaid := fnExactStuffRecall.proved
end Go.Proofs.Ytamkmmkchdnkmaa
