/- The program's CtlBook answers what the reference's CtlBook answers, for every plant and every station, writes into no argument, and its answer owns its memory. No condition beyond the row's own. -/
import Derived.Test.YtamkmmkchdnkmaaRows
import Derived.Test.YtamkmmkchdnkmaaZFnExactCtlBook2
import Derived.KernelRfl
namespace Go.Proofs.Ytamkmmkchdnkmaa.fnExactCtlBook
open Go.ChangeShapes Go.WideShapes Go.ChangeAt Go.RowKit Go.Aw Go.Proofs.Ytamkmmkchdnkmaa.CB
set_option linter.unusedVariables false
theorem own : ownKnob Try.prog.godebug = none := by kernel_rfl
theorem laidOut : laidOutB Try.prog = true := by kernel_rfl
theorem open44 : Opn Try.prog 44 (fun xs : List ByteArray => [.sl 1 xs.length (xs.map en_str)]) (fun xs : List ByteArray => (xs.length ≤ 9223372036854775807 ∧ xs.length * 16 ≤ 140737488351232) ∧ ∀ z ∈ xs, z.size ≤ 140737488351232) := opn_slice Try.underlying44 (by kernel_rfl) (Nat.le_of_ble_eq_true rfl) (by kernel_rfl) (fun _ => rfl) (opn_string Try.underlying9)
theorem open237 : Opn Try.prog 237 en_S_laws_PlantFoe ok_laws_PlantFoe := opn_struct (f := fun y : S_laws_PlantFoe => (y.f0, y.f1)) Try.underlying237 (by kernel_rfl) (opnF_cons (sa := 1) (by rfl) (by kernel_rfl) (opn_string Try.underlying9) (opnF_one (sz := 1) (by rfl) (by kernel_rfl) (opn_string Try.underlying9))) (fun x => ⟨⟨x.1, x.2⟩, rfl⟩) (fun _ => rfl)
theorem open71 : Opn Try.prog 71 (fun xs : List S_laws_PlantFoe => [.sl 2 xs.length (xs.map en_S_laws_PlantFoe)]) (fun xs : List S_laws_PlantFoe => (xs.length ≤ 9223372036854775807 ∧ xs.length * 32 ≤ 140737488351232) ∧ ∀ z ∈ xs, ok_laws_PlantFoe z) := opn_slice Try.underlying71 (by kernel_rfl) (Nat.le_of_ble_eq_true rfl) (by kernel_rfl) (fun _ => rfl) (open237)
theorem open239 : Opn Try.prog 239 en_S_laws_PlantPlace ok_laws_PlantPlace := opn_struct (f := fun y : S_laws_PlantPlace => (y.f0, y.f1, y.f2)) Try.underlying239 (by kernel_rfl) (opnF_cons (sa := 1) (by rfl) (by kernel_rfl) (opn_string Try.underlying9) (opnF_cons (sa := 1) (by rfl) (by kernel_rfl) (opn_int Try.underlying3) (opnF_one (sz := 1) (by rfl) (by kernel_rfl) (opn_string Try.underlying9)))) (fun x => ⟨⟨x.1, x.2.1, x.2.2⟩, rfl⟩) (fun _ => rfl)
theorem open72 : Opn Try.prog 72 (fun xs : List S_laws_PlantPlace => [.sl 3 xs.length (xs.map en_S_laws_PlantPlace)]) (fun xs : List S_laws_PlantPlace => (xs.length ≤ 9223372036854775807 ∧ xs.length * 40 ≤ 140737488351232) ∧ ∀ z ∈ xs, ok_laws_PlantPlace z) := opn_slice Try.underlying72 (by kernel_rfl) (Nat.le_of_ble_eq_true rfl) (by kernel_rfl) (fun _ => rfl) (open239)
theorem open241 : Opn Try.prog 241 en_S_laws_PlantValve ok_laws_PlantValve := opn_struct (f := fun y : S_laws_PlantValve => (y.f0, y.f1, y.f2, y.f3)) Try.underlying241 (by kernel_rfl) (opnF_cons (sa := 1) (by rfl) (by kernel_rfl) (opn_string Try.underlying9) (opnF_cons (sa := 1) (by rfl) (by kernel_rfl) (opn_string Try.underlying9) (opnF_cons (sa := 1) (by rfl) (by kernel_rfl) (opn_string Try.underlying9) (opnF_one (sz := 1) (by rfl) (by kernel_rfl) (opn_string Try.underlying9))))) (fun x => ⟨⟨x.1, x.2.1, x.2.2.1, x.2.2.2⟩, rfl⟩) (fun _ => rfl)
theorem open73 : Opn Try.prog 73 (fun xs : List S_laws_PlantValve => [.sl 4 xs.length (xs.map en_S_laws_PlantValve)]) (fun xs : List S_laws_PlantValve => (xs.length ≤ 9223372036854775807 ∧ xs.length * 64 ≤ 140737488351232) ∧ ∀ z ∈ xs, ok_laws_PlantValve z) := opn_slice Try.underlying73 (by kernel_rfl) (Nat.le_of_ble_eq_true rfl) (by kernel_rfl) (fun _ => rfl) (open241)
theorem open75 : Opn Try.prog 75 en_S_laws_Plant ok_laws_Plant := opn_struct (f := fun y : S_laws_Plant => (y.f0, y.f1, y.f2, y.f3)) Try.underlying75 (by kernel_rfl) (opnF_cons (sa := 1) (by rfl) (by kernel_rfl) (open44) (opnF_cons (sa := 1) (by rfl) (by kernel_rfl) (open71) (opnF_cons (sa := 1) (by rfl) (by kernel_rfl) (open72) (opnF_one (sz := 1) (by rfl) (by kernel_rfl) (open73))))) (fun x => ⟨⟨x.1, x.2.1, x.2.2.1, x.2.2.2⟩, rfl⟩) (fun _ => rfl)
set_option maxRecDepth 100000 in
theorem lifted (os : Os) (started : os.Started) (H : Type) (enc : TypeId × Value → H) :
    ReturnsInHanded {} Try.checked os 10 .any (Rows.fnExactCtlBookSpec.pre6 enc Try.prog Try.f10 Rows.fnExactCtlBookRow.domain false) (Rows.fnExactCtlBookSpec.post enc Try.prog Try.f10 false true false false) := by
  refine returnsInHanded_of_change_sized (C := Try.checked) own started (by kernel_rfl) Try.func10
    (ChangeSpec.witness6 (enc := enc) (C := Try.checked) false ⟨#[], #[.agg #[.slice none 0 0, .slice none 0 0, .slice none 0 0, .slice none 0 0], .string ByteArray.empty], []⟩ 16 (by kernel_rfl) (by kernel_rfl) (by kernel_rfl) (by kernel_rfl)) ?_
  intro W base args ds gs before hval0 hW hcnd hsz0 _
  have hsz : (DataW.weightsEach Try.prog (Try.f10.params.toList ++ Rows.fnExactCtlBookSpec.plain.varTypes Try.prog) (ds ++ gs)).all (· ≤ reachBytes) = true := hsz0
  have hval : ∀ (j : Nat) t v, Try.f10.params[j]? = some t → args[j]? = some v → Value.okWide Try.prog W .any base t v := hval0
  have hW' := hW
  obtain ⟨p, q, hA0, hV, rfl, hfz, hnd⟩ := hW
  have hA : DataW.TrodAll enc Try.prog W 0 (fun _ => true) true Try.f10.params.toList args.toList ds p := hA0
  rw [Try.params10] at hA hval hsz
  obtain ⟨v0, vs0, d0, ds0, p0, q0, hargs, rfl, rfl, h0, r0⟩ := trodAll_cons hA
  obtain ⟨v1, vs1, d1, ds1, p1, q1, rfl, rfl, rfl, h1, r1⟩ := trodAll_cons r0
  obtain ⟨rfl, rfl, rfl⟩ := trodAll_nil r1
  obtain rfl : args = #[v0, v1] := by cases args; simp_all
  obtain ⟨rfl, rfl⟩ := trodVars_none hV
  have t0 := h0
  have lt0 : ∀ x ∈ p0, x.block < W.heap.size := by obtain ⟨m, hm⟩ := t0; exact DataW.trod_lt m _ _ _ hm
  obtain ⟨x0, hr0, ho0⟩ := opn_arg Try.underlying75 open75 (hval 0 75 v0 rfl rfl) h0 (fun n hn => by have z := List.all_eq_true.1 hsz n (DataW.weights_mem_each (j := 0) rfl rfl n hn); simpa using z)
  obtain ⟨x1, rfl, rfl, rfl, y1⟩ := Go.ChangeMaps.open_string Try.underlying9 (hval 1 9 v1 rfl rfl) h1
  have w1 : x1.size ≤ 140737488351232 := by
    have z := sized_string hsz (j := 1) (t := 9) rfl rfl
    rw [Array.length_toList] at z
    exact z
  clear hA0 hval0 hsz0 hsz
  obtain ⟨k, hk⟩ := Pure.FnExactCtlBook x0 x1 ho0 w1
  refine (calls_bool (laws_FnExactCtlBook.ac (G := (fun _ => none)) hk) (vs := [v0, .string x1]) ⟨hr0, .c (.str _), trivial⟩ gl_none).mono fun e W' ⟨he, bel⟩ => ?_
  subst he
  exact ⟨_, rfl, _, _, _, [], _, [], hW', trodAll_mk1 (shut_bool Try.underlying4 _), (trodAll_cons_mk (Below.trod laidOut (by kernel_rfl) (of_decide_eq_true (by kernel_rfl)) t0 bel lt0) (trodAll_cons_mk (Go.ChangeMaps.shut_string Try.underlying9 y1) trodAll_mk0)), rfl, bel.frame _, fun h => by cases h⟩
theorem j0 : (Rows.fnExactCtlBookRow.plainKeys == Try.pinned.checked.prog.plainKeys) = true := by kernel_rfl
theorem j1 : Try.pinned.checked.prog.stopsHeard = true := by kernel_rfl
theorem j2 : Try.pinned.checked.prog.mayEnter = true := by kernel_rfl
theorem j3 : (Rows.fnExactCtlBookRow.lifted == Try.pinned.checked.prog.liftsFinal) = true := by kernel_rfl
theorem j4 : (Try.pinned.checked.prog.make == some Rows.fnExactCtlBookRow.make) = true := by kernel_rfl
theorem joined : joinedFacts Try.pinned.checked.prog 10 Try.f10 Rows.fnExactCtlBookSpec Rows.fnExactCtlBookRow = true := by
  unfold joinedFacts
  simp only [Bool.and_eq_true]
  repeat' apply And.intro
  all_goals first | with_reducible exact j0 | with_reducible exact j1 | with_reducible exact j2 | with_reducible exact j3 | with_reducible exact j4 | kernel_rfl
theorem over : Rows.fnExactCtlBookRow.holds Try.pinned (OpenSpec.ofChange Rows.fnExactCtlBookSpec) :=
  OpenClaim.holds_of_wide 10 Try.f10 rfl rfl rfl rfl rfl rfl rfl ⟨rfl, rfl, rfl, rfl, rfl⟩ rfl rfl rfl rfl rfl (by kernel_rfl) Try.func10 joined
    (of_decide_eq_true (by kernel_rfl)) (by unfold Func.isWrapper; first | (rw [if_pos (by decide +kernel)]; kernel_rfl) | (rw [if_neg (by decide +kernel)]; exact ⟨rfl, rfl⟩))
    (fun os started H enc _ => lifted os started H enc)
theorem proved : Rows.FnExactCtlBookSaid := over
#print axioms proved
end Go.Proofs.Ytamkmmkchdnkmaa.fnExactCtlBook
namespace Go.Proofs.Ytamkmmkchdnkmaa
/-- The row, under a short name, for the claim. -/
theorem fnExactCtlBook_holds : Rows.FnExactCtlBookSaid := fnExactCtlBook.proved
end Go.Proofs.Ytamkmmkchdnkmaa
