/- The program's PlantTurn answers what the reference's PlantTurn answers, for every plant, every index, every valve and either turn, writes into no argument, and its answer owns its memory. No condition beyond the row's own. -/
import Derived.Test.YtodeegjblililaaRows
import Derived.Test.YtodeegjblililaaZFnExactPlantTurn2
import Derived.KernelRfl
namespace Go.Proofs.Ytodeegjblililaa.fnExactPlantTurn
open Go.ChangeShapes Go.WideShapes Go.ChangeAt Go.RowKit Go.Aw Go.Proofs.Ytodeegjblililaa.PT
set_option linter.unusedVariables false
theorem own : ownKnob Try.prog.godebug = none := by kernel_rfl
theorem laidOut : laidOutB Try.prog = true := by kernel_rfl
theorem open24 : Opn Try.prog 24 (fun xs : List ByteArray => [.sl 1 xs.length (xs.map en_str)]) (fun xs : List ByteArray => (xs.length ≤ 9223372036854775807 ∧ xs.length * 16 ≤ 140737488351232) ∧ ∀ z ∈ xs, z.size ≤ 140737488351232) := opn_slice Try.underlying24 (by kernel_rfl) (Nat.le_of_ble_eq_true rfl) (by kernel_rfl) (fun _ => rfl) (opn_string Try.underlying9)
theorem open176 : Opn Try.prog 176 en_S_laws_PlantFoe ok_laws_PlantFoe := opn_struct (f := fun y : S_laws_PlantFoe => (y.f0, y.f1)) Try.underlying176 (by kernel_rfl) (opnF_cons (sa := 1) (by rfl) (by kernel_rfl) (opn_string Try.underlying9) (opnF_one (sz := 1) (by rfl) (by kernel_rfl) (opn_string Try.underlying9))) (fun x => ⟨⟨x.1, x.2⟩, rfl⟩) (fun _ => rfl)
theorem open33 : Opn Try.prog 33 (fun xs : List S_laws_PlantFoe => [.sl 2 xs.length (xs.map en_S_laws_PlantFoe)]) (fun xs : List S_laws_PlantFoe => (xs.length ≤ 9223372036854775807 ∧ xs.length * 32 ≤ 140737488351232) ∧ ∀ z ∈ xs, ok_laws_PlantFoe z) := opn_slice Try.underlying33 (by kernel_rfl) (Nat.le_of_ble_eq_true rfl) (by kernel_rfl) (fun _ => rfl) (open176)
theorem open178 : Opn Try.prog 178 en_S_laws_PlantPlace ok_laws_PlantPlace := opn_struct (f := fun y : S_laws_PlantPlace => (y.f0, y.f1, y.f2)) Try.underlying178 (by kernel_rfl) (opnF_cons (sa := 1) (by rfl) (by kernel_rfl) (opn_string Try.underlying9) (opnF_cons (sa := 1) (by rfl) (by kernel_rfl) (opn_int Try.underlying3) (opnF_one (sz := 1) (by rfl) (by kernel_rfl) (opn_string Try.underlying9)))) (fun x => ⟨⟨x.1, x.2.1, x.2.2⟩, rfl⟩) (fun _ => rfl)
theorem open34 : Opn Try.prog 34 (fun xs : List S_laws_PlantPlace => [.sl 3 xs.length (xs.map en_S_laws_PlantPlace)]) (fun xs : List S_laws_PlantPlace => (xs.length ≤ 9223372036854775807 ∧ xs.length * 40 ≤ 140737488351232) ∧ ∀ z ∈ xs, ok_laws_PlantPlace z) := opn_slice Try.underlying34 (by kernel_rfl) (Nat.le_of_ble_eq_true rfl) (by kernel_rfl) (fun _ => rfl) (open178)
theorem open180 : Opn Try.prog 180 en_S_laws_PlantValve ok_laws_PlantValve := opn_struct (f := fun y : S_laws_PlantValve => (y.f0, y.f1, y.f2, y.f3)) Try.underlying180 (by kernel_rfl) (opnF_cons (sa := 1) (by rfl) (by kernel_rfl) (opn_string Try.underlying9) (opnF_cons (sa := 1) (by rfl) (by kernel_rfl) (opn_string Try.underlying9) (opnF_cons (sa := 1) (by rfl) (by kernel_rfl) (opn_string Try.underlying9) (opnF_one (sz := 1) (by rfl) (by kernel_rfl) (opn_string Try.underlying9))))) (fun x => ⟨⟨x.1, x.2.1, x.2.2.1, x.2.2.2⟩, rfl⟩) (fun _ => rfl)
theorem open35 : Opn Try.prog 35 (fun xs : List S_laws_PlantValve => [.sl 4 xs.length (xs.map en_S_laws_PlantValve)]) (fun xs : List S_laws_PlantValve => (xs.length ≤ 9223372036854775807 ∧ xs.length * 64 ≤ 140737488351232) ∧ ∀ z ∈ xs, ok_laws_PlantValve z) := opn_slice Try.underlying35 (by kernel_rfl) (Nat.le_of_ble_eq_true rfl) (by kernel_rfl) (fun _ => rfl) (open180)
theorem open37 : Opn Try.prog 37 en_S_laws_Plant ok_laws_Plant := opn_struct (f := fun y : S_laws_Plant => (y.f0, y.f1, y.f2, y.f3)) Try.underlying37 (by kernel_rfl) (opnF_cons (sa := 1) (by rfl) (by kernel_rfl) (open24) (opnF_cons (sa := 1) (by rfl) (by kernel_rfl) (open33) (opnF_cons (sa := 1) (by rfl) (by kernel_rfl) (open34) (opnF_one (sz := 1) (by rfl) (by kernel_rfl) (open35))))) (fun x => ⟨⟨x.1, x.2.1, x.2.2.1, x.2.2.2⟩, rfl⟩) (fun _ => rfl)
theorem open193 : Opn Try.prog 193 en_S_laws_PlantMark ok_laws_PlantMark := opn_struct (f := fun y : S_laws_PlantMark => (y.f0, y.f1)) Try.underlying193 (by kernel_rfl) (opnF_cons (sa := 1) (by rfl) (by kernel_rfl) (opn_string Try.underlying9) (opnF_one (sz := 1) (by rfl) (by kernel_rfl) (opn_string Try.underlying9))) (fun x => ⟨⟨x.1, x.2⟩, rfl⟩) (fun _ => rfl)
theorem open69 : Opn Try.prog 69 (fun xs : List S_laws_PlantMark => [.sl 2 xs.length (xs.map en_S_laws_PlantMark)]) (fun xs : List S_laws_PlantMark => (xs.length ≤ 9223372036854775807 ∧ xs.length * 32 ≤ 140737488351232) ∧ ∀ z ∈ xs, ok_laws_PlantMark z) := opn_slice Try.underlying69 (by kernel_rfl) (Nat.le_of_ble_eq_true rfl) (by kernel_rfl) (fun _ => rfl) (open193)
theorem open71 : Opn Try.prog 71 en_S_laws_PlantIndex ok_laws_PlantIndex := opn_struct (f := fun y : S_laws_PlantIndex => (y.f0, y.f1)) Try.underlying71 (by kernel_rfl) (opnF_cons (sa := 1) (by rfl) (by kernel_rfl) (open24) (opnF_one (sz := 1) (by rfl) (by kernel_rfl) (open69))) (fun x => ⟨⟨x.1, x.2⟩, rfl⟩) (fun _ => rfl)
set_option maxRecDepth 100000 in
theorem lifted (os : Os) (started : os.Started) (H : Type) (enc : TypeId × Value → H) :
    ReturnsInHanded {} Try.checked os 8 .any (Rows.fnExactPlantTurnSpec.pre6 enc Try.prog Try.f8 Rows.fnExactPlantTurnRow.domain false) (Rows.fnExactPlantTurnSpec.post enc Try.prog Try.f8 false true false false) := by
  refine returnsInHanded_of_change_sized (C := Try.checked) own started (by kernel_rfl) Try.func8
    (ChangeSpec.witness6 (enc := enc) (C := Try.checked) false ⟨#[], #[.agg #[.slice none 0 0, .slice none 0 0, .slice none 0 0, .slice none 0 0], .agg #[.slice none 0 0, .slice none 0 0], .string ByteArray.empty, .bool false], []⟩ 16 (by kernel_rfl) (by kernel_rfl) (by kernel_rfl) (by kernel_rfl)) ?_
  intro W base args ds gs before hval0 hW hcnd hsz0 _
  have hsz : (DataW.weightsEach Try.prog (Try.f8.params.toList ++ Rows.fnExactPlantTurnSpec.plain.varTypes Try.prog) (ds ++ gs)).all (· ≤ reachBytes) = true := hsz0
  have hval : ∀ (j : Nat) t v, Try.f8.params[j]? = some t → args[j]? = some v → Value.okWide Try.prog W .any base t v := hval0
  have hW' := hW
  obtain ⟨p, q, hA0, hV, rfl, hfz, hnd⟩ := hW
  have hA : DataW.TrodAll enc Try.prog W 0 (fun _ => true) true Try.f8.params.toList args.toList ds p := hA0
  rw [Try.params8] at hA hval hsz
  obtain ⟨v0, vs0, d0, ds0, p0, q0, hargs, rfl, rfl, h0, r0⟩ := trodAll_cons hA
  obtain ⟨v1, vs1, d1, ds1, p1, q1, rfl, rfl, rfl, h1, r1⟩ := trodAll_cons r0
  obtain ⟨v2, vs2, d2, ds2, p2, q2, rfl, rfl, rfl, h2, r2⟩ := trodAll_cons r1
  obtain ⟨v3, vs3, d3, ds3, p3, q3, rfl, rfl, rfl, h3, r3⟩ := trodAll_cons r2
  obtain ⟨rfl, rfl, rfl⟩ := trodAll_nil r3
  obtain rfl : args = #[v0, v1, v2, v3] := by cases args; simp_all
  obtain ⟨rfl, rfl⟩ := trodVars_none hV
  have t0 := h0
  have lt0 : ∀ x ∈ p0, x.block < W.heap.size := by obtain ⟨m, hm⟩ := t0; exact DataW.trod_lt m _ _ _ hm
  obtain ⟨x0, hr0, ho0⟩ := opn_arg Try.underlying37 open37 (hval 0 37 v0 rfl rfl) h0 (fun n hn => by have z := List.all_eq_true.1 hsz n (DataW.weights_mem_each (j := 0) rfl rfl n hn); simpa using z)
  have t1 := h1
  have lt1 : ∀ x ∈ p1, x.block < W.heap.size := by obtain ⟨m, hm⟩ := t1; exact DataW.trod_lt m _ _ _ hm
  obtain ⟨x1, hr1, ho1⟩ := opn_arg Try.underlying71 open71 (hval 1 71 v1 rfl rfl) h1 (fun n hn => by have z := List.all_eq_true.1 hsz n (DataW.weights_mem_each (j := 1) rfl rfl n hn); simpa using z)
  obtain ⟨x2, rfl, rfl, rfl, y2⟩ := Go.ChangeMaps.open_string Try.underlying9 (hval 2 9 v2 rfl rfl) h2
  have w2 : x2.size ≤ 140737488351232 := by
    have z := sized_string hsz (j := 2) (t := 9) rfl rfl
    rw [Array.length_toList] at z
    exact z
  obtain ⟨x3, rfl, rfl, rfl⟩ := open_bool Try.underlying4 (hval 3 4 v3 rfl rfl) h3
  clear hA0 hval0 hsz0 hsz
  obtain ⟨k, hk⟩ := Pure.FnExactPlantTurn x0 x1 x2 x3 ho0 ho1 w2 trivial
  refine (calls_bool (laws_FnExactPlantTurn.ac (G := (fun _ => none)) hk) (vs := [v0, v1, .string x2, .bool x3]) ⟨hr0, hr1, .c (.str _), .c (.bool _), trivial⟩ gl_none).mono fun e W' ⟨he, bel⟩ => ?_
  subst he
  exact ⟨_, rfl, _, _, _, [], _, [], hW', trodAll_mk1 (shut_bool Try.underlying4 _), (trodAll_cons_mk (Below.trod laidOut (by kernel_rfl) (of_decide_eq_true (by kernel_rfl)) t0 bel lt0) (trodAll_cons_mk (Below.trod laidOut (by kernel_rfl) (of_decide_eq_true (by kernel_rfl)) t1 bel lt1) (trodAll_cons_mk (Go.ChangeMaps.shut_string Try.underlying9 y2) (trodAll_cons_mk (shut_bool Try.underlying4 _) trodAll_mk0)))), rfl, bel.frame _, fun h => by cases h⟩
theorem j0 : (Rows.fnExactPlantTurnRow.plainKeys == Try.pinned.checked.prog.plainKeys) = true := by kernel_rfl
theorem j1 : Try.pinned.checked.prog.stopsHeard = true := by kernel_rfl
theorem j2 : Try.pinned.checked.prog.mayEnter = true := by kernel_rfl
theorem j3 : (Rows.fnExactPlantTurnRow.lifted == Try.pinned.checked.prog.liftsFinal) = true := by kernel_rfl
theorem j4 : (Try.pinned.checked.prog.make == some Rows.fnExactPlantTurnRow.make) = true := by kernel_rfl
theorem joined : joinedFacts Try.pinned.checked.prog 8 Try.f8 Rows.fnExactPlantTurnSpec Rows.fnExactPlantTurnRow = true := by
  unfold joinedFacts
  simp only [Bool.and_eq_true]
  repeat' apply And.intro
  all_goals first | with_reducible exact j0 | with_reducible exact j1 | with_reducible exact j2 | with_reducible exact j3 | with_reducible exact j4 | kernel_rfl
theorem over : Rows.fnExactPlantTurnRow.holds Try.pinned (OpenSpec.ofChange Rows.fnExactPlantTurnSpec) :=
  OpenClaim.holds_of_wide 8 Try.f8 rfl rfl rfl rfl rfl rfl rfl ⟨rfl, rfl, rfl, rfl, rfl⟩ rfl rfl rfl rfl rfl (by kernel_rfl) Try.func8 joined
    (of_decide_eq_true (by kernel_rfl)) (by unfold Func.isWrapper; first | (rw [if_pos (by decide +kernel)]; kernel_rfl) | (rw [if_neg (by decide +kernel)]; exact ⟨rfl, rfl⟩))
    (fun os started H enc _ => lifted os started H enc)
theorem proved : Rows.FnExactPlantTurnSaid := over
#print axioms proved
end Go.Proofs.Ytodeegjblililaa.fnExactPlantTurn
namespace Go.Proofs.Ytodeegjblililaa
/-- The row, under a short name, for the claim. -/
theorem fnExactPlantTurn_holds : Rows.FnExactPlantTurnSaid := fnExactPlantTurn.proved
end Go.Proofs.Ytodeegjblililaa
