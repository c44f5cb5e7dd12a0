/- The program's PlantGroups returns what the reference's returns, for all arguments. -/
import Derived.Test.YtodeegjblililaaRows
import Derived.Test.YtodeegjblililaaZFnExactPlantGroups2
import Derived.KernelRfl
namespace Go.Proofs.Ytodeegjblililaa.fnExactPlantGroups
open Go.ChangeShapes Go.WideShapes Go.ChangeAt Go.RowKit Go.Aw Go.Proofs.Ytodeegjblililaa.PS
set_option linter.unusedVariables false
theorem own : ownKnob Try.prog.godebug = none := by kernel_rfl
theorem laidOut : laidOutB Try.prog = true := by kernel_rfl
theorem open24 : Opn Try.prog 24 (fun xs : List ByteArray => [.sl 1 xs.length (xs.map en_str)]) (fun xs : List ByteArray => (xs.length ≤ 9223372036854775807 ∧ xs.length * 16 ≤ 140737488351232) ∧ ∀ z ∈ xs, z.size ≤ 140737488351232) := opn_slice Try.underlying24 (by kernel_rfl) (Nat.le_of_ble_eq_true rfl) (by kernel_rfl) (fun _ => rfl) (opn_string Try.underlying9)
theorem open176 : Opn Try.prog 176 en_S_laws_PlantFoe ok_laws_PlantFoe := opn_struct (f := fun y : S_laws_PlantFoe => (y.f0, y.f1)) Try.underlying176 (by kernel_rfl) (opnF_cons (sa := 1) (by rfl) (by kernel_rfl) (opn_string Try.underlying9) (opnF_one (sz := 1) (by rfl) (by kernel_rfl) (opn_string Try.underlying9))) (fun x => ⟨⟨x.1, x.2⟩, rfl⟩) (fun _ => rfl)
theorem open33 : Opn Try.prog 33 (fun xs : List S_laws_PlantFoe => [.sl 2 xs.length (xs.map en_S_laws_PlantFoe)]) (fun xs : List S_laws_PlantFoe => (xs.length ≤ 9223372036854775807 ∧ xs.length * 32 ≤ 140737488351232) ∧ ∀ z ∈ xs, ok_laws_PlantFoe z) := opn_slice Try.underlying33 (by kernel_rfl) (Nat.le_of_ble_eq_true rfl) (by kernel_rfl) (fun _ => rfl) (open176)
theorem open178 : Opn Try.prog 178 en_S_laws_PlantPlace ok_laws_PlantPlace := opn_struct (f := fun y : S_laws_PlantPlace => (y.f0, y.f1, y.f2)) Try.underlying178 (by kernel_rfl) (opnF_cons (sa := 1) (by rfl) (by kernel_rfl) (opn_string Try.underlying9) (opnF_cons (sa := 1) (by rfl) (by kernel_rfl) (opn_int Try.underlying3) (opnF_one (sz := 1) (by rfl) (by kernel_rfl) (opn_string Try.underlying9)))) (fun x => ⟨⟨x.1, x.2.1, x.2.2⟩, rfl⟩) (fun _ => rfl)
theorem open34 : Opn Try.prog 34 (fun xs : List S_laws_PlantPlace => [.sl 3 xs.length (xs.map en_S_laws_PlantPlace)]) (fun xs : List S_laws_PlantPlace => (xs.length ≤ 9223372036854775807 ∧ xs.length * 40 ≤ 140737488351232) ∧ ∀ z ∈ xs, ok_laws_PlantPlace z) := opn_slice Try.underlying34 (by kernel_rfl) (Nat.le_of_ble_eq_true rfl) (by kernel_rfl) (fun _ => rfl) (open178)
theorem open180 : Opn Try.prog 180 en_S_laws_PlantValve ok_laws_PlantValve := opn_struct (f := fun y : S_laws_PlantValve => (y.f0, y.f1, y.f2, y.f3)) Try.underlying180 (by kernel_rfl) (opnF_cons (sa := 1) (by rfl) (by kernel_rfl) (opn_string Try.underlying9) (opnF_cons (sa := 1) (by rfl) (by kernel_rfl) (opn_string Try.underlying9) (opnF_cons (sa := 1) (by rfl) (by kernel_rfl) (opn_string Try.underlying9) (opnF_one (sz := 1) (by rfl) (by kernel_rfl) (opn_string Try.underlying9))))) (fun x => ⟨⟨x.1, x.2.1, x.2.2.1, x.2.2.2⟩, rfl⟩) (fun _ => rfl)
theorem open35 : Opn Try.prog 35 (fun xs : List S_laws_PlantValve => [.sl 4 xs.length (xs.map en_S_laws_PlantValve)]) (fun xs : List S_laws_PlantValve => (xs.length ≤ 9223372036854775807 ∧ xs.length * 64 ≤ 140737488351232) ∧ ∀ z ∈ xs, ok_laws_PlantValve z) := opn_slice Try.underlying35 (by kernel_rfl) (Nat.le_of_ble_eq_true rfl) (by kernel_rfl) (fun _ => rfl) (open180)
theorem open37 : Opn Try.prog 37 en_S_laws_Plant ok_laws_Plant := opn_struct (f := fun y : S_laws_Plant => (y.f0, y.f1, y.f2, y.f3)) Try.underlying37 (by kernel_rfl) (opnF_cons (sa := 1) (by rfl) (by kernel_rfl) (open24) (opnF_cons (sa := 1) (by rfl) (by kernel_rfl) (open33) (opnF_cons (sa := 1) (by rfl) (by kernel_rfl) (open34) (opnF_one (sz := 1) (by rfl) (by kernel_rfl) (open35))))) (fun x => ⟨⟨x.1, x.2.1, x.2.2.1, x.2.2.2⟩, rfl⟩) (fun _ => rfl)
set_option maxRecDepth 100000 in
theorem lifted (os : Os) (started : os.Started) (H : Type) (enc : TypeId × Value → H) :
    ReturnsInHanded {} Try.checked os 5 .any (Rows.fnExactPlantGroupsSpec.pre6 enc Try.prog Try.f5 Rows.fnExactPlantGroupsRow.domain false) (Rows.fnExactPlantGroupsSpec.post enc Try.prog Try.f5 false true false false) := by
  refine returnsInHanded_of_change_sized (C := Try.checked) own started (by kernel_rfl) Try.func5
    (ChangeSpec.witness6 (enc := enc) (C := Try.checked) false ⟨#[], #[.agg #[.slice none 0 0, .slice none 0 0, .slice none 0 0, .slice none 0 0], .slice none 0 0], []⟩ 16 (by kernel_rfl) (by kernel_rfl) (by kernel_rfl) (by kernel_rfl)) ?_
  intro W base args ds gs before hval0 hW hcnd hsz0 _
  have hsz : (DataW.weightsEach Try.prog (Try.f5.params.toList ++ Rows.fnExactPlantGroupsSpec.plain.varTypes Try.prog) (ds ++ gs)).all (· ≤ reachBytes) = true := hsz0
  have hval : ∀ (j : Nat) t v, Try.f5.params[j]? = some t → args[j]? = some v → Value.okWide Try.prog W .any base t v := hval0
  have hW' := hW
  obtain ⟨p, q, hA0, hV, rfl, hfz, hnd⟩ := hW
  have hA : DataW.TrodAll enc Try.prog W 0 (fun _ => true) true Try.f5.params.toList args.toList ds p := hA0
  rw [Try.params5] at hA hval hsz
  obtain ⟨v0, vs0, d0, ds0, p0, q0, hargs, rfl, rfl, h0, r0⟩ := trodAll_cons hA
  obtain ⟨v1, vs1, d1, ds1, p1, q1, rfl, rfl, rfl, h1, r1⟩ := trodAll_cons r0
  obtain ⟨rfl, rfl, rfl⟩ := trodAll_nil r1
  obtain rfl : args = #[v0, v1] := by cases args; simp_all
  obtain ⟨rfl, rfl⟩ := trodVars_none hV
  have t0 := h0
  have lt0 : ∀ x ∈ p0, x.block < W.heap.size := by obtain ⟨m, hm⟩ := t0; exact DataW.trod_lt m _ _ _ hm
  obtain ⟨x0, hr0, ho0⟩ := opn_arg Try.underlying37 open37 (hval 0 37 v0 rfl rfl) h0 (fun n hn => by have z := List.all_eq_true.1 hsz n (DataW.weights_mem_each (j := 0) rfl rfl n hn); simpa using z)
  have t1 := h1
  have lt1 : ∀ x ∈ p1, x.block < W.heap.size := by obtain ⟨m, hm⟩ := t1; exact DataW.trod_lt m _ _ _ hm
  obtain ⟨x1, hr1, ho1⟩ := opn_slice_arg (en0 := fun xs : List ByteArray => .sl 1 xs.length (xs.map en_str)) Try.underlying24 open24 (hval 1 24 v1 rfl rfl) h1 (fun n hn => by have z := List.all_eq_true.1 hsz n (DataW.weights_mem_each (j := 1) rfl rfl n hn); simpa using z)
  clear hA0 hval0 hsz0 hsz
  obtain ⟨k, hk⟩ := Pure.FnExactPlantGroups x0 x1 ho0 ho1
  refine (calls_bool (laws_FnExactPlantGroups.ac (G := (fun _ => none)) hk) (vs := [v0, v1]) ⟨hr0, hr1, trivial⟩ gl_none).mono fun e W' ⟨he, bel⟩ => ?_
  subst he
  exact ⟨_, rfl, _, _, _, [], _, [], hW', trodAll_mk1 (shut_bool Try.underlying4 _), (trodAll_cons_mk (Below.trod laidOut (by kernel_rfl) (of_decide_eq_true (by kernel_rfl)) t0 bel lt0) (trodAll_cons_mk (Below.trod laidOut (by kernel_rfl) (of_decide_eq_true (by kernel_rfl)) t1 bel lt1) trodAll_mk0)), rfl, bel.frame _, fun h => by cases h⟩
theorem j0 : (Rows.fnExactPlantGroupsRow.plainKeys == Try.pinned.checked.prog.plainKeys) = true := by kernel_rfl
theorem j1 : Try.pinned.checked.prog.stopsHeard = true := by kernel_rfl
theorem j2 : Try.pinned.checked.prog.mayEnter = true := by kernel_rfl
theorem j3 : (Rows.fnExactPlantGroupsRow.lifted == Try.pinned.checked.prog.liftsFinal) = true := by kernel_rfl
theorem j4 : (Try.pinned.checked.prog.make == some Rows.fnExactPlantGroupsRow.make) = true := by kernel_rfl
theorem joined : joinedFacts Try.pinned.checked.prog 5 Try.f5 Rows.fnExactPlantGroupsSpec Rows.fnExactPlantGroupsRow = true := by
  unfold joinedFacts
  simp only [Bool.and_eq_true]
  repeat' apply And.intro
  all_goals first | with_reducible exact j0 | with_reducible exact j1 | with_reducible exact j2 | with_reducible exact j3 | with_reducible exact j4 | kernel_rfl
theorem over : Rows.fnExactPlantGroupsRow.holds Try.pinned (OpenSpec.ofChange Rows.fnExactPlantGroupsSpec) :=
  OpenClaim.holds_of_wide 5 Try.f5 rfl rfl rfl rfl rfl rfl rfl ⟨rfl, rfl, rfl, rfl, rfl⟩ rfl rfl rfl rfl rfl (by kernel_rfl) Try.func5 joined
    (of_decide_eq_true (by kernel_rfl)) (by unfold Func.isWrapper; first | (rw [if_pos (by decide +kernel)]; kernel_rfl) | (rw [if_neg (by decide +kernel)]; exact ⟨rfl, rfl⟩))
    (fun os started H enc _ => lifted os started H enc)
theorem proved : Rows.FnExactPlantGroupsSaid := over
#print axioms proved
end Go.Proofs.Ytodeegjblililaa.fnExactPlantGroups
namespace Go.Proofs.Ytodeegjblililaa
/-- The row, under a short name, for the claim. -/
theorem fnExactPlantGroups_holds : Rows.FnExactPlantGroupsSaid := fnExactPlantGroups.proved
end Go.Proofs.Ytodeegjblililaa
