/- The program's PlantGuards answers what the reference's PlantGuards answers, for every plant and route, and writes into no argument. No condition beyond the row's own. -/
import Derived.Test.YtpildfacenlceaaRows
import Derived.Test.YtpildfacenlceaaZFnExactPlantGuards2
import Derived.KernelRfl
namespace Go.Proofs.Ytpildfacenlceaa.fnExactPlantGuards
open Go.ChangeShapes Go.WideShapes Go.ChangeAt Go.RowKit Go.Aw Go.Proofs.Ytpildfacenlceaa.GU
set_option linter.unusedVariables false
theorem own : ownKnob Try.prog.godebug = none := by kernel_rfl
theorem laidOut : laidOutB Try.prog = true := by kernel_rfl
theorem open22 : Opn Try.prog 22 (fun xs : List ByteArray => [.sl 1 xs.length (xs.map en_str)]) (fun xs : List ByteArray => (xs.length ≤ 9223372036854775807 ∧ xs.length * 16 ≤ 140737488351232) ∧ ∀ z ∈ xs, z.size ≤ 140737488351232) := opn_slice Try.underlying22 (by kernel_rfl) (Nat.le_of_ble_eq_true rfl) (by kernel_rfl) (fun _ => rfl) (opn_string Try.underlying9)
theorem open140 : Opn Try.prog 140 en_S_laws_PlantFoe ok_laws_PlantFoe := opn_struct (f := fun y : S_laws_PlantFoe => (y.f0, y.f1)) Try.underlying140 (by kernel_rfl) (opnF_cons (sa := 1) (by rfl) (by kernel_rfl) (opn_string Try.underlying9) (opnF_one (sz := 1) (by rfl) (by kernel_rfl) (opn_string Try.underlying9))) (fun x => ⟨⟨x.1, x.2⟩, rfl⟩) (fun _ => rfl)
theorem open23 : Opn Try.prog 23 (fun xs : List S_laws_PlantFoe => [.sl 2 xs.length (xs.map en_S_laws_PlantFoe)]) (fun xs : List S_laws_PlantFoe => (xs.length ≤ 9223372036854775807 ∧ xs.length * 32 ≤ 140737488351232) ∧ ∀ z ∈ xs, ok_laws_PlantFoe z) := opn_slice Try.underlying23 (by kernel_rfl) (Nat.le_of_ble_eq_true rfl) (by kernel_rfl) (fun _ => rfl) (open140)
theorem open142 : Opn Try.prog 142 en_S_laws_PlantPlace ok_laws_PlantPlace := opn_struct (f := fun y : S_laws_PlantPlace => (y.f0, y.f1, y.f2)) Try.underlying142 (by kernel_rfl) (opnF_cons (sa := 1) (by rfl) (by kernel_rfl) (opn_string Try.underlying9) (opnF_cons (sa := 1) (by rfl) (by kernel_rfl) (opn_int Try.underlying3) (opnF_one (sz := 1) (by rfl) (by kernel_rfl) (opn_string Try.underlying9)))) (fun x => ⟨⟨x.1, x.2.1, x.2.2⟩, rfl⟩) (fun _ => rfl)
theorem open24 : Opn Try.prog 24 (fun xs : List S_laws_PlantPlace => [.sl 3 xs.length (xs.map en_S_laws_PlantPlace)]) (fun xs : List S_laws_PlantPlace => (xs.length ≤ 9223372036854775807 ∧ xs.length * 40 ≤ 140737488351232) ∧ ∀ z ∈ xs, ok_laws_PlantPlace z) := opn_slice Try.underlying24 (by kernel_rfl) (Nat.le_of_ble_eq_true rfl) (by kernel_rfl) (fun _ => rfl) (open142)
theorem open144 : Opn Try.prog 144 en_S_laws_PlantValve ok_laws_PlantValve := opn_struct (f := fun y : S_laws_PlantValve => (y.f0, y.f1, y.f2, y.f3)) Try.underlying144 (by kernel_rfl) (opnF_cons (sa := 1) (by rfl) (by kernel_rfl) (opn_string Try.underlying9) (opnF_cons (sa := 1) (by rfl) (by kernel_rfl) (opn_string Try.underlying9) (opnF_cons (sa := 1) (by rfl) (by kernel_rfl) (opn_string Try.underlying9) (opnF_one (sz := 1) (by rfl) (by kernel_rfl) (opn_string Try.underlying9))))) (fun x => ⟨⟨x.1, x.2.1, x.2.2.1, x.2.2.2⟩, rfl⟩) (fun _ => rfl)
theorem open25 : Opn Try.prog 25 (fun xs : List S_laws_PlantValve => [.sl 4 xs.length (xs.map en_S_laws_PlantValve)]) (fun xs : List S_laws_PlantValve => (xs.length ≤ 9223372036854775807 ∧ xs.length * 64 ≤ 140737488351232) ∧ ∀ z ∈ xs, ok_laws_PlantValve z) := opn_slice Try.underlying25 (by kernel_rfl) (Nat.le_of_ble_eq_true rfl) (by kernel_rfl) (fun _ => rfl) (open144)
theorem open27 : Opn Try.prog 27 en_S_laws_Plant ok_laws_Plant := opn_struct (f := fun y : S_laws_Plant => (y.f0, y.f1, y.f2, y.f3)) Try.underlying27 (by kernel_rfl) (opnF_cons (sa := 1) (by rfl) (by kernel_rfl) (open22) (opnF_cons (sa := 1) (by rfl) (by kernel_rfl) (open23) (opnF_cons (sa := 1) (by rfl) (by kernel_rfl) (open24) (opnF_one (sz := 1) (by rfl) (by kernel_rfl) (open25))))) (fun x => ⟨⟨x.1, x.2.1, x.2.2.1, x.2.2.2⟩, rfl⟩) (fun _ => rfl)
theorem open46 : Opn Try.prog 46 en_S_laws_PlantRoute ok_laws_PlantRoute := opn_struct (f := fun y : S_laws_PlantRoute => (y.f0, y.f1)) Try.underlying46 (by kernel_rfl) (opnF_cons (sa := 1) (by rfl) (by kernel_rfl) (open22) (opnF_one (sz := 1) (by rfl) (by kernel_rfl) (open22))) (fun x => ⟨⟨x.1, x.2⟩, rfl⟩) (fun _ => rfl)
set_option maxRecDepth 100000 in
theorem lifted (os : Os) (started : os.Started) (H : Type) (enc : TypeId × Value → H) :
    ReturnsInHanded {} Try.checked os 6 .any (Rows.fnExactPlantGuardsSpec.pre6 enc Try.prog Try.f6 Rows.fnExactPlantGuardsRow.domain false) (Rows.fnExactPlantGuardsSpec.post enc Try.prog Try.f6 false true false false) := by
  refine returnsInHanded_of_change_sized (C := Try.checked) own started (by kernel_rfl) Try.func6
    (ChangeSpec.witness6 (enc := enc) (C := Try.checked) false ⟨#[], #[.agg #[.slice none 0 0, .slice none 0 0, .slice none 0 0, .slice none 0 0], .agg #[.slice none 0 0, .slice none 0 0]], []⟩ 16 (by kernel_rfl) (by kernel_rfl) (by kernel_rfl) (by kernel_rfl)) ?_
  intro W base args ds gs before hval0 hW hcnd hsz0 _
  have hsz : (DataW.weightsEach Try.prog (Try.f6.params.toList ++ Rows.fnExactPlantGuardsSpec.plain.varTypes Try.prog) (ds ++ gs)).all (· ≤ reachBytes) = true := hsz0
  have hval : ∀ (j : Nat) t v, Try.f6.params[j]? = some t → args[j]? = some v → Value.okWide Try.prog W .any base t v := hval0
  have hW' := hW
  obtain ⟨p, q, hA0, hV, rfl, hfz, hnd⟩ := hW
  have hA : DataW.TrodAll enc Try.prog W 0 (fun _ => true) true Try.f6.params.toList args.toList ds p := hA0
  rw [Try.params6] at hA hval hsz
  obtain ⟨v0, vs0, d0, ds0, p0, q0, hargs, rfl, rfl, h0, r0⟩ := trodAll_cons hA
  obtain ⟨v1, vs1, d1, ds1, p1, q1, rfl, rfl, rfl, h1, r1⟩ := trodAll_cons r0
  obtain ⟨rfl, rfl, rfl⟩ := trodAll_nil r1
  obtain rfl : args = #[v0, v1] := by cases args; simp_all
  obtain ⟨rfl, rfl⟩ := trodVars_none hV
  have t0 := h0
  have lt0 : ∀ x ∈ p0, x.block < W.heap.size := by obtain ⟨m, hm⟩ := t0; exact DataW.trod_lt m _ _ _ hm
  obtain ⟨x0, hr0, ho0⟩ := opn_arg Try.underlying27 open27 (hval 0 27 v0 rfl rfl) h0 (fun n hn => by have z := List.all_eq_true.1 hsz n (DataW.weights_mem_each (j := 0) rfl rfl n hn); simpa using z)
  have t1 := h1
  have lt1 : ∀ x ∈ p1, x.block < W.heap.size := by obtain ⟨m, hm⟩ := t1; exact DataW.trod_lt m _ _ _ hm
  obtain ⟨x1, hr1, ho1⟩ := opn_arg Try.underlying46 open46 (hval 1 46 v1 rfl rfl) h1 (fun n hn => by have z := List.all_eq_true.1 hsz n (DataW.weights_mem_each (j := 1) rfl rfl n hn); simpa using z)
  clear hA0 hval0 hsz0 hsz
  obtain ⟨k, hk⟩ := Pure.FnExactPlantGuards x0 x1 ho0 ho1
  refine (calls_bool (laws_FnExactPlantGuards.ac (G := (fun _ => none)) hk) (vs := [v0, v1]) ⟨hr0, hr1, trivial⟩ gl_none).mono fun e W' ⟨he, bel⟩ => ?_
  subst he
  exact ⟨_, rfl, _, _, _, [], _, [], hW', trodAll_mk1 (shut_bool Try.underlying4 _), (trodAll_cons_mk (Below.trod laidOut (by kernel_rfl) (of_decide_eq_true (by kernel_rfl)) t0 bel lt0) (trodAll_cons_mk (Below.trod laidOut (by kernel_rfl) (of_decide_eq_true (by kernel_rfl)) t1 bel lt1) trodAll_mk0)), rfl, bel.frame _, fun h => by cases h⟩
theorem over : Rows.fnExactPlantGuardsRow.holds Try.pinned (OpenSpec.ofChange Rows.fnExactPlantGuardsSpec) :=
  OpenClaim.holds_of_wide 6 Try.f6 rfl rfl rfl rfl rfl rfl rfl ⟨rfl, rfl, rfl, rfl, rfl⟩ rfl rfl rfl rfl rfl (by kernel_rfl) Try.func6 (by kernel_rfl)
    (of_decide_eq_true (by kernel_rfl)) (by unfold Func.isWrapper; first | (rw [if_pos (by decide +kernel)]; kernel_rfl) | (rw [if_neg (by decide +kernel)]; exact ⟨rfl, rfl⟩))
    (fun os started H enc _ => lifted os started H enc)
theorem proved : Rows.FnExactPlantGuardsSaid := over
#print axioms proved
end Go.Proofs.Ytpildfacenlceaa.fnExactPlantGuards
namespace Go.Proofs.Ytpildfacenlceaa
/-- The row, under a short name, for the claim. -/
theorem fnExactPlantGuards_holds : Rows.FnExactPlantGuardsSaid := fnExactPlantGuards.proved
end Go.Proofs.Ytpildfacenlceaa
