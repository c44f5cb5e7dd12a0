/- For every index and any two places within the law's bounds PlantJoined answers as the reference does, and leaves its argument as it was. -/
import Derived.Test.YtodeegjblililaaRows
import Derived.Test.YtodeegjblililaaZFnExactPlantJoined0
import Derived.KernelRfl
namespace Go.Proofs.Ytodeegjblililaa.fnExactPlantJoined
open Go.ChangeShapes Go.WideShapes Go.ChangeAt Go.RowKit Go.Aw Go.Proofs.Ytodeegjblililaa.PJ
set_option linter.unusedVariables false
theorem own : ownKnob Try.prog.godebug = none := by kernel_rfl
theorem laidOut : laidOutB Try.prog = true := by kernel_rfl
theorem open24 : Opn Try.prog 24 (fun xs : List ByteArray => [.sl 1 xs.length (xs.map en_str)]) (fun xs : List ByteArray => (xs.length ≤ 9223372036854775807 ∧ xs.length * 16 ≤ 140737488351232) ∧ ∀ z ∈ xs, z.size ≤ 140737488351232) := opn_slice Try.underlying24 (by kernel_rfl) (Nat.le_of_ble_eq_true rfl) (by kernel_rfl) (fun _ => rfl) (opn_string Try.underlying9)
theorem open193 : Opn Try.prog 193 en_S_laws_PlantMark ok_laws_PlantMark := opn_struct (f := fun y : S_laws_PlantMark => (y.f0, y.f1)) Try.underlying193 (by kernel_rfl) (opnF_cons (sa := 1) (by rfl) (by kernel_rfl) (opn_string Try.underlying9) (opnF_one (sz := 1) (by rfl) (by kernel_rfl) (opn_string Try.underlying9))) (fun x => ⟨⟨x.1, x.2⟩, rfl⟩) (fun _ => rfl)
theorem open69 : Opn Try.prog 69 (fun xs : List S_laws_PlantMark => [.sl 2 xs.length (xs.map en_S_laws_PlantMark)]) (fun xs : List S_laws_PlantMark => (xs.length ≤ 9223372036854775807 ∧ xs.length * 32 ≤ 140737488351232) ∧ ∀ z ∈ xs, ok_laws_PlantMark z) := opn_slice Try.underlying69 (by kernel_rfl) (Nat.le_of_ble_eq_true rfl) (by kernel_rfl) (fun _ => rfl) (open193)
theorem open71 : Opn Try.prog 71 en_S_laws_PlantIndex ok_laws_PlantIndex := opn_struct (f := fun y : S_laws_PlantIndex => (y.f0, y.f1)) Try.underlying71 (by kernel_rfl) (opnF_cons (sa := 1) (by rfl) (by kernel_rfl) (open24) (opnF_one (sz := 1) (by rfl) (by kernel_rfl) (open69))) (fun x => ⟨⟨x.1, x.2⟩, rfl⟩) (fun _ => rfl)
set_option maxRecDepth 100000 in
theorem lifted (os : Os) (started : os.Started) (H : Type) (enc : TypeId × Value → H) :
    ReturnsInHanded {} Try.checked os 9 .any (Rows.fnExactPlantJoinedSpec.pre6 enc Try.prog Try.f9 Rows.fnExactPlantJoinedRow.domain false) (Rows.fnExactPlantJoinedSpec.post enc Try.prog Try.f9 false true false false) := by
  refine returnsInHanded_of_change_sized (C := Try.checked) own started (by kernel_rfl) Try.func9
    (ChangeSpec.witness6 (enc := enc) (C := Try.checked) false ⟨#[], #[.agg #[.slice none 0 0, .slice none 0 0], .string ByteArray.empty, .string ByteArray.empty], []⟩ 16 (by kernel_rfl) (by kernel_rfl) (by kernel_rfl) (by kernel_rfl)) ?_
  intro W base args ds gs before hval0 hW hcnd hsz0 _
  have hsz : (DataW.weightsEach Try.prog (Try.f9.params.toList ++ Rows.fnExactPlantJoinedSpec.plain.varTypes Try.prog) (ds ++ gs)).all (· ≤ reachBytes) = true := hsz0
  have hval : ∀ (j : Nat) t v, Try.f9.params[j]? = some t → args[j]? = some v → Value.okWide Try.prog W .any base t v := hval0
  have hW' := hW
  obtain ⟨p, q, hA0, hV, rfl, hfz, hnd⟩ := hW
  have hA : DataW.TrodAll enc Try.prog W 0 (fun _ => true) true Try.f9.params.toList args.toList ds p := hA0
  rw [Try.params9] at hA hval hsz
  obtain ⟨v0, vs0, d0, ds0, p0, q0, hargs, rfl, rfl, h0, r0⟩ := trodAll_cons hA
  obtain ⟨v1, vs1, d1, ds1, p1, q1, rfl, rfl, rfl, h1, r1⟩ := trodAll_cons r0
  obtain ⟨v2, vs2, d2, ds2, p2, q2, rfl, rfl, rfl, h2, r2⟩ := trodAll_cons r1
  obtain ⟨rfl, rfl, rfl⟩ := trodAll_nil r2
  obtain rfl : args = #[v0, v1, v2] := by cases args; simp_all
  obtain ⟨rfl, rfl⟩ := trodVars_none hV
  have t0 := h0
  have lt0 : ∀ x ∈ p0, x.block < W.heap.size := by obtain ⟨m, hm⟩ := t0; exact DataW.trod_lt m _ _ _ hm
  obtain ⟨x0, hr0, ho0⟩ := opn_arg Try.underlying71 open71 (hval 0 71 v0 rfl rfl) h0 (fun n hn => by have z := List.all_eq_true.1 hsz n (DataW.weights_mem_each (j := 0) rfl rfl n hn); simpa using z)
  obtain ⟨x1, rfl, rfl, rfl, y1⟩ := Go.ChangeMaps.open_string Try.underlying9 (hval 1 9 v1 rfl rfl) h1
  have w1 : x1.size ≤ 140737488351232 := by
    have z := sized_string hsz (j := 1) (t := 9) rfl rfl
    rw [Array.length_toList] at z
    exact z
  obtain ⟨x2, rfl, rfl, rfl, y2⟩ := Go.ChangeMaps.open_string Try.underlying9 (hval 2 9 v2 rfl rfl) h2
  have w2 : x2.size ≤ 140737488351232 := by
    have z := sized_string hsz (j := 2) (t := 9) rfl rfl
    rw [Array.length_toList] at z
    exact z
  clear hA0 hval0 hsz0 hsz
  obtain ⟨k, hk⟩ := Pure.FnExactPlantJoined x0 x1 x2 ho0 w1 w2
  refine (calls_bool (laws_FnExactPlantJoined.ac (G := (fun _ => none)) hk) (vs := [v0, .string x1, .string x2]) ⟨hr0, .c (.str _), .c (.str _), trivial⟩ gl_none).mono fun e W' ⟨he, bel⟩ => ?_
  subst he
  exact ⟨_, rfl, _, _, _, [], _, [], hW', trodAll_mk1 (shut_bool Try.underlying4 _), (trodAll_cons_mk (Below.trod laidOut (by kernel_rfl) (of_decide_eq_true (by kernel_rfl)) t0 bel lt0) (trodAll_cons_mk (Go.ChangeMaps.shut_string Try.underlying9 y1) (trodAll_cons_mk (Go.ChangeMaps.shut_string Try.underlying9 y2) trodAll_mk0))), rfl, bel.frame _, fun h => by cases h⟩
theorem j0 : (Rows.fnExactPlantJoinedRow.plainKeys == Try.pinned.checked.prog.plainKeys) = true := by kernel_rfl
theorem j1 : Try.pinned.checked.prog.stopsHeard = true := by kernel_rfl
theorem j2 : Try.pinned.checked.prog.mayEnter = true := by kernel_rfl
theorem j3 : (Rows.fnExactPlantJoinedRow.lifted == Try.pinned.checked.prog.liftsFinal) = true := by kernel_rfl
theorem j4 : (Try.pinned.checked.prog.make == some Rows.fnExactPlantJoinedRow.make) = true := by kernel_rfl
theorem joined : joinedFacts Try.pinned.checked.prog 9 Try.f9 Rows.fnExactPlantJoinedSpec Rows.fnExactPlantJoinedRow = true := by
  unfold joinedFacts
  simp only [Bool.and_eq_true]
  repeat' apply And.intro
  all_goals first | with_reducible exact j0 | with_reducible exact j1 | with_reducible exact j2 | with_reducible exact j3 | with_reducible exact j4 | kernel_rfl
theorem over : Rows.fnExactPlantJoinedRow.holds Try.pinned (OpenSpec.ofChange Rows.fnExactPlantJoinedSpec) :=
  OpenClaim.holds_of_wide 9 Try.f9 rfl rfl rfl rfl rfl rfl rfl ⟨rfl, rfl, rfl, rfl, rfl⟩ rfl rfl rfl rfl rfl (by kernel_rfl) Try.func9 joined
    (of_decide_eq_true (by kernel_rfl)) (by unfold Func.isWrapper; first | (rw [if_pos (by decide +kernel)]; kernel_rfl) | (rw [if_neg (by decide +kernel)]; exact ⟨rfl, rfl⟩))
    (fun os started H enc _ => lifted os started H enc)
theorem proved : Rows.FnExactPlantJoinedSaid := over
#print axioms proved
end Go.Proofs.Ytodeegjblililaa.fnExactPlantJoined
namespace Go.Proofs.Ytodeegjblililaa
/-- The row, under a short name, for the claim. -/
theorem fnExactPlantJoined_holds : Rows.FnExactPlantJoinedSaid := fnExactPlantJoined.proved
end Go.Proofs.Ytodeegjblililaa
