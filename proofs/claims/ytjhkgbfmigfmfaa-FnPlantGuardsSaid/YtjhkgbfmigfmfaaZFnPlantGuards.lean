/- For every drawn plant, open valves and route PlantAlone and PlantGuards answer as the reference does; with its valves open and its guards shut the route is alone, and with a guard open it is alone only if that guard leads back to it. -/
import Derived.Test.YtjhkgbfmigfmfaaRows
import Derived.Test.YtjhkgbfmigfmfaaZFnPlantGuards4
import Derived.KernelRfl
namespace Go.Proofs.Ytjhkgbfmigfmfaa.fnPlantGuards
open Go.ChangeShapes Go.WideShapes Go.ChangeAt Go.RowKit Go.Aw Go.Proofs.Ytjhkgbfmigfmfaa.GV
set_option linter.unusedVariables false
theorem own : ownKnob Try.prog.godebug = none := by kernel_rfl
theorem aFK : laidOutB Try.prog = true := by kernel_rfl
theorem aHT : Opn Try.prog 22 (fun xs : List Int => [.sl 1 xs.length (xs.map uE)]) (fun xs : List Int => (xs.length ≤ 9223372036854775807 ∧ xs.length * 1 ≤ 140737488351232) ∧ ∀ z ∈ xs, (Lit.int .u8 z).wf = true) := aBY Try.underlying22 (by kernel_rfl) (Nat.le_of_ble_eq_true rfl) (by kernel_rfl) (fun _ => rfl) (aFM Try.underlying5)
set_option maxRecDepth 100000 in
theorem lifted (os : Os) (started : os.Started) (H : Type) (enc : TypeId × Value → H) :
    ReturnsInHanded {} Try.checked os 3 .any (Rows.fnPlantGuardsSpec.pre6 enc Try.prog Try.f3 Rows.fnPlantGuardsRow.domain false) (Rows.fnPlantGuardsSpec.post enc Try.prog Try.f3 false true false false) := by
  refine returnsInHanded_of_change_sized (C := Try.checked) own started (by kernel_rfl) Try.func3
    (ChangeSpec.witness6 (enc := enc) (C := Try.checked) false ⟨#[], #[.slice none 0 0], []⟩ 16 (by kernel_rfl) (by kernel_rfl) (by kernel_rfl) (by kernel_rfl)) ?_
  intro W base args ds gs before hval0 hW hcnd hsz0 _
  have hsz : (DataW.weightsEach Try.prog (Try.f3.params.toList ++ Rows.fnPlantGuardsSpec.plain.varTypes Try.prog) (ds ++ gs)).all (· ≤ reachBytes) = true := hsz0
  have hval : ∀ (j : Nat) t v, Try.f3.params[j]? = some t → args[j]? = some v → Value.okWide Try.prog W .any base t v := hval0
  have hW' := hW
  obtain ⟨p, q, hA0, hV, rfl, hfz, hnd⟩ := hW
  have hA : DataW.TrodAll enc Try.prog W 0 (fun _ => true) true Try.f3.params.toList args.toList ds p := hA0
  rw [Try.params3] at hA hval hsz
  obtain ⟨v0, vs0, d0, ds0, p0, q0, hargs, rfl, rfl, h0, r0⟩ := trodAll_cons hA
  obtain ⟨rfl, rfl, rfl⟩ := trodAll_nil r0
  obtain rfl : args = #[v0] := by cases args; simp_all
  obtain ⟨rfl, rfl⟩ := trodVars_none hV
  have t0 := h0
  have lt0 : ∀ x ∈ p0, x.block < W.heap.size := by obtain ⟨m, hm⟩ := t0; exact DataW.trod_lt m _ _ _ hm
  obtain ⟨x0, hr0, ho0⟩ := tU (en0 := fun xs : List Int => .sl 1 xs.length (xs.map uE)) Try.underlying22 aHT (hval 0 22 v0 rfl rfl) h0 (fun n hn => by have z := List.all_eq_true.1 hsz n (DataW.weights_mem_each (j := 0) rfl rfl n hn); simpa using z)
  clear hA0 hval0 hsz0 hsz
  obtain ⟨k, hk⟩ := Pure.FnPlantGuards x0 ho0
  refine (yN (bJ.ac (G := (fun _ => none)) hk) (vs := [v0]) ⟨hr0, trivial⟩ aFF).mono fun e W' ⟨he, bel⟩ => ?_
  subst he
  exact ⟨_, rfl, _, _, _, [], _, [], hW', trodAll_mk1 (shut_bool Try.underlying4 _), (trodAll_cons_mk (Below.trod aFK (by kernel_rfl) (of_decide_eq_true (by kernel_rfl)) t0 bel lt0) trodAll_mk0), rfl, bel.frame _, fun h => by cases h⟩
theorem j0 : (Rows.fnPlantGuardsRow.plainKeys == Try.pinned.checked.prog.plainKeys) = true := by kernel_rfl
theorem j1 : Try.pinned.checked.prog.stopsHeard = true := by kernel_rfl
theorem j2 : Try.pinned.checked.prog.mayEnter = true := by kernel_rfl
theorem j3 : (Rows.fnPlantGuardsRow.lifted == Try.pinned.checked.prog.liftsFinal) = true := by kernel_rfl
theorem j4 : (Try.pinned.checked.prog.make == some Rows.fnPlantGuardsRow.make) = true := by kernel_rfl
theorem rU : joinedFacts Try.pinned.checked.prog 3 Try.f3 Rows.fnPlantGuardsSpec Rows.fnPlantGuardsRow = true := by
  unfold joinedFacts
  simp only [Bool.and_eq_true]
  repeat' apply And.intro
  all_goals first | with_reducible exact j0 | with_reducible exact j1 | with_reducible exact j2 | with_reducible exact j3 | with_reducible exact j4 | kernel_rfl
theorem over : Rows.fnPlantGuardsRow.holds Try.pinned (OpenSpec.ofChange Rows.fnPlantGuardsSpec) :=
  OpenClaim.holds_of_wide 3 Try.f3 rfl rfl rfl rfl rfl rfl rfl ⟨rfl, rfl, rfl, rfl, rfl⟩ rfl rfl rfl rfl rfl (by kernel_rfl) Try.func3 rU
    (of_decide_eq_true (by kernel_rfl)) (by unfold Func.isWrapper; first | (rw [if_pos (by decide +kernel)]; kernel_rfl) | (rw [if_neg (by decide +kernel)]; exact ⟨rfl, rfl⟩))
    (fun os started H enc _ => lifted os started H enc)
theorem proved : Rows.FnPlantGuardsSaid := over
#print axioms proved
end Go.Proofs.Ytjhkgbfmigfmfaa.fnPlantGuards
namespace Go.Proofs.Ytjhkgbfmigfmfaa
/-- The row, under a short name, for the claim. -/
theorem fnPlantGuards_holds : Rows.FnPlantGuardsSaid := fnPlantGuards.proved
end Go.Proofs.Ytjhkgbfmigfmfaa
