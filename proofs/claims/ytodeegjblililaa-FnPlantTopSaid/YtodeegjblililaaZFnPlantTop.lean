/- drawn valves of a drawn plant are opened and shut and the index follows; of any two places it tells what their groups tell, and the groups have each place once -/
import Derived.Test.YtodeegjblililaaRows
import Derived.Test.YtodeegjblililaaZFnPlantTop4
import Derived.KernelRfl
namespace Go.Proofs.Ytodeegjblililaa.fnPlantTop
open Go.ChangeShapes Go.WideShapes Go.ChangeAt Go.RowKit Go.Aw Go.Proofs.Ytodeegjblililaa.QU
set_option linter.unusedVariables false
theorem own : ownKnob Try.prog.godebug = none := by kernel_rfl
theorem laidOut : laidOutB Try.prog = true := by kernel_rfl
theorem open78 : Opn Try.prog 78 (fun xs : List Int => [.sl 1 xs.length (xs.map en_u8)]) (fun xs : List Int => (xs.length ≤ 9223372036854775807 ∧ xs.length * 1 ≤ 140737488351232) ∧ ∀ z ∈ xs, (Lit.int .u8 z).wf = true) := opn_slice Try.underlying78 (by kernel_rfl) (Nat.le_of_ble_eq_true rfl) (by kernel_rfl) (fun _ => rfl) (opn_int Try.underlying5)
set_option maxRecDepth 100000 in
theorem lifted (os : Os) (started : os.Started) (H : Type) (enc : TypeId × Value → H) :
    ReturnsInHanded {} Try.checked os 13 .any (Rows.fnPlantTopSpec.pre6 enc Try.prog Try.f13 Rows.fnPlantTopRow.domain false) (Rows.fnPlantTopSpec.post enc Try.prog Try.f13 false true false false) := by
  refine returnsInHanded_of_change_sized (C := Try.checked) own started (by kernel_rfl) Try.func13
    (ChangeSpec.witness6 (enc := enc) (C := Try.checked) false ⟨#[], #[.slice none 0 0], []⟩ 16 (by kernel_rfl) (by kernel_rfl) (by kernel_rfl) (by kernel_rfl)) ?_
  intro W base args ds gs before hval0 hW hcnd hsz0 _
  have hsz : (DataW.weightsEach Try.prog (Try.f13.params.toList ++ Rows.fnPlantTopSpec.plain.varTypes Try.prog) (ds ++ gs)).all (· ≤ reachBytes) = true := hsz0
  have hval : ∀ (j : Nat) t v, Try.f13.params[j]? = some t → args[j]? = some v → Value.okWide Try.prog W .any base t v := hval0
  have hW' := hW
  obtain ⟨p, q, hA0, hV, rfl, hfz, hnd⟩ := hW
  have hA : DataW.TrodAll enc Try.prog W 0 (fun _ => true) true Try.f13.params.toList args.toList ds p := hA0
  rw [Try.params13] at hA hval hsz
  obtain ⟨v0, vs0, d0, ds0, p0, q0, hargs, rfl, rfl, h0, r0⟩ := trodAll_cons hA
  obtain ⟨rfl, rfl, rfl⟩ := trodAll_nil r0
  obtain rfl : args = #[v0] := by cases args; simp_all
  obtain ⟨rfl, rfl⟩ := trodVars_none hV
  have t0 := h0
  have lt0 : ∀ x ∈ p0, x.block < W.heap.size := by obtain ⟨m, hm⟩ := t0; exact DataW.trod_lt m _ _ _ hm
  obtain ⟨x0, hr0, ho0⟩ := opn_slice_arg (en0 := fun xs : List Int => .sl 1 xs.length (xs.map en_u8)) Try.underlying78 open78 (hval 0 78 v0 rfl rfl) h0 (fun n hn => by have z := List.all_eq_true.1 hsz n (DataW.weights_mem_each (j := 0) rfl rfl n hn); simpa using z)
  clear hA0 hval0 hsz0 hsz
  obtain ⟨k, hk⟩ := Pure.FnPlantTop x0 ho0
  refine (calls_bool (laws_FnPlantTop.ac (G := (fun _ => none)) hk) (vs := [v0]) ⟨hr0, trivial⟩ gl_none).mono fun e W' ⟨he, bel⟩ => ?_
  subst he
  exact ⟨_, rfl, _, _, _, [], _, [], hW', trodAll_mk1 (shut_bool Try.underlying4 _), (trodAll_cons_mk (Below.trod laidOut (by kernel_rfl) (of_decide_eq_true (by kernel_rfl)) t0 bel lt0) trodAll_mk0), rfl, bel.frame _, fun h => by cases h⟩
theorem j0 : (Rows.fnPlantTopRow.plainKeys == Try.pinned.checked.prog.plainKeys) = true := by kernel_rfl
theorem j1 : Try.pinned.checked.prog.stopsHeard = true := by kernel_rfl
theorem j2 : Try.pinned.checked.prog.mayEnter = true := by kernel_rfl
theorem j3 : (Rows.fnPlantTopRow.lifted == Try.pinned.checked.prog.liftsFinal) = true := by kernel_rfl
theorem j4 : (Try.pinned.checked.prog.make == some Rows.fnPlantTopRow.make) = true := by kernel_rfl
theorem joined : joinedFacts Try.pinned.checked.prog 13 Try.f13 Rows.fnPlantTopSpec Rows.fnPlantTopRow = true := by
  unfold joinedFacts
  simp only [Bool.and_eq_true]
  repeat' apply And.intro
  all_goals first | with_reducible exact j0 | with_reducible exact j1 | with_reducible exact j2 | with_reducible exact j3 | with_reducible exact j4 | kernel_rfl
theorem over : Rows.fnPlantTopRow.holds Try.pinned (OpenSpec.ofChange Rows.fnPlantTopSpec) :=
  OpenClaim.holds_of_wide 13 Try.f13 rfl rfl rfl rfl rfl rfl rfl ⟨rfl, rfl, rfl, rfl, rfl⟩ rfl rfl rfl rfl rfl (by kernel_rfl) Try.func13 joined
    (of_decide_eq_true (by kernel_rfl)) (by unfold Func.isWrapper; first | (rw [if_pos (by decide +kernel)]; kernel_rfl) | (rw [if_neg (by decide +kernel)]; exact ⟨rfl, rfl⟩))
    (fun os started H enc _ => lifted os started H enc)
theorem proved : Rows.FnPlantTopSaid := over
#print axioms proved
end Go.Proofs.Ytodeegjblililaa.fnPlantTop
namespace Go.Proofs.Ytodeegjblililaa
/-- The row, under a short name, for the claim. -/
theorem fnPlantTop_holds : Rows.FnPlantTopSaid := fnPlantTop.proved
end Go.Proofs.Ytodeegjblililaa
