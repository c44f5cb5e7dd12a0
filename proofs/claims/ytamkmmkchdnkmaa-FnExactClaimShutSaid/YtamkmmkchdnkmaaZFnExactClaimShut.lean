/- The program's ClaimShut returns what the reference's returns, for all arguments. -/
import Derived.Test.YtamkmmkchdnkmaaRows
import Derived.Test.YtamkmmkchdnkmaaZFnExactClaimShut3
import Derived.KernelRfl
namespace Go.Proofs.Ytamkmmkchdnkmaa.fnExactClaimShut
open Go.ChangeShapes Go.WideShapes Go.ChangeAt Go.RowKit Go.Aw Go.Proofs.Ytamkmmkchdnkmaa.CH
set_option linter.unusedVariables false
theorem own : ownKnob Try.prog.godebug = none := by kernel_rfl
theorem laidOut : laidOutB Try.prog = true := by kernel_rfl
theorem open218 : Opn Try.prog 218 en_S_laws_ClaimFoe ok_laws_ClaimFoe := opn_struct (f := fun y : S_laws_ClaimFoe => (y.f0, y.f1)) Try.underlying218 (by kernel_rfl) (opnF_cons (sa := 1) (by rfl) (by kernel_rfl) (opn_string Try.underlying9) (opnF_one (sz := 1) (by rfl) (by kernel_rfl) (opn_string Try.underlying9))) (fun x => ⟨⟨x.1, x.2⟩, rfl⟩) (fun _ => rfl)
theorem open49 : Opn Try.prog 49 (fun xs : List S_laws_ClaimFoe => [.sl 2 xs.length (xs.map en_S_laws_ClaimFoe)]) (fun xs : List S_laws_ClaimFoe => (xs.length ≤ 9223372036854775807 ∧ xs.length * 32 ≤ 140737488351232) ∧ ∀ z ∈ xs, ok_laws_ClaimFoe z) := opn_slice Try.underlying49 (by kernel_rfl) (Nat.le_of_ble_eq_true rfl) (by kernel_rfl) (fun _ => rfl) (open218)
theorem open44 : Opn Try.prog 44 (fun xs : List ByteArray => [.sl 1 xs.length (xs.map en_str)]) (fun xs : List ByteArray => (xs.length ≤ 9223372036854775807 ∧ xs.length * 16 ≤ 140737488351232) ∧ ∀ z ∈ xs, z.size ≤ 140737488351232) := opn_slice Try.underlying44 (by kernel_rfl) (Nat.le_of_ble_eq_true rfl) (by kernel_rfl) (fun _ => rfl) (opn_string Try.underlying9)
theorem open220 : Opn Try.prog 220 en_S_laws_ClaimSpot ok_laws_ClaimSpot := opn_struct (f := fun y : S_laws_ClaimSpot => (y.f0, y.f1, y.f2, y.f3, y.f4)) Try.underlying220 (by kernel_rfl) (opnF_cons (sa := 1) (by rfl) (by kernel_rfl) (opn_string Try.underlying9) (opnF_cons (sa := 1) (by rfl) (by kernel_rfl) (opn_int Try.underlying3) (opnF_cons (sa := 1) (by rfl) (by kernel_rfl) (opn_int Try.underlying3) (opnF_cons (sa := 1) (by rfl) (by kernel_rfl) (opn_int Try.underlying3) (opnF_one (sz := 1) (by rfl) (by kernel_rfl) (open44)))))) (fun x => ⟨⟨x.1, x.2.1, x.2.2.1, x.2.2.2.1, x.2.2.2.2⟩, rfl⟩) (fun _ => rfl)
theorem open50 : Opn Try.prog 50 (fun xs : List S_laws_ClaimSpot => [.sl 5 xs.length (xs.map en_S_laws_ClaimSpot)]) (fun xs : List S_laws_ClaimSpot => (xs.length ≤ 9223372036854775807 ∧ xs.length * 64 ≤ 140737488351232) ∧ ∀ z ∈ xs, ok_laws_ClaimSpot z) := opn_slice Try.underlying50 (by kernel_rfl) (Nat.le_of_ble_eq_true rfl) (by kernel_rfl) (fun _ => rfl) (open220)
theorem open263 : Opn Try.prog 263 en_S_laws_ClaimUse ok_laws_ClaimUse := opn_struct (f := fun y : S_laws_ClaimUse => (y.f0, y.f1, y.f2)) Try.underlying263 (by kernel_rfl) (opnF_cons (sa := 1) (by rfl) (by kernel_rfl) (opn_string Try.underlying9) (opnF_cons (sa := 1) (by rfl) (by kernel_rfl) (opn_int Try.underlying3) (opnF_one (sz := 1) (by rfl) (by kernel_rfl) (opn_int Try.underlying3)))) (fun x => ⟨⟨x.1, x.2.1, x.2.2⟩, rfl⟩) (fun _ => rfl)
theorem open89 : Opn Try.prog 89 (fun xs : List S_laws_ClaimUse => [.sl 3 xs.length (xs.map en_S_laws_ClaimUse)]) (fun xs : List S_laws_ClaimUse => (xs.length ≤ 9223372036854775807 ∧ xs.length * 32 ≤ 140737488351232) ∧ ∀ z ∈ xs, ok_laws_ClaimUse z) := opn_slice Try.underlying89 (by kernel_rfl) (Nat.le_of_ble_eq_true rfl) (by kernel_rfl) (fun _ => rfl) (open263)
theorem open91 : Opn Try.prog 91 en_S_laws_ClaimWant ok_laws_ClaimWant := opn_struct (f := fun y : S_laws_ClaimWant => (y.f0, y.f1, y.f2, y.f3, y.f4, y.f5)) Try.underlying91 (by kernel_rfl) (opnF_cons (sa := 1) (by rfl) (by kernel_rfl) (opn_int Try.underlying3) (opnF_cons (sa := 1) (by rfl) (by kernel_rfl) (opn_int Try.underlying3) (opnF_cons (sa := 1) (by rfl) (by kernel_rfl) (open44) (opnF_cons (sa := 1) (by rfl) (by kernel_rfl) (open89) (opnF_cons (sa := 1) (by rfl) (by kernel_rfl) (open44) (opnF_one (sz := 1) (by rfl) (by kernel_rfl) (open44))))))) (fun x => ⟨⟨x.1, x.2.1, x.2.2.1, x.2.2.2.1, x.2.2.2.2.1, x.2.2.2.2.2⟩, rfl⟩) (fun _ => rfl)
theorem open223 : Opn Try.prog 223 en_S_laws_ClaimPart ok_laws_ClaimPart := opn_struct (f := fun y : S_laws_ClaimPart => (y.f0, y.f1)) Try.underlying223 (by kernel_rfl) (opnF_cons (sa := 6) (by rfl) (by kernel_rfl) (open91) (opnF_one (sz := 1) (by rfl) (by kernel_rfl) (opn_bool Try.underlying4))) (fun x => ⟨⟨x.1, x.2⟩, rfl⟩) (fun _ => rfl)
theorem open51 : Opn Try.prog 51 (fun xs : List S_laws_ClaimPart => [.sl 7 xs.length (xs.map en_S_laws_ClaimPart)]) (fun xs : List S_laws_ClaimPart => (xs.length ≤ 9223372036854775807 ∧ xs.length * 120 ≤ 140737488351232) ∧ ∀ z ∈ xs, ok_laws_ClaimPart z) := opn_slice Try.underlying51 (by kernel_rfl) (Nat.le_of_ble_eq_true rfl) (by kernel_rfl) (fun _ => rfl) (open223)
theorem open53 : Opn Try.prog 53 en_S_laws_ClaimBook ok_laws_ClaimBook := opn_struct (f := fun y : S_laws_ClaimBook => (y.f0, y.f1, y.f2, y.f3, y.f4)) Try.underlying53 (by kernel_rfl) (opnF_cons (sa := 1) (by rfl) (by kernel_rfl) (open49) (opnF_cons (sa := 1) (by rfl) (by kernel_rfl) (open50) (opnF_cons (sa := 1) (by rfl) (by kernel_rfl) (open44) (opnF_cons (sa := 1) (by rfl) (by kernel_rfl) (open51) (opnF_one (sz := 1) (by rfl) (by kernel_rfl) (opn_int Try.underlying3)))))) (fun x => ⟨⟨x.1, x.2.1, x.2.2.1, x.2.2.2.1, x.2.2.2.2⟩, rfl⟩) (fun _ => rfl)
set_option maxRecDepth 100000 in
theorem lifted (os : Os) (started : os.Started) (H : Type) (enc : TypeId × Value → H) :
    ReturnsInHanded {} Try.checked os 9 .any (Rows.fnExactClaimShutSpec.pre6 enc Try.prog Try.f9 Rows.fnExactClaimShutRow.domain false) (Rows.fnExactClaimShutSpec.post enc Try.prog Try.f9 false true false false) := by
  refine returnsInHanded_of_change_sized (C := Try.checked) own started (by kernel_rfl) Try.func9
    (ChangeSpec.witness6 (enc := enc) (C := Try.checked) false ⟨#[], #[.agg #[.slice none 0 0, .slice none 0 0, .slice none 0 0, .slice none 0 0, .int .i64 0], .string ByteArray.empty], []⟩ 16 (by kernel_rfl) (by kernel_rfl) (by kernel_rfl) (by kernel_rfl)) ?_
  intro W base args ds gs before hval0 hW hcnd hsz0 _
  have hsz : (DataW.weightsEach Try.prog (Try.f9.params.toList ++ Rows.fnExactClaimShutSpec.plain.varTypes Try.prog) (ds ++ gs)).all (· ≤ reachBytes) = true := hsz0
  have hval : ∀ (j : Nat) t v, Try.f9.params[j]? = some t → args[j]? = some v → Value.okWide Try.prog W .any base t v := hval0
  have hW' := hW
  obtain ⟨p, q, hA0, hV, rfl, hfz, hnd⟩ := hW
  have hA : DataW.TrodAll enc Try.prog W 0 (fun _ => true) true Try.f9.params.toList args.toList ds p := hA0
  rw [Try.params9] at hA hval hsz
  obtain ⟨v0, vs0, d0, ds0, p0, q0, hargs, rfl, rfl, h0, r0⟩ := trodAll_cons hA
  obtain ⟨v1, vs1, d1, ds1, p1, q1, rfl, rfl, rfl, h1, r1⟩ := trodAll_cons r0
  obtain ⟨rfl, rfl, rfl⟩ := trodAll_nil r1
  obtain rfl : args = #[v0, v1] := by cases args; simp_all
  obtain ⟨rfl, rfl⟩ := trodVars_none hV
  have t0 := h0
  have lt0 : ∀ x ∈ p0, x.block < W.heap.size := by obtain ⟨m, hm⟩ := t0; exact DataW.trod_lt m _ _ _ hm
  obtain ⟨x0, hr0, ho0⟩ := opn_arg Try.underlying53 open53 (hval 0 53 v0 rfl rfl) h0 (fun n hn => by have z := List.all_eq_true.1 hsz n (DataW.weights_mem_each (j := 0) rfl rfl n hn); simpa using z)
  obtain ⟨x1, rfl, rfl, rfl, y1⟩ := Go.ChangeMaps.open_string Try.underlying9 (hval 1 9 v1 rfl rfl) h1
  have w1 : x1.size ≤ 140737488351232 := by
    have z := sized_string hsz (j := 1) (t := 9) rfl rfl
    rw [Array.length_toList] at z
    exact z
  clear hA0 hval0 hsz0 hsz
  obtain ⟨k, hk⟩ := Pure.FnExactClaimShut x0 x1 ho0 w1
  refine (calls_bool (laws_FnExactClaimShut.ac (G := (fun _ => none)) hk) (vs := [v0, .string x1]) ⟨hr0, .c (.str _), trivial⟩ gl_none).mono fun e W' ⟨he, bel⟩ => ?_
  subst he
  exact ⟨_, rfl, _, _, _, [], _, [], hW', trodAll_mk1 (shut_bool Try.underlying4 _), (trodAll_cons_mk (Below.trod laidOut (by kernel_rfl) (of_decide_eq_true (by kernel_rfl)) t0 bel lt0) (trodAll_cons_mk (Go.ChangeMaps.shut_string Try.underlying9 y1) trodAll_mk0)), rfl, bel.frame _, fun h => by cases h⟩
theorem j0 : (Rows.fnExactClaimShutRow.plainKeys == Try.pinned.checked.prog.plainKeys) = true := by kernel_rfl
theorem j1 : Try.pinned.checked.prog.stopsHeard = true := by kernel_rfl
theorem j2 : Try.pinned.checked.prog.mayEnter = true := by kernel_rfl
theorem j3 : (Rows.fnExactClaimShutRow.lifted == Try.pinned.checked.prog.liftsFinal) = true := by kernel_rfl
theorem j4 : (Try.pinned.checked.prog.make == some Rows.fnExactClaimShutRow.make) = true := by kernel_rfl
theorem joined : joinedFacts Try.pinned.checked.prog 9 Try.f9 Rows.fnExactClaimShutSpec Rows.fnExactClaimShutRow = true := by
  unfold joinedFacts
  simp only [Bool.and_eq_true]
  repeat' apply And.intro
  all_goals first | with_reducible exact j0 | with_reducible exact j1 | with_reducible exact j2 | with_reducible exact j3 | with_reducible exact j4 | kernel_rfl
theorem over : Rows.fnExactClaimShutRow.holds Try.pinned (OpenSpec.ofChange Rows.fnExactClaimShutSpec) :=
  OpenClaim.holds_of_wide 9 Try.f9 rfl rfl rfl rfl rfl rfl rfl ⟨rfl, rfl, rfl, rfl, rfl⟩ rfl rfl rfl rfl rfl (by kernel_rfl) Try.func9 joined
    (of_decide_eq_true (by kernel_rfl)) (by unfold Func.isWrapper; first | (rw [if_pos (by decide +kernel)]; kernel_rfl) | (rw [if_neg (by decide +kernel)]; exact ⟨rfl, rfl⟩))
    (fun os started H enc _ => lifted os started H enc)
theorem proved : Rows.FnExactClaimShutSaid := over
#print axioms proved
end Go.Proofs.Ytamkmmkchdnkmaa.fnExactClaimShut
namespace Go.Proofs.Ytamkmmkchdnkmaa
/-- The row, under a short name, for the claim. -/
theorem fnExactClaimShut_holds : Rows.FnExactClaimShutSaid := fnExactClaimShut.proved
end Go.Proofs.Ytamkmmkchdnkmaa
