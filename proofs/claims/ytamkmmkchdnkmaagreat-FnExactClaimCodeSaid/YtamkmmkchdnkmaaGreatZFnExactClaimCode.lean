/- The program's ClaimCode answers what the reference's ClaimCode answers, for every book and every want, and writes into no argument. No condition beyond the row's own. -/
import Derived.Test.YtamkmmkchdnkmaaGreatRows
import Derived.Test.YtamkmmkchdnkmaaGreatZFnExactClaimCode3
import Derived.KernelRfl
namespace Go.Proofs.YtamkmmkchdnkmaaGreat.fnExactClaimCode
open Go.ChangeShapes Go.WideShapes Go.ChangeAt Go.RowKit Go.Aw Go.Proofs.YtamkmmkchdnkmaaGreat.CC
set_option linter.unusedVariables false
theorem own : ownKnob Tryz.prog.godebug = none := by kernel_rfl
theorem laidOut : laidOutB Tryz.prog = true := by kernel_rfl
theorem open72 : Opn Tryz.prog 72 en_S_laws_ClaimFoe ok_laws_ClaimFoe := opn_struct (f := fun y : S_laws_ClaimFoe => (y.f0, y.f1)) Tryz.underlying72 (by kernel_rfl) (opnF_cons (sa := 1) (by rfl) (by kernel_rfl) (opn_string Tryz.underlying9) (opnF_one (sz := 1) (by rfl) (by kernel_rfl) (opn_string Tryz.underlying9))) (fun x => ⟨⟨x.1, x.2⟩, rfl⟩) (fun _ => rfl)
theorem open22 : Opn Tryz.prog 22 (fun xs : List S_laws_ClaimFoe => [.sl 2 xs.length (xs.map en_S_laws_ClaimFoe)]) (fun xs : List S_laws_ClaimFoe => (xs.length ≤ 9223372036854775807 ∧ xs.length * 32 ≤ 140737488351232) ∧ ∀ z ∈ xs, ok_laws_ClaimFoe z) := opn_slice Tryz.underlying22 (by kernel_rfl) (Nat.le_of_ble_eq_true rfl) (by kernel_rfl) (fun _ => rfl) (open72)
theorem open24 : Opn Tryz.prog 24 (fun xs : List ByteArray => [.sl 1 xs.length (xs.map en_str)]) (fun xs : List ByteArray => (xs.length ≤ 9223372036854775807 ∧ xs.length * 16 ≤ 140737488351232) ∧ ∀ z ∈ xs, z.size ≤ 140737488351232) := opn_slice Tryz.underlying24 (by kernel_rfl) (Nat.le_of_ble_eq_true rfl) (by kernel_rfl) (fun _ => rfl) (opn_string Tryz.underlying9)
theorem open75 : Opn Tryz.prog 75 en_S_laws_ClaimSpot ok_laws_ClaimSpot := opn_struct (f := fun y : S_laws_ClaimSpot => (y.f0, y.f1, y.f2, y.f3, y.f4)) Tryz.underlying75 (by kernel_rfl) (opnF_cons (sa := 1) (by rfl) (by kernel_rfl) (opn_string Tryz.underlying9) (opnF_cons (sa := 1) (by rfl) (by kernel_rfl) (opn_int Tryz.underlying3) (opnF_cons (sa := 1) (by rfl) (by kernel_rfl) (opn_int Tryz.underlying3) (opnF_cons (sa := 1) (by rfl) (by kernel_rfl) (opn_int Tryz.underlying3) (opnF_one (sz := 1) (by rfl) (by kernel_rfl) (open24)))))) (fun x => ⟨⟨x.1, x.2.1, x.2.2.1, x.2.2.2.1, x.2.2.2.2⟩, rfl⟩) (fun _ => rfl)
theorem open23 : Opn Tryz.prog 23 (fun xs : List S_laws_ClaimSpot => [.sl 5 xs.length (xs.map en_S_laws_ClaimSpot)]) (fun xs : List S_laws_ClaimSpot => (xs.length ≤ 9223372036854775807 ∧ xs.length * 64 ≤ 140737488351232) ∧ ∀ z ∈ xs, ok_laws_ClaimSpot z) := opn_slice Tryz.underlying23 (by kernel_rfl) (Nat.le_of_ble_eq_true rfl) (by kernel_rfl) (fun _ => rfl) (open75)
theorem open81 : Opn Tryz.prog 81 en_S_laws_ClaimUse ok_laws_ClaimUse := opn_struct (f := fun y : S_laws_ClaimUse => (y.f0, y.f1, y.f2)) Tryz.underlying81 (by kernel_rfl) (opnF_cons (sa := 1) (by rfl) (by kernel_rfl) (opn_string Tryz.underlying9) (opnF_cons (sa := 1) (by rfl) (by kernel_rfl) (opn_int Tryz.underlying3) (opnF_one (sz := 1) (by rfl) (by kernel_rfl) (opn_int Tryz.underlying3)))) (fun x => ⟨⟨x.1, x.2.1, x.2.2⟩, rfl⟩) (fun _ => rfl)
theorem open28 : Opn Tryz.prog 28 (fun xs : List S_laws_ClaimUse => [.sl 3 xs.length (xs.map en_S_laws_ClaimUse)]) (fun xs : List S_laws_ClaimUse => (xs.length ≤ 9223372036854775807 ∧ xs.length * 32 ≤ 140737488351232) ∧ ∀ z ∈ xs, ok_laws_ClaimUse z) := opn_slice Tryz.underlying28 (by kernel_rfl) (Nat.le_of_ble_eq_true rfl) (by kernel_rfl) (fun _ => rfl) (open81)
theorem open30 : Opn Tryz.prog 30 en_S_laws_ClaimWant ok_laws_ClaimWant := opn_struct (f := fun y : S_laws_ClaimWant => (y.f0, y.f1, y.f2, y.f3, y.f4, y.f5)) Tryz.underlying30 (by kernel_rfl) (opnF_cons (sa := 1) (by rfl) (by kernel_rfl) (opn_int Tryz.underlying3) (opnF_cons (sa := 1) (by rfl) (by kernel_rfl) (opn_int Tryz.underlying3) (opnF_cons (sa := 1) (by rfl) (by kernel_rfl) (open24) (opnF_cons (sa := 1) (by rfl) (by kernel_rfl) (open28) (opnF_cons (sa := 1) (by rfl) (by kernel_rfl) (open24) (opnF_one (sz := 1) (by rfl) (by kernel_rfl) (open24))))))) (fun x => ⟨⟨x.1, x.2.1, x.2.2.1, x.2.2.2.1, x.2.2.2.2.1, x.2.2.2.2.2⟩, rfl⟩) (fun _ => rfl)
theorem open78 : Opn Tryz.prog 78 en_S_laws_ClaimPart ok_laws_ClaimPart := opn_struct (f := fun y : S_laws_ClaimPart => (y.f0, y.f1)) Tryz.underlying78 (by kernel_rfl) (opnF_cons (sa := 6) (by rfl) (by kernel_rfl) (open30) (opnF_one (sz := 1) (by rfl) (by kernel_rfl) (opn_bool Tryz.underlying4))) (fun x => ⟨⟨x.1, x.2⟩, rfl⟩) (fun _ => rfl)
theorem open25 : Opn Tryz.prog 25 (fun xs : List S_laws_ClaimPart => [.sl 7 xs.length (xs.map en_S_laws_ClaimPart)]) (fun xs : List S_laws_ClaimPart => (xs.length ≤ 9223372036854775807 ∧ xs.length * 120 ≤ 140737488351232) ∧ ∀ z ∈ xs, ok_laws_ClaimPart z) := opn_slice Tryz.underlying25 (by kernel_rfl) (Nat.le_of_ble_eq_true rfl) (by kernel_rfl) (fun _ => rfl) (open78)
theorem open27 : Opn Tryz.prog 27 en_S_laws_ClaimBook ok_laws_ClaimBook := opn_struct (f := fun y : S_laws_ClaimBook => (y.f0, y.f1, y.f2, y.f3, y.f4)) Tryz.underlying27 (by kernel_rfl) (opnF_cons (sa := 1) (by rfl) (by kernel_rfl) (open22) (opnF_cons (sa := 1) (by rfl) (by kernel_rfl) (open23) (opnF_cons (sa := 1) (by rfl) (by kernel_rfl) (open24) (opnF_cons (sa := 1) (by rfl) (by kernel_rfl) (open25) (opnF_one (sz := 1) (by rfl) (by kernel_rfl) (opn_int Tryz.underlying3)))))) (fun x => ⟨⟨x.1, x.2.1, x.2.2.1, x.2.2.2.1, x.2.2.2.2⟩, rfl⟩) (fun _ => rfl)
set_option maxRecDepth 100000 in
theorem lifted (os : Os) (started : os.Started) (H : Type) (enc : TypeId × Value → H) :
    ReturnsInHanded {} Tryz.checked os 3 .any (Rows.fnExactClaimCodeSpec.pre6 enc Tryz.prog Tryz.f3 Rows.fnExactClaimCodeRow.domain false) (Rows.fnExactClaimCodeSpec.post enc Tryz.prog Tryz.f3 false true false false) := by
  refine returnsInHanded_of_change_sized (C := Tryz.checked) own started (by kernel_rfl) Tryz.func3
    (ChangeSpec.witness6 (enc := enc) (C := Tryz.checked) false ⟨#[], #[.agg #[.slice none 0 0, .slice none 0 0, .slice none 0 0, .slice none 0 0, .int .i64 0], .agg #[.int .i64 0, .int .i64 0, .slice none 0 0, .slice none 0 0, .slice none 0 0, .slice none 0 0]], []⟩ 16 (by kernel_rfl) (by kernel_rfl) (by kernel_rfl) (by kernel_rfl)) ?_
  intro W base args ds gs before hval0 hW hcnd hsz0 _
  have hsz : (DataW.weightsEach Tryz.prog (Tryz.f3.params.toList ++ Rows.fnExactClaimCodeSpec.plain.varTypes Tryz.prog) (ds ++ gs)).all (· ≤ reachBytes) = true := hsz0
  have hval : ∀ (j : Nat) t v, Tryz.f3.params[j]? = some t → args[j]? = some v → Value.okWide Tryz.prog W .any base t v := hval0
  have hW' := hW
  obtain ⟨p, q, hA0, hV, rfl, hfz, hnd⟩ := hW
  have hA : DataW.TrodAll enc Tryz.prog W 0 (fun _ => true) true Tryz.f3.params.toList args.toList ds p := hA0
  rw [Tryz.params3] at hA hval hsz
  obtain ⟨v0, vs0, d0, ds0, p0, q0, hargs, rfl, rfl, h0, r0⟩ := trodAll_cons hA
  obtain ⟨v1, vs1, d1, ds1, p1, q1, rfl, rfl, rfl, h1, r1⟩ := trodAll_cons r0
  obtain ⟨rfl, rfl, rfl⟩ := trodAll_nil r1
  obtain rfl : args = #[v0, v1] := by cases args; simp_all
  obtain ⟨rfl, rfl⟩ := trodVars_none hV
  have t0 := h0
  have lt0 : ∀ x ∈ p0, x.block < W.heap.size := by obtain ⟨m, hm⟩ := t0; exact DataW.trod_lt m _ _ _ hm
  obtain ⟨x0, hr0, ho0⟩ := opn_arg Tryz.underlying27 open27 (hval 0 27 v0 rfl rfl) h0 (fun n hn => by have z := List.all_eq_true.1 hsz n (DataW.weights_mem_each (j := 0) rfl rfl n hn); simpa using z)
  have t1 := h1
  have lt1 : ∀ x ∈ p1, x.block < W.heap.size := by obtain ⟨m, hm⟩ := t1; exact DataW.trod_lt m _ _ _ hm
  obtain ⟨x1, hr1, ho1⟩ := opn_arg Tryz.underlying30 open30 (hval 1 30 v1 rfl rfl) h1 (fun n hn => by have z := List.all_eq_true.1 hsz n (DataW.weights_mem_each (j := 1) rfl rfl n hn); simpa using z)
  clear hA0 hval0 hsz0 hsz
  obtain ⟨k, hk⟩ := Pure.FnExactClaimCode x0 x1 ho0 ho1
  refine (calls_bool (laws_FnExactClaimCode.ac (G := (fun _ => none)) hk) (vs := [v0, v1]) ⟨hr0, hr1, trivial⟩ gl_none).mono fun e W' ⟨he, bel⟩ => ?_
  subst he
  exact ⟨_, rfl, _, _, _, [], _, [], hW', trodAll_mk1 (shut_bool Tryz.underlying4 _), (trodAll_cons_mk (Below.trod laidOut (by kernel_rfl) (of_decide_eq_true (by kernel_rfl)) t0 bel lt0) (trodAll_cons_mk (Below.trod laidOut (by kernel_rfl) (of_decide_eq_true (by kernel_rfl)) t1 bel lt1) trodAll_mk0)), rfl, bel.frame _, fun h => by cases h⟩
theorem j0 : (Rows.fnExactClaimCodeRow.plainKeys == Tryz.pinned.checked.prog.plainKeys) = true := by kernel_rfl
theorem j1 : Tryz.pinned.checked.prog.stopsHeard = true := by kernel_rfl
theorem j2 : Tryz.pinned.checked.prog.mayEnter = true := by kernel_rfl
theorem j3 : (Rows.fnExactClaimCodeRow.lifted == Tryz.pinned.checked.prog.liftsFinal) = true := by kernel_rfl
theorem j4 : (Tryz.pinned.checked.prog.make == some Rows.fnExactClaimCodeRow.make) = true := by kernel_rfl
theorem joined : joinedFacts Tryz.pinned.checked.prog 3 Tryz.f3 Rows.fnExactClaimCodeSpec Rows.fnExactClaimCodeRow = true := by
  unfold joinedFacts
  simp only [Bool.and_eq_true]
  repeat' apply And.intro
  all_goals first | with_reducible exact j0 | with_reducible exact j1 | with_reducible exact j2 | with_reducible exact j3 | with_reducible exact j4 | kernel_rfl
theorem over : Rows.fnExactClaimCodeRow.holds Tryz.pinned (OpenSpec.ofChange Rows.fnExactClaimCodeSpec) :=
  OpenClaim.holds_of_wide 3 Tryz.f3 rfl rfl rfl rfl rfl rfl rfl ⟨rfl, rfl, rfl, rfl, rfl⟩ rfl rfl rfl rfl rfl (by kernel_rfl) Tryz.func3 joined
    (of_decide_eq_true (by kernel_rfl)) (by unfold Func.isWrapper; first | (rw [if_pos (by decide +kernel)]; kernel_rfl) | (rw [if_neg (by decide +kernel)]; exact ⟨rfl, rfl⟩))
    (fun os started H enc _ => lifted os started H enc)
theorem proved : Rows.FnExactClaimCodeSaid := over
#print axioms proved
end Go.Proofs.YtamkmmkchdnkmaaGreat.fnExactClaimCode
namespace Go.Proofs.YtamkmmkchdnkmaaGreat
/-- The row, under a short name, for the claim. -/
theorem fnExactClaimCode_holds : Rows.FnExactClaimCodeSaid := fnExactClaimCode.proved
end Go.Proofs.YtamkmmkchdnkmaaGreat
