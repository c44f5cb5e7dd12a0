/- For every list of phases within the law's bounds RecPrint answers as the reference does, and leaves its argument as it was; the table of powers of ten reads as the program's text lays it. -/
import Derived.Test.YteflhnpcgoijfaaDoorRows
import Derived.Test.YteflhnpcgoijfaaDoorZFnExactRecPrint0
import Derived.KernelRfl
import Derived.Test.YteflhnpcgoijfaaDoorCards
import Derived.Test.YteflhnpcgoijfaaDoorTie
import Derived.SevenTiedAt
namespace Go.Proofs.YteflhnpcgoijfaaDoor.fnExactRecPrint
open Go.ChangeShapes Go.WideShapes Go.ChangeAt Go.RowKit Go.Aw Go.Proofs.YteflhnpcgoijfaaDoor.RP
set_option linter.unusedVariables false
theorem own : ownKnob Tryd.prog.godebug = none := by kernel_rfl
theorem laidOut : laidOutB Tryd.prog = true := by kernel_rfl
theorem open72 : Opn Tryd.prog 72 en_S_laws_RecPhase ok_laws_RecPhase := opn_struct (f := fun y : S_laws_RecPhase => (y.f0, y.f1, y.f2, y.f3, y.f4, y.f5, y.f6, y.f7)) Tryd.underlying72 (by kernel_rfl) (opnF_cons (sa := 1) (by rfl) (by kernel_rfl) (opn_string Tryd.underlying9) (opnF_cons (sa := 1) (by rfl) (by kernel_rfl) (opn_int Tryd.underlying3) (opnF_cons (sa := 1) (by rfl) (by kernel_rfl) (opn_string Tryd.underlying9) (opnF_cons (sa := 1) (by rfl) (by kernel_rfl) (opn_string Tryd.underlying9) (opnF_cons (sa := 1) (by rfl) (by kernel_rfl) (opn_int Tryd.underlying3) (opnF_cons (sa := 1) (by rfl) (by kernel_rfl) (opn_int Tryd.underlying3) (opnF_cons (sa := 1) (by rfl) (by kernel_rfl) (opn_string Tryd.underlying9) (opnF_one (sz := 1) (by rfl) (by kernel_rfl) (opn_string Tryd.underlying9))))))))) (fun x => ⟨⟨x.1, x.2.1, x.2.2.1, x.2.2.2.1, x.2.2.2.2.1, x.2.2.2.2.2.1, x.2.2.2.2.2.2.1, x.2.2.2.2.2.2.2⟩, rfl⟩) (fun _ => rfl)
theorem open31 : Opn Tryd.prog 31 (fun xs : List S_laws_RecPhase => [.sl 8 xs.length (xs.map en_S_laws_RecPhase)]) (fun xs : List S_laws_RecPhase => (xs.length ≤ 9223372036854775807 ∧ xs.length * 104 ≤ 140737488351232) ∧ ∀ z ∈ xs, ok_laws_RecPhase z) := opn_slice Tryd.underlying31 (by kernel_rfl) (Nat.le_of_ble_eq_true rfl) (by kernel_rfl) (fun _ => rfl) (open72)
noncomputable def wit (os : Os) : World := World.doorLaid Tryd.prog 400 os
theorem wit_shaped (os : Os) (args : Array Value) : ((wit os).forCall (fun _ _ => 0) ⟨#[], args, []⟩).Shaped Tryd.prog := World.shaped_of_RefB (by kernel_rfl) (by kernel_rfl)
theorem wit_met (os : Os) (args : Array Value) : laidMetH Tryd.prog Rows.fnExactRecPrintRow.laid ((wit os).forCall (fun _ _ => 0) ⟨#[], args, []⟩).memory :=
  laidMetH_of_parts3 (fuel := 8) (laidMet_of_run' 8 (by kernel_rfl) (by kernel_rfl)) (by kernel_rfl) (by kernel_rfl)
theorem tab_of {W : World} (h : laidMetH Tryd.prog Rows.fnExactRecPrintRow.laid W) : Lib.TabIs Tryd.prog W "internal/strconv.uint64pow10" .u64 Lib.pow10Tab := by
  rw [MakeChecks.laidMetH_plain _ _ _ (by kernel_rfl)] at h
  have h' : laidMet Tryd.prog [("math/bits.deBruijn32tab", Rows.laid_math_bits_deBruijn32tab), ("math/bits.deBruijn64tab", Rows.laid_math_bits_deBruijn64tab), ("internal/strconv.uint64pow10", Lib.tabData .u64 Lib.pow10Tab)] W := h
  exact Lib.tabIs_of_head (g := 1) (t := 158) (e := 146) (n := 20) (by kernel_rfl) (by kernel_rfl) Tryd.underlying158 Tryd.underlying146 (by kernel_rfl) (by kernel_rfl) (laidMet.tail (laidMet.tail h'))
set_option maxRecDepth 100000 in
theorem lifted (os : Os) (started : os.Started) (H : Type) (enc : TypeId × Value → H) :
    ReturnsInHanded {} Tryd.checked os 5 .any (fun w args => (Rows.fnExactRecPrintSpec.pre enc Tryd.prog Tryd.f5 Rows.fnExactRecPrintRow.domain false w args ∧ laidMetH Tryd.prog Rows.fnExactRecPrintRow.laid w) ∧ sizedMet enc Tryd.prog Tryd.f5 (OpenSpec.ofChange Rows.fnExactRecPrintSpec) false w args) (Rows.fnExactRecPrintSpec.post enc Tryd.prog Tryd.f5 false true false false) := by
  refine rih_laid_shaped (C := Tryd.checked) (X := fun w _ => laidMetH Tryd.prog Rows.fnExactRecPrintRow.laid w) (fun _ _ _ hh h => h.of_heap hh) own started (by kernel_rfl) Tryd.func5
    (ChangeSpec.witness_shaped (enc := enc) (C := Tryd.checked) (os := os) (X := fun w _ => laidMetH Tryd.prog Rows.fnExactRecPrintRow.laid w) false (wit os) #[.slice none 0 0] 16 rfl (wit_shaped os _) (by kernel_rfl) (by kernel_rfl) (by kernel_rfl) (wit_met os _)) ?_
  intro W base args ds gs before hval0 hW hcnd hsz0 hLd hSh
  haveI : GvOk (Gone W [1]) := ⟨gone_arr rfl (by kernel_rfl) (tab_of hLd)⟩
  have hsz : (DataW.weightsEach Tryd.prog (Tryd.f5.params.toList ++ Rows.fnExactRecPrintSpec.plain.varTypes Tryd.prog) (ds ++ gs)).all (· ≤ reachBytes) = true := hsz0
  have hval : ∀ (j : Nat) t v, Tryd.f5.params[j]? = some t → args[j]? = some v → Value.okWide Tryd.prog W .any base t v := hval0
  have hW' := hW
  obtain ⟨p, q, hA0, hV, rfl, hfz, hnd⟩ := hW
  have hA : DataW.TrodAll enc Tryd.prog W 0 (fun _ => true) true Tryd.f5.params.toList args.toList ds p := hA0
  rw [Tryd.params5] at hA hval hsz
  obtain ⟨v0, vs0, d0, ds0, p0, q0, hargs, rfl, rfl, h0, r0⟩ := trodAll_cons hA
  obtain ⟨rfl, rfl, rfl⟩ := trodAll_nil r0
  obtain rfl : args = #[v0] := by cases args; simp_all
  obtain ⟨rfl, rfl⟩ := trodVars_none hV
  have t0 := h0
  have lt0 : ∀ x ∈ p0, x.block < W.heap.size := by obtain ⟨m, hm⟩ := t0; exact DataW.trod_lt m _ _ _ hm
  obtain ⟨x0, hr0, ho0⟩ := opn_slice_arg (en0 := fun xs : List S_laws_RecPhase => .sl 8 xs.length (xs.map en_S_laws_RecPhase)) Tryd.underlying31 open31 (hval 0 31 v0 rfl rfl) h0 (fun n hn => by have z := List.all_eq_true.1 hsz n (DataW.weights_mem_each (j := 0) rfl rfl n hn); simpa using z)
  clear hA0 hval0 hsz0 hsz
  obtain ⟨k, hk⟩ := Pure.FnExactRecPrint x0 ho0
  refine (calls_bool (laws_FnExactRecPrint.ac (G := (Gone W [1])) hk) (vs := [v0]) ⟨hr0, trivial⟩ gone_gl).mono fun e W' ⟨he, bel⟩ => ?_
  subst he
  exact ⟨_, rfl, _, _, _, [], _, [], hW', trodAll_mk1 (shut_bool Tryd.underlying4 _), (trodAll_cons_mk (Below.trod laidOut (by kernel_rfl) (of_decide_eq_true (by kernel_rfl)) t0 bel lt0) trodAll_mk0), rfl, bel.frame _, fun h => by cases h⟩
theorem j0 : (Rows.fnExactRecPrintRow.plainKeys == Tryd.pinned.checked.prog.plainKeys) = true := by kernel_rfl
theorem j1 : Tryd.pinned.checked.prog.stopsHeard = true := by kernel_rfl
theorem j2 : Tryd.pinned.checked.prog.mayEnter = true := by kernel_rfl
theorem j3 : (Rows.fnExactRecPrintRow.lifted == Tryd.pinned.checked.prog.liftsFinal) = true := by kernel_rfl
theorem j4 : (Tryd.pinned.checked.prog.make == some Rows.fnExactRecPrintRow.make) = true := by kernel_rfl
theorem joined : joinedFacts Tryd.pinned.checked.prog 5 Tryd.f5 Rows.fnExactRecPrintSpec Rows.fnExactRecPrintRow = true := by
  unfold joinedFacts
  simp only [Bool.and_eq_true]
  repeat' apply And.intro
  all_goals first | with_reducible exact j0 | with_reducible exact j1 | with_reducible exact j2 | with_reducible exact j3 | with_reducible exact j4 | kernel_rfl
theorem over : Rows.fnExactRecPrintRow.holds Tryd.pinned (OpenSpec.ofChange Rows.fnExactRecPrintSpec) :=
  OpenClaim.holds_of_wide 5 Tryd.f5 rfl rfl rfl rfl rfl rfl rfl ⟨rfl, rfl, rfl, rfl, rfl⟩ rfl rfl rfl rfl rfl (by kernel_rfl) Tryd.func5 joined
    (of_decide_eq_true (by kernel_rfl)) (by unfold Func.isWrapper; first | (rw [if_pos (by decide +kernel)]; kernel_rfl) | (rw [if_neg (by decide +kernel)]; exact ⟨rfl, rfl⟩))
    (fun os started H enc _ => lifted os started H enc)
theorem proved : Rows.FnExactRecPrintSaid := over
#print axioms proved
theorem card_holds : Rows.FnExactRecPrintCardSaid :=
  Claim7.holds_tied_plain_at .later [] [.data, .data, .data] true (true, "731117d32239c868262dd530ff959c9396f0a83f3256499488bbd9e643d2cf6a") false
    proved (fun _ h => by cases h) (by kernel_rfl) (fun _ h => by cases h) fnExactRecPrint_row_tie rfl ⟨rfl, rfl⟩ (by kernel_rfl) rfl
    (fun f fn hf hfn => by
      obtain rfl : f = 5 := Option.some.inj ((show Tryd.prog.funcNamed "loop.example/malthouse/laws.FnExactRecPrint" = some 5 by kernel_rfl).symm.trans hf) |>.symm
      obtain rfl : fn = Tryd.f5 := (Option.some.inj (Tryd.func5.symm.trans hfn)).symm
      exact ⟨by kernel_rfl, fun j t ht => by
        rw [Tryd.params5] at ht
        have hm : t ∈ [31] := by simpa using Array.mem_of_getElem? ht
        have hall : ([31].all fun u => !Tryd.prog.wantsStandIn u) = true := by kernel_rfl
        exact (show Tryd.prog.wantsStandIn t = false by simpa using List.all_eq_true.1 hall t hm)⟩)
    (by kernel_rfl)
#print axioms card_holds
end Go.Proofs.YteflhnpcgoijfaaDoor.fnExactRecPrint
namespace Go.Proofs.YteflhnpcgoijfaaDoor
/-- The row, under a short name, for the claim. -/
theorem fnExactRecPrint_holds : Rows.FnExactRecPrintCardSaid := fnExactRecPrint.card_holds
end Go.Proofs.YteflhnpcgoijfaaDoor
