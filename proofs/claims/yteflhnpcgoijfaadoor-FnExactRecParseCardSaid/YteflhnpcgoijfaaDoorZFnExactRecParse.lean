/- For every text within the law's bounds RecParse answers as the reference does, and its answer owns its memory. -/
import Derived.Test.YteflhnpcgoijfaaDoorRows
import Derived.Test.YteflhnpcgoijfaaDoorZFnExactRecParse2
import Derived.KernelRfl
import Derived.Test.YteflhnpcgoijfaaDoorCards
import Derived.Test.YteflhnpcgoijfaaDoorTie
import Derived.SevenTiedAt
import Derived.PinnedBridge
namespace Go.Proofs.YteflhnpcgoijfaaDoor.fnExactRecParse
open Go.ChangeShapes Go.WideShapes Go.ChangeAt Go.RowKit Go.Aw Go.Proofs.YteflhnpcgoijfaaDoor.RX
set_option linter.unusedVariables false
theorem own : ownKnob Tryd.prog.godebug = none := by kernel_rfl
theorem laidOut : laidOutB Tryd.prog = true := by kernel_rfl
noncomputable def wit (os : Os) : World := { World.doorLaid Tryd.prog 400 os with heap := (World.doorLaid Tryd.prog 400 os).heap.modify 2 fun o => match o with | .cells _ t fz => .cells (Lib.firstTab.map fun z => Value.int .u8 z).toArray t fz | o => o }
theorem wit_shaped (os : Os) (args : Array Value) : ((wit os).forCall (fun _ _ => 0) ⟨#[], args, []⟩).Shaped Tryd.prog := World.shaped_of_RefB (by kernel_rfl) (by kernel_rfl)
theorem wit_met (os : Os) (args : Array Value) : laidMetH Tryd.prog Rows.fnExactRecParseRow.laid ((wit os).forCall (fun _ _ => 0) ⟨#[], args, []⟩).memory :=
  laidMetH_of_parts3 (fuel := 8) (laidMet_of_run' 8 (by kernel_rfl) (by kernel_rfl)) (by kernel_rfl) (by kernel_rfl)
set_option maxRecDepth 100000 in
theorem lifted (os : Os) (started : os.Started) (H : Type) (enc : TypeId × Value → H) :
    ReturnsInHanded {} Tryd.checked os 7 .any (fun w args => (Rows.fnExactRecParseSpec.pre enc Tryd.prog Tryd.f7 Rows.fnExactRecParseRow.domain false w args ∧ laidMetH Tryd.prog Rows.fnExactRecParseRow.laid w) ∧ sizedMet enc Tryd.prog Tryd.f7 (OpenSpec.ofChange Rows.fnExactRecParseSpec) false w args) (Rows.fnExactRecParseSpec.post enc Tryd.prog Tryd.f7 false true false false) := by
  refine rih_laid_shaped (C := Tryd.checked) (X := fun w _ => laidMetH Tryd.prog Rows.fnExactRecParseRow.laid w) (fun _ _ _ hh h => h.of_heap hh) own started (by kernel_rfl) Tryd.func7
    (ChangeSpec.witness_shaped (enc := enc) (C := Tryd.checked) (os := os) (X := fun w _ => laidMetH Tryd.prog Rows.fnExactRecParseRow.laid w) false (wit os) #[.string ByteArray.empty] 16 rfl (wit_shaped os _) (by kernel_rfl) (by kernel_rfl) (by kernel_rfl) (wit_met os _)) ?_
  intro W base args ds gs before hval0 hW hcnd hsz0 hLd hSh
  haveI : GvOk (Gone W [0]) := ⟨gone_int rfl (Tryd.gx145.s1_3 W hSh)⟩
  have hsz : (DataW.weightsEach Tryd.prog (Tryd.f7.params.toList ++ Rows.fnExactRecParseSpec.plain.varTypes Tryd.prog) (ds ++ gs)).all (· ≤ reachBytes) = true := hsz0
  have hval : ∀ (j : Nat) t v, Tryd.f7.params[j]? = some t → args[j]? = some v → Value.okWide Tryd.prog W .any base t v := hval0
  have hW' := hW
  obtain ⟨p, q, hA0, hV, rfl, hfz, hnd⟩ := hW
  have hA : DataW.TrodAll enc Tryd.prog W 0 (fun _ => true) true Tryd.f7.params.toList args.toList ds p := hA0
  rw [Tryd.params7] at hA hval hsz
  obtain ⟨v0, vs0, d0, ds0, p0, q0, hargs, rfl, rfl, h0, r0⟩ := trodAll_cons hA
  obtain ⟨rfl, rfl, rfl⟩ := trodAll_nil r0
  obtain rfl : args = #[v0] := by cases args; simp_all
  obtain ⟨rfl, rfl⟩ := trodVars_none hV
  obtain ⟨x0, rfl, rfl, rfl, y0⟩ := Go.ChangeMaps.open_string Tryd.underlying9 (hval 0 9 v0 rfl rfl) h0
  have w0 : x0.size ≤ 140737488351232 := by
    have z := sized_string hsz (j := 0) (t := 9) rfl rfl
    rw [Array.length_toList] at z
    exact z
  clear hA0 hval0 hsz0 hsz
  obtain ⟨k, hk⟩ := Pure.FnExactRecParse x0 w0
  refine (calls_bool (laws_FnExactRecParse.ac (G := (Gone W [0])) hk) (vs := [.string x0]) ⟨.c (.str _), trivial⟩ gone_gl).mono fun e W' ⟨he, bel⟩ => ?_
  subst he
  exact ⟨_, rfl, _, _, _, [], _, [], hW', trodAll_mk1 (shut_bool Tryd.underlying4 _), (trodAll_cons_mk (Go.ChangeMaps.shut_string Tryd.underlying9 y0) trodAll_mk0), rfl, bel.frame _, fun h => by cases h⟩
theorem j0 : (Rows.fnExactRecParseRow.plainKeys == Tryd.pinned.checked.prog.plainKeys) = true := by kernel_rfl
theorem j1 : Tryd.pinned.checked.prog.stopsHeard = true := by kernel_rfl
theorem j2 : Tryd.pinned.checked.prog.mayEnter = true := by kernel_rfl
theorem j3 : (Rows.fnExactRecParseRow.lifted == Tryd.pinned.checked.prog.liftsFinal) = true := by kernel_rfl
theorem j4 : (Tryd.pinned.checked.prog.make == some Rows.fnExactRecParseRow.make) = true := by kernel_rfl
theorem joined : joinedFacts Tryd.pinned.checked.prog 7 Tryd.f7 Rows.fnExactRecParseSpec Rows.fnExactRecParseRow = true := by
  unfold joinedFacts
  simp only [Bool.and_eq_true]
  repeat' apply And.intro
  all_goals first | with_reducible exact j0 | with_reducible exact j1 | with_reducible exact j2 | with_reducible exact j3 | with_reducible exact j4 | kernel_rfl
theorem over : Rows.fnExactRecParseRow.holds Tryd.pinned (OpenSpec.ofChange Rows.fnExactRecParseSpec) :=
  OpenClaim.holds_of_wide 7 Tryd.f7 rfl rfl rfl rfl rfl rfl rfl ⟨rfl, rfl, rfl, rfl, rfl⟩ rfl rfl rfl rfl rfl (by kernel_rfl) Tryd.func7 joined
    (of_decide_eq_true (by kernel_rfl)) (by unfold Func.isWrapper; first | (rw [if_pos (by decide +kernel)]; kernel_rfl) | (rw [if_neg (by decide +kernel)]; exact ⟨rfl, rfl⟩))
    (fun os started H enc _ => lifted os started H enc)
theorem proved : Rows.FnExactRecParseSaid := over
#print axioms proved
theorem card_holds : Rows.FnExactRecParseCardSaid :=
  Claim7.holds_tied_plain_at .later [] [.data, .pinned] true (true, "731117d32239c868262dd530ff959c9396f0a83f3256499488bbd9e643d2cf6a") false
    proved (fun _ h => by cases h) (by kernel_rfl) (fun _ h => by cases h) fnExactRecParse_row_tie rfl ⟨rfl, rfl⟩ (by kernel_rfl) rfl
    (fun f fn hf hfn => by
      obtain rfl : f = 7 := Option.some.inj ((show Tryd.prog.funcNamed "loop.example/malthouse/laws.FnExactRecParse" = some 7 by kernel_rfl).symm.trans hf) |>.symm
      obtain rfl : fn = Tryd.f7 := (Option.some.inj (Tryd.func7.symm.trans hfn)).symm
      exact ⟨by kernel_rfl, fun j t ht => by
        rw [Tryd.params7] at ht
        have hm : t ∈ [9] := by simpa using Array.mem_of_getElem? ht
        have hall : ([9].all fun u => !Tryd.prog.wantsStandIn u) = true := by kernel_rfl
        exact (show Tryd.prog.wantsStandIn t = false by simpa using List.all_eq_true.1 hall t hm)⟩)
    (by kernel_rfl)
#print axioms card_holds
end Go.Proofs.YteflhnpcgoijfaaDoor.fnExactRecParse
namespace Go.Proofs.YteflhnpcgoijfaaDoor
/-- The row, under a short name, for the claim. -/
theorem fnExactRecParse_holds : Rows.FnExactRecParseCardSaid := fnExactRecParse.card_holds
end Go.Proofs.YteflhnpcgoijfaaDoor
