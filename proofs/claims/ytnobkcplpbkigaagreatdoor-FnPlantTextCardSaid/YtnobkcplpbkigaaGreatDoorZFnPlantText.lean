/- Every text is read as the reference reads it; what is read is a valid plant that is printed and read again as itself; and what stands ahead of a fault is read without one. -/
import Derived.Test.YtnobkcplpbkigaaGreatDoorRows
import Derived.Test.YtnobkcplpbkigaaGreatDoorZFnPlantText5
import Derived.KernelRfl
import Derived.Test.YtnobkcplpbkigaaGreatDoorCards
import Derived.Test.YtnobkcplpbkigaaGreatDoorTie
import Derived.SevenTiedAt
import Derived.PinnedBridge
namespace Go.Proofs.YtnobkcplpbkigaaGreatDoor.fnPlantText
open Go.ChangeShapes Go.WideShapes Go.ChangeAt Go.RowKit Go.Aw Go.Proofs.YtnobkcplpbkigaaGreatDoor.PT
set_option linter.unusedVariables false
theorem own : ownKnob Tryz.prog.godebug = none := by kernel_rfl
theorem aIM : laidOutB Tryz.prog = true := by kernel_rfl
theorem aKV : Opn Tryz.prog 22 (fun xs : List Int => [.sl 1 xs.length (xs.map vI)]) (fun xs : List Int => (xs.length ≤ 9223372036854775807 ∧ xs.length * 1 ≤ 140737488351232) ∧ ∀ z ∈ xs, (Lit.int .u8 z).wf = true) := aDP Tryz.underlying22 (by kernel_rfl) (Nat.le_of_ble_eq_true rfl) (by kernel_rfl) (fun _ => rfl) (aJU Tryz.underlying5)
noncomputable def wit (os : Os) : World := { World.doorLaid Tryz.prog 400 os with heap := (World.doorLaid Tryz.prog 400 os).heap.modify 4 fun o => match o with | .cells _ t fz => .cells (Lib.firstTab.map fun z => Value.int .u8 z).toArray t fz | o => o }
theorem aAU (os : Os) (args : Array Value) : ((wit os).forCall (fun _ _ => 0) ⟨#[], args, []⟩).Shaped Tryz.prog := World.shaped_of_RefB (by kernel_rfl) (by kernel_rfl)
theorem aID (os : Os) (args : Array Value) : laidMetH Tryz.prog Rows.fnPlantTextRow.laid ((wit os).forCall (fun _ _ => 0) ⟨#[], args, []⟩).memory :=
  laidMetH_of_parts3 (fuel := 8) (laidMet_of_run' 8 (by kernel_rfl) (by kernel_rfl)) (by kernel_rfl) (by kernel_rfl)
theorem aLF {W : World} (h : laidMetH Tryz.prog Rows.fnPlantTextRow.laid W) : Lib.TabIs Tryz.prog W "internal/strconv.uint64pow10" .u64 Lib.pow10Tab := by
  rw [MakeChecks.laidMetH_plain _ _ _ (by kernel_rfl)] at h
  have h' : laidMet Tryz.prog [("math/bits.deBruijn32tab", Rows.laid_math_bits_deBruijn32tab), ("math/bits.deBruijn64tab", Rows.laid_math_bits_deBruijn64tab), ("internal/strconv.uint64pow10", Lib.tabData .u64 Lib.pow10Tab), ("unicode/utf8.acceptRanges", Rows.laid_unicode_utf8_acceptRanges), ("unicode/utf8.first", Rows.laid_unicode_utf8_first)] W := h
  exact Lib.tabIs_of_head (g := 0) (t := 137) (e := 117) (n := 20) (by kernel_rfl) (by kernel_rfl) Tryz.underlying137 Tryz.underlying117 (by kernel_rfl) (by kernel_rfl) (laidMet.tail (laidMet.tail h'))
set_option maxRecDepth 100000 in
theorem lifted (os : Os) (started : os.Started) (H : Type) (enc : TypeId × Value → H) :
    ReturnsInHanded {} Tryz.checked os 4 .any (fun w args => (Rows.fnPlantTextSpec.pre enc Tryz.prog Tryz.f4 Rows.fnPlantTextRow.domain false w args ∧ laidMetH Tryz.prog Rows.fnPlantTextRow.laid w) ∧ sizedMet enc Tryz.prog Tryz.f4 (OpenSpec.ofChange Rows.fnPlantTextSpec) false w args) (Rows.fnPlantTextSpec.post enc Tryz.prog Tryz.f4 false true false false) := by
  refine sG (C := Tryz.checked) (X := fun w _ => laidMetH Tryz.prog Rows.fnPlantTextRow.laid w) (fun _ _ _ hh h => h.of_heap hh) own started (by kernel_rfl) Tryz.func4
    (ChangeSpec.witness_shaped (enc := enc) (C := Tryz.checked) (os := os) (X := fun w _ => laidMetH Tryz.prog Rows.fnPlantTextRow.laid w) false (wit os) #[.slice none 0 0] 16 rfl (aAU os _) (by kernel_rfl) (by kernel_rfl) (by kernel_rfl) (aID os _)) ?_
  intro W base args ds gs before hval0 hW hcnd hsz0 hLd hSh
  haveI : GvOk (zA W [0, 1]) := ⟨aFF rfl (Tryz.gx145.s1_3 W hSh), aGP rfl (by kernel_rfl) (aLF hLd)⟩
  have hsz : (DataW.weightsEach Tryz.prog (Tryz.f4.params.toList ++ Rows.fnPlantTextSpec.plain.varTypes Tryz.prog) (ds ++ gs)).all (· ≤ reachBytes) = true := hsz0
  have hval : ∀ (j : Nat) t v, Tryz.f4.params[j]? = some t → args[j]? = some v → Value.okWide Tryz.prog W .any base t v := hval0
  have hW' := hW
  obtain ⟨p, q, hA0, hV, rfl, hfz, hnd⟩ := hW
  have hA : DataW.TrodAll enc Tryz.prog W 0 (fun _ => true) true Tryz.f4.params.toList args.toList ds p := hA0
  rw [Tryz.params4] at hA hval hsz
  obtain ⟨v0, vs0, d0, ds0, p0, q0, hargs, rfl, rfl, h0, r0⟩ := trodAll_cons hA
  obtain ⟨rfl, rfl, rfl⟩ := trodAll_nil r0
  obtain rfl : args = #[v0] := by cases args; simp_all
  obtain ⟨rfl, rfl⟩ := trodVars_none hV
  have t0 := h0
  have lt0 : ∀ x ∈ p0, x.block < W.heap.size := by obtain ⟨m, hm⟩ := t0; exact DataW.trod_lt m _ _ _ hm
  obtain ⟨x0, hr0, ho0⟩ := uL (en0 := fun xs : List Int => .sl 1 xs.length (xs.map vI)) Tryz.underlying22 aKV (hval 0 22 v0 rfl rfl) h0 (fun n hn => by have z := List.all_eq_true.1 hsz n (DataW.weights_mem_each (j := 0) rfl rfl n hn); simpa using z)
  clear hA0 hval0 hsz0 hsz
  obtain ⟨k, hk⟩ := Pure.FnPlantText x0 ho0
  refine (aAG (cT.ac (G := (zA W [0, 1])) hk) (vs := [v0]) ⟨hr0, trivial⟩ aIB).mono fun e W' ⟨he, bel⟩ => ?_
  subst he
  exact ⟨_, rfl, _, _, _, [], _, [], hW', trodAll_mk1 (shut_bool Tryz.underlying4 _), (trodAll_cons_mk (Below.trod aIM (by kernel_rfl) (of_decide_eq_true (by kernel_rfl)) t0 bel lt0) trodAll_mk0), rfl, bel.frame _, fun h => by cases h⟩
theorem j0 : (Rows.fnPlantTextRow.plainKeys == Tryz.pinned.checked.prog.plainKeys) = true := by kernel_rfl
theorem j1 : Tryz.pinned.checked.prog.stopsHeard = true := by kernel_rfl
theorem j2 : Tryz.pinned.checked.prog.mayEnter = true := by kernel_rfl
theorem j3 : (Rows.fnPlantTextRow.lifted == Tryz.pinned.checked.prog.liftsFinal) = true := by kernel_rfl
theorem j4 : (Tryz.pinned.checked.prog.make == some Rows.fnPlantTextRow.make) = true := by kernel_rfl
theorem aLM : joinedFacts Tryz.pinned.checked.prog 4 Tryz.f4 Rows.fnPlantTextSpec Rows.fnPlantTextRow = true := by
  unfold joinedFacts
  simp only [Bool.and_eq_true]
  repeat' apply And.intro
  all_goals first | with_reducible exact j0 | with_reducible exact j1 | with_reducible exact j2 | with_reducible exact j3 | with_reducible exact j4 | kernel_rfl
theorem over : Rows.fnPlantTextRow.holds Tryz.pinned (OpenSpec.ofChange Rows.fnPlantTextSpec) :=
  OpenClaim.holds_of_wide 4 Tryz.f4 rfl rfl rfl rfl rfl rfl rfl ⟨rfl, rfl, rfl, rfl, rfl⟩ rfl rfl rfl rfl rfl (by kernel_rfl) Tryz.func4 aLM
    (of_decide_eq_true (by kernel_rfl)) (by unfold Func.isWrapper; first | (rw [if_pos (by decide +kernel)]; kernel_rfl) | (rw [if_neg (by decide +kernel)]; exact ⟨rfl, rfl⟩))
    (fun os started H enc _ => lifted os started H enc)
theorem proved : Rows.FnPlantTextSaid := over
#print axioms proved
theorem card_holds : Rows.FnPlantTextCardSaid :=
  Claim7.holds_tied_plain_at .later [] [.data, .data, .data, .data, .pinned] true (true, "6e52fb225b7c91ca526c62d081ea3dcec5dc3f19e60522e8f87ad99f7743e62a") false
    proved (fun _ h => by cases h) (by kernel_rfl) (fun _ h => by cases h) fnPlantText_row_tie rfl ⟨rfl, rfl⟩ (by kernel_rfl) rfl
    (fun f fn hf hfn => by
      obtain rfl : f = 4 := Option.some.inj ((show Tryz.prog.funcNamed "loop.example/malthouse/laws.FnPlantText" = some 4 by kernel_rfl).symm.trans hf) |>.symm
      obtain rfl : fn = Tryz.f4 := (Option.some.inj (Tryz.func4.symm.trans hfn)).symm
      exact ⟨by kernel_rfl, fun j t ht => by
        rw [Tryz.params4] at ht
        have hm : t ∈ [22] := by simpa using Array.mem_of_getElem? ht
        have hall : ([22].all fun u => !Tryz.prog.wantsStandIn u) = true := by kernel_rfl
        exact (show Tryz.prog.wantsStandIn t = false by simpa using List.all_eq_true.1 hall t hm)⟩)
    (by kernel_rfl)
#print axioms card_holds
end Go.Proofs.YtnobkcplpbkigaaGreatDoor.fnPlantText
namespace Go.Proofs.YtnobkcplpbkigaaGreatDoor
/-- The row, under a short name, for the claim. -/
theorem fnPlantText_holds : Rows.FnPlantTextCardSaid := fnPlantText.card_holds
end Go.Proofs.YtnobkcplpbkigaaGreatDoor
