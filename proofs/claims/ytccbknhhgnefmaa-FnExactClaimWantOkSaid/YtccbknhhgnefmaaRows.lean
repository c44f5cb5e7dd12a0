/-
  No cell of these rows narrows 'for every input' (looked for: loops, veiled, ifaces, maps, wideKeys, modest, calm, conditions, laid).
  DERIVED. THE GIVEN ROWS OF THIS SEAT. 11 by the template 'for every input the law returns true; each argument reads behind the call as it read before'; 0 by the template 'total and deterministic' (their statements: YtccbknhhgnefmaaTotals.lean).
  GIVEN WITH THE SEED: the statements are not yours to turn. If you find one false, say at which input.
  Laid BY PROGRAM, IN A SANDBOX (cutbox-rows.mjs): the forced cells as the released guide's own fill.sh prints them over the translation 81233ec53451313d… (all of the seat's roots in one cut). By AI agents, Wed Nov 11 2026. No macro, syntax, notation, axiom, sorry.
-/
import Derived.Test.YtccbknhhgnefmaaChecked
import GoSem.Claim
import GoSem.ClaimJoined
import GoSem.ClaimMapViews
import Derived.JoinedTies
import Derived.KernelRfl
namespace Go.Proofs.Ytccbknhhgnefmaa
/- THE CELL 'sum', in the pinned program and in every row, IS THE sha256 OF THE DUMP (.gsa) THAT YtccbknhhgnefmaaProg.lean LOADS. Nothing in Lean hashes anything: it is a label: what it is worth is what the hold of that sum in a sandbox is worth. -/
noncomputable def Try.pinned : Pinned := { name := "ytccbknhhgnefmaa", sum := "81233ec53451313d36e0b0a416142e64b4834cccd5746cfe51bf433e30d645e5", checked := Try.checked }
namespace Rows
def none {H : Type} : Left H := { results := [], args := [] }

/-- 'laws.FnExactConstants': WHATEVER THE INPUT: true; the input reads as it did. -/
def fnExactConstantsSpec : ChangeSpec := { name := "fnExactConstants", fn := fun _ => fun
  | [] => { results := [.lit (.bool true)], args := [] }
  | _ => none }
def fnExactConstantsRow : OpenClaim := { program := "ytccbknhhgnefmaa", sum := "81233ec53451313d36e0b0a416142e64b4834cccd5746cfe51bf433e30d645e5", func := "loop.example/malthouse/laws.FnExactConstants", spec := "fnExactConstants", apart := false }
def FnExactConstantsSaid : Prop := fnExactConstantsRow.holds Try.pinned (OpenSpec.ofChange fnExactConstantsSpec)

/-- ITS FALSE NEIGHBOUR: 'it returns false'. Refute it at one input. -/
def fnExactConstantsWrong : ChangeSpec := { name := "fnExactConstants", fn := fun _ => fun
  | [] => { results := [.lit (.bool false)], args := [] }
  | _ => none }
def FnExactConstantsWrongFalsely : Prop := fnExactConstantsRow.holds Try.pinned (OpenSpec.ofChange fnExactConstantsWrong)

/-- 'laws.FnExactRecEnd': WHATEVER THE INPUT: true; the input reads as it did. -/
def fnExactRecEndSpec : ChangeSpec := { name := "fnExactRecEnd", fn := fun _ => fun
  | [d] => { results := [.lit (.bool true)], args := [d] }
  | _ => none }
def fnExactRecEndRow : OpenClaim := { program := "ytccbknhhgnefmaa", sum := "81233ec53451313d36e0b0a416142e64b4834cccd5746cfe51bf433e30d645e5", func := "loop.example/malthouse/laws.FnExactRecEnd", spec := "fnExactRecEnd", apart := false }
def FnExactRecEndSaid : Prop := fnExactRecEndRow.holds Try.pinned (OpenSpec.ofChange fnExactRecEndSpec)

/-- ITS FALSE NEIGHBOUR: 'it returns false'. Refute it at one input. -/
def fnExactRecEndWrong : ChangeSpec := { name := "fnExactRecEnd", fn := fun _ => fun
  | [d] => { results := [.lit (.bool false)], args := [d] }
  | _ => none }
def FnExactRecEndWrongFalsely : Prop := fnExactRecEndRow.holds Try.pinned (OpenSpec.ofChange fnExactRecEndWrong)

/-- 'laws.FnExactStuffSplit': WHATEVER THE INPUT: true; the input reads as it did. -/
def fnExactStuffSplitSpec : ChangeSpec := { name := "fnExactStuffSplit", fn := fun _ => fun
  | [d1, d2] => { results := [.lit (.bool true)], args := [d1, d2] }
  | _ => none }
def fnExactStuffSplitRow : OpenClaim := { program := "ytccbknhhgnefmaa", sum := "81233ec53451313d36e0b0a416142e64b4834cccd5746cfe51bf433e30d645e5", func := "loop.example/malthouse/laws.FnExactStuffSplit", spec := "fnExactStuffSplit", apart := false }
def FnExactStuffSplitSaid : Prop := fnExactStuffSplitRow.holds Try.pinned (OpenSpec.ofChange fnExactStuffSplitSpec)

/-- ITS FALSE NEIGHBOUR: 'it returns false'. Refute it at one input. -/
def fnExactStuffSplitWrong : ChangeSpec := { name := "fnExactStuffSplit", fn := fun _ => fun
  | [d1, d2] => { results := [.lit (.bool false)], args := [d1, d2] }
  | _ => none }
def FnExactStuffSplitWrongFalsely : Prop := fnExactStuffSplitRow.holds Try.pinned (OpenSpec.ofChange fnExactStuffSplitWrong)

/-- 'laws.FnExactRecPhaseOk': WHATEVER THE INPUT: true; the input reads as it did. -/
def fnExactRecPhaseOkSpec : ChangeSpec := { name := "fnExactRecPhaseOk", fn := fun _ => fun
  | [d] => { results := [.lit (.bool true)], args := [d] }
  | _ => none }
def fnExactRecPhaseOkRow : OpenClaim := { program := "ytccbknhhgnefmaa", sum := "81233ec53451313d36e0b0a416142e64b4834cccd5746cfe51bf433e30d645e5", func := "loop.example/malthouse/laws.FnExactRecPhaseOk", spec := "fnExactRecPhaseOk", apart := false }
def FnExactRecPhaseOkSaid : Prop := fnExactRecPhaseOkRow.holds Try.pinned (OpenSpec.ofChange fnExactRecPhaseOkSpec)

/-- ITS FALSE NEIGHBOUR: 'it returns false'. Refute it at one input. -/
def fnExactRecPhaseOkWrong : ChangeSpec := { name := "fnExactRecPhaseOk", fn := fun _ => fun
  | [d] => { results := [.lit (.bool false)], args := [d] }
  | _ => none }
def FnExactRecPhaseOkWrongFalsely : Prop := fnExactRecPhaseOkRow.holds Try.pinned (OpenSpec.ofChange fnExactRecPhaseOkWrong)

/-- 'laws.FnStuffSplit': WHATEVER THE INPUT: true; the input reads as it did. -/
def fnStuffSplitSpec : ChangeSpec := { name := "fnStuffSplit", fn := fun _ => fun
  | [d] => { results := [.lit (.bool true)], args := [d] }
  | _ => none }
def fnStuffSplitRow : OpenClaim := { program := "ytccbknhhgnefmaa", sum := "81233ec53451313d36e0b0a416142e64b4834cccd5746cfe51bf433e30d645e5", func := "loop.example/malthouse/laws.FnStuffSplit", spec := "fnStuffSplit", apart := false }
def FnStuffSplitSaid : Prop := fnStuffSplitRow.holds Try.pinned (OpenSpec.ofChange fnStuffSplitSpec)

/-- ITS FALSE NEIGHBOUR: 'it returns false'. Refute it at one input. -/
def fnStuffSplitWrong : ChangeSpec := { name := "fnStuffSplit", fn := fun _ => fun
  | [d] => { results := [.lit (.bool false)], args := [d] }
  | _ => none }
def FnStuffSplitWrongFalsely : Prop := fnStuffSplitRow.holds Try.pinned (OpenSpec.ofChange fnStuffSplitWrong)

/-- 'laws.FnExactPlantJoined': WHATEVER THE INPUT: true; the input reads as it did. -/
def fnExactPlantJoinedSpec : ChangeSpec := { name := "fnExactPlantJoined", fn := fun _ => fun
  | [d1, d2, d3] => { results := [.lit (.bool true)], args := [d1, d2, d3] }
  | _ => none }
def fnExactPlantJoinedRow : OpenClaim := { program := "ytccbknhhgnefmaa", sum := "81233ec53451313d36e0b0a416142e64b4834cccd5746cfe51bf433e30d645e5", func := "loop.example/malthouse/laws.FnExactPlantJoined", spec := "fnExactPlantJoined", unfollowed := true, recurses := true, apart := false }
def FnExactPlantJoinedSaid : Prop := fnExactPlantJoinedRow.holds Try.pinned (OpenSpec.ofChange fnExactPlantJoinedSpec)

/-- ITS FALSE NEIGHBOUR: 'it returns false'. Refute it at one input. -/
def fnExactPlantJoinedWrong : ChangeSpec := { name := "fnExactPlantJoined", fn := fun _ => fun
  | [d1, d2, d3] => { results := [.lit (.bool false)], args := [d1, d2, d3] }
  | _ => none }
def FnExactPlantJoinedWrongFalsely : Prop := fnExactPlantJoinedRow.holds Try.pinned (OpenSpec.ofChange fnExactPlantJoinedWrong)

/-- 'laws.FnRecPhase': WHATEVER THE INPUT: true; the input reads as it did. -/
def fnRecPhaseSpec : ChangeSpec := { name := "fnRecPhase", fn := fun _ => fun
  | [d] => { results := [.lit (.bool true)], args := [d] }
  | _ => none }
def fnRecPhaseRow : OpenClaim := { program := "ytccbknhhgnefmaa", sum := "81233ec53451313d36e0b0a416142e64b4834cccd5746cfe51bf433e30d645e5", func := "loop.example/malthouse/laws.FnRecPhase", spec := "fnRecPhase", apart := false }
def FnRecPhaseSaid : Prop := fnRecPhaseRow.holds Try.pinned (OpenSpec.ofChange fnRecPhaseSpec)

/-- ITS FALSE NEIGHBOUR: 'it returns false'. Refute it at one input. -/
def fnRecPhaseWrong : ChangeSpec := { name := "fnRecPhase", fn := fun _ => fun
  | [d] => { results := [.lit (.bool false)], args := [d] }
  | _ => none }
def FnRecPhaseWrongFalsely : Prop := fnRecPhaseRow.holds Try.pinned (OpenSpec.ofChange fnRecPhaseWrong)

/-- 'laws.FnExactRecOk': WHATEVER THE INPUT: true; the input reads as it did. -/
def fnExactRecOkSpec : ChangeSpec := { name := "fnExactRecOk", fn := fun _ => fun
  | [d] => { results := [.lit (.bool true)], args := [d] }
  | _ => none }
def fnExactRecOkRow : OpenClaim := { program := "ytccbknhhgnefmaa", sum := "81233ec53451313d36e0b0a416142e64b4834cccd5746cfe51bf433e30d645e5", func := "loop.example/malthouse/laws.FnExactRecOk", spec := "fnExactRecOk", apart := false }
def FnExactRecOkSaid : Prop := fnExactRecOkRow.holds Try.pinned (OpenSpec.ofChange fnExactRecOkSpec)

/-- ITS FALSE NEIGHBOUR: 'it returns false'. Refute it at one input. -/
def fnExactRecOkWrong : ChangeSpec := { name := "fnExactRecOk", fn := fun _ => fun
  | [d] => { results := [.lit (.bool false)], args := [d] }
  | _ => none }
def FnExactRecOkWrongFalsely : Prop := fnExactRecOkRow.holds Try.pinned (OpenSpec.ofChange fnExactRecOkWrong)

/-- 'laws.FnExactRecBound': WHATEVER THE INPUT: true; the input reads as it did. -/
def fnExactRecBoundSpec : ChangeSpec := { name := "fnExactRecBound", fn := fun _ => fun
  | [d1, d2] => { results := [.lit (.bool true)], args := [d1, d2] }
  | _ => none }
def fnExactRecBoundRow : OpenClaim := { program := "ytccbknhhgnefmaa", sum := "81233ec53451313d36e0b0a416142e64b4834cccd5746cfe51bf433e30d645e5", func := "loop.example/malthouse/laws.FnExactRecBound", spec := "fnExactRecBound", recurses := true, apart := false }
def FnExactRecBoundSaid : Prop := fnExactRecBoundRow.holds Try.pinned (OpenSpec.ofChange fnExactRecBoundSpec)

/-- ITS FALSE NEIGHBOUR: 'it returns false'. Refute it at one input. -/
def fnExactRecBoundWrong : ChangeSpec := { name := "fnExactRecBound", fn := fun _ => fun
  | [d1, d2] => { results := [.lit (.bool false)], args := [d1, d2] }
  | _ => none }
def FnExactRecBoundWrongFalsely : Prop := fnExactRecBoundRow.holds Try.pinned (OpenSpec.ofChange fnExactRecBoundWrong)

/-- 'laws.FnExactClaimWantOk': WHATEVER THE INPUT: true; the input reads as it did. -/
def fnExactClaimWantOkSpec : ChangeSpec := { name := "fnExactClaimWantOk", fn := fun _ => fun
  | [d] => { results := [.lit (.bool true)], args := [d] }
  | _ => none }
def fnExactClaimWantOkRow : OpenClaim := { program := "ytccbknhhgnefmaa", sum := "81233ec53451313d36e0b0a416142e64b4834cccd5746cfe51bf433e30d645e5", func := "loop.example/malthouse/laws.FnExactClaimWantOk", spec := "fnExactClaimWantOk", apart := false }
def FnExactClaimWantOkSaid : Prop := fnExactClaimWantOkRow.holds Try.pinned (OpenSpec.ofChange fnExactClaimWantOkSpec)

/-- ITS FALSE NEIGHBOUR: 'it returns false'. Refute it at one input. -/
def fnExactClaimWantOkWrong : ChangeSpec := { name := "fnExactClaimWantOk", fn := fun _ => fun
  | [d] => { results := [.lit (.bool false)], args := [d] }
  | _ => none }
def FnExactClaimWantOkWrongFalsely : Prop := fnExactClaimWantOkRow.holds Try.pinned (OpenSpec.ofChange fnExactClaimWantOkWrong)

/-- 'laws.FnExactRecBegin': WHATEVER THE INPUT: true; the input reads as it did. -/
def fnExactRecBeginSpec : ChangeSpec := { name := "fnExactRecBegin", fn := fun _ => fun
  | [d] => { results := [.lit (.bool true)], args := [d] }
  | _ => none }
def fnExactRecBeginRow : OpenClaim := { program := "ytccbknhhgnefmaa", sum := "81233ec53451313d36e0b0a416142e64b4834cccd5746cfe51bf433e30d645e5", func := "loop.example/malthouse/laws.FnExactRecBegin", spec := "fnExactRecBegin", recurses := true, apart := false }
def FnExactRecBeginSaid : Prop := fnExactRecBeginRow.holds Try.pinned (OpenSpec.ofChange fnExactRecBeginSpec)

/-- ITS FALSE NEIGHBOUR: 'it returns false'. Refute it at one input. -/
def fnExactRecBeginWrong : ChangeSpec := { name := "fnExactRecBegin", fn := fun _ => fun
  | [d] => { results := [.lit (.bool false)], args := [d] }
  | _ => none }
def FnExactRecBeginWrongFalsely : Prop := fnExactRecBeginRow.holds Try.pinned (OpenSpec.ofChange fnExactRecBeginWrong)

/- THE SECOND FORM. 'bulk': how many values and letters a reading holds, each counted each time it is reached (what is shared counts as often as it is met; a slice's spare places count too). A statement '..UptoSaid' is the law's where the arguments, and the package variables that the reading takes, are together of bulk at most 1048576: NARROWER than '..Said'. Prove '..Said' where nothing that the law and all that it calls make is longer than what came in: it says more and counts as full. Else prove '..UptoSaid'. A law counts once. -/
mutual
def uptoBulk {H : Type} : DataW H → Nat
  | .lit (.string bytes) => bytes.length + 1
  | .lit _ => 1
  | .nil => 1
  | .ptr d => uptoBulk d + 1
  | .slice elems spare => uptoBulkAll elems + uptoBulkAll spare + 1
  | .agg parts => uptoBulkAll parts + 1
  | .iface _ d => uptoBulk d + 1
  | .map entries => uptoBulkEntries entries + 1
  | .held _ => 1
def uptoBulkAll {H : Type} : List (DataW H) → Nat
  | [] => 0
  | d :: r => uptoBulk d + uptoBulkAll r
def uptoBulkEntries {H : Type} : List (Lit × DataW H) → Nat
  | [] => 0
  | x :: r => uptoBulkEntry x + uptoBulkEntries r
def uptoBulkEntry {H : Type} : Lit × DataW H → Nat
  | (.string bytes, d) => bytes.length + uptoBulk d + 1
  | (_, d) => uptoBulk d + 1
 end
def uptoSmall : (H : Type) → List (DataW H) → Bool := fun _ ds => decide (uptoBulkAll ds ≤ 1048576)
def OpenSpec.upto (s : _root_.Go.ChangeSpec) : _root_.Go.OpenSpec := { _root_.Go.OpenSpec.ofChange s with cond := some uptoSmall }

/-- 'laws.FnExactConstants', WHERE WHAT IT READS IS OF BULK AT MOST 1048576: true; the input reads as it did. -/
def fnExactConstantsUptoRow : OpenClaim := { program := "ytccbknhhgnefmaa", sum := "81233ec53451313d36e0b0a416142e64b4834cccd5746cfe51bf433e30d645e5", func := "loop.example/malthouse/laws.FnExactConstants", spec := "fnExactConstants", apart := false, narrowed := true }
def FnExactConstantsUptoSaid : Prop := fnExactConstantsUptoRow.holds Try.pinned (OpenSpec.upto fnExactConstantsSpec)

/-- 'laws.FnExactRecEnd', WHERE WHAT IT READS IS OF BULK AT MOST 1048576: true; the input reads as it did. -/
def fnExactRecEndUptoRow : OpenClaim := { program := "ytccbknhhgnefmaa", sum := "81233ec53451313d36e0b0a416142e64b4834cccd5746cfe51bf433e30d645e5", func := "loop.example/malthouse/laws.FnExactRecEnd", spec := "fnExactRecEnd", apart := false, narrowed := true }
def FnExactRecEndUptoSaid : Prop := fnExactRecEndUptoRow.holds Try.pinned (OpenSpec.upto fnExactRecEndSpec)

/-- 'laws.FnExactStuffSplit', WHERE WHAT IT READS IS OF BULK AT MOST 1048576: true; the input reads as it did. -/
def fnExactStuffSplitUptoRow : OpenClaim := { program := "ytccbknhhgnefmaa", sum := "81233ec53451313d36e0b0a416142e64b4834cccd5746cfe51bf433e30d645e5", func := "loop.example/malthouse/laws.FnExactStuffSplit", spec := "fnExactStuffSplit", apart := false, narrowed := true }
def FnExactStuffSplitUptoSaid : Prop := fnExactStuffSplitUptoRow.holds Try.pinned (OpenSpec.upto fnExactStuffSplitSpec)

/-- 'laws.FnExactRecPhaseOk', WHERE WHAT IT READS IS OF BULK AT MOST 1048576: true; the input reads as it did. -/
def fnExactRecPhaseOkUptoRow : OpenClaim := { program := "ytccbknhhgnefmaa", sum := "81233ec53451313d36e0b0a416142e64b4834cccd5746cfe51bf433e30d645e5", func := "loop.example/malthouse/laws.FnExactRecPhaseOk", spec := "fnExactRecPhaseOk", apart := false, narrowed := true }
def FnExactRecPhaseOkUptoSaid : Prop := fnExactRecPhaseOkUptoRow.holds Try.pinned (OpenSpec.upto fnExactRecPhaseOkSpec)

/-- 'laws.FnStuffSplit', WHERE WHAT IT READS IS OF BULK AT MOST 1048576: true; the input reads as it did. -/
def fnStuffSplitUptoRow : OpenClaim := { program := "ytccbknhhgnefmaa", sum := "81233ec53451313d36e0b0a416142e64b4834cccd5746cfe51bf433e30d645e5", func := "loop.example/malthouse/laws.FnStuffSplit", spec := "fnStuffSplit", apart := false, narrowed := true }
def FnStuffSplitUptoSaid : Prop := fnStuffSplitUptoRow.holds Try.pinned (OpenSpec.upto fnStuffSplitSpec)

/-- 'laws.FnExactPlantJoined', WHERE WHAT IT READS IS OF BULK AT MOST 1048576: true; the input reads as it did. -/
def fnExactPlantJoinedUptoRow : OpenClaim := { program := "ytccbknhhgnefmaa", sum := "81233ec53451313d36e0b0a416142e64b4834cccd5746cfe51bf433e30d645e5", func := "loop.example/malthouse/laws.FnExactPlantJoined", spec := "fnExactPlantJoined", unfollowed := true, recurses := true, apart := false, narrowed := true }
def FnExactPlantJoinedUptoSaid : Prop := fnExactPlantJoinedUptoRow.holds Try.pinned (OpenSpec.upto fnExactPlantJoinedSpec)

/-- 'laws.FnRecPhase', WHERE WHAT IT READS IS OF BULK AT MOST 1048576: true; the input reads as it did. -/
def fnRecPhaseUptoRow : OpenClaim := { program := "ytccbknhhgnefmaa", sum := "81233ec53451313d36e0b0a416142e64b4834cccd5746cfe51bf433e30d645e5", func := "loop.example/malthouse/laws.FnRecPhase", spec := "fnRecPhase", apart := false, narrowed := true }
def FnRecPhaseUptoSaid : Prop := fnRecPhaseUptoRow.holds Try.pinned (OpenSpec.upto fnRecPhaseSpec)

/-- 'laws.FnExactRecOk', WHERE WHAT IT READS IS OF BULK AT MOST 1048576: true; the input reads as it did. -/
def fnExactRecOkUptoRow : OpenClaim := { program := "ytccbknhhgnefmaa", sum := "81233ec53451313d36e0b0a416142e64b4834cccd5746cfe51bf433e30d645e5", func := "loop.example/malthouse/laws.FnExactRecOk", spec := "fnExactRecOk", apart := false, narrowed := true }
def FnExactRecOkUptoSaid : Prop := fnExactRecOkUptoRow.holds Try.pinned (OpenSpec.upto fnExactRecOkSpec)

/-- 'laws.FnExactRecBound', WHERE WHAT IT READS IS OF BULK AT MOST 1048576: true; the input reads as it did. -/
def fnExactRecBoundUptoRow : OpenClaim := { program := "ytccbknhhgnefmaa", sum := "81233ec53451313d36e0b0a416142e64b4834cccd5746cfe51bf433e30d645e5", func := "loop.example/malthouse/laws.FnExactRecBound", spec := "fnExactRecBound", recurses := true, apart := false, narrowed := true }
def FnExactRecBoundUptoSaid : Prop := fnExactRecBoundUptoRow.holds Try.pinned (OpenSpec.upto fnExactRecBoundSpec)

/-- 'laws.FnExactClaimWantOk', WHERE WHAT IT READS IS OF BULK AT MOST 1048576: true; the input reads as it did. -/
def fnExactClaimWantOkUptoRow : OpenClaim := { program := "ytccbknhhgnefmaa", sum := "81233ec53451313d36e0b0a416142e64b4834cccd5746cfe51bf433e30d645e5", func := "loop.example/malthouse/laws.FnExactClaimWantOk", spec := "fnExactClaimWantOk", apart := false, narrowed := true }
def FnExactClaimWantOkUptoSaid : Prop := fnExactClaimWantOkUptoRow.holds Try.pinned (OpenSpec.upto fnExactClaimWantOkSpec)

/-- 'laws.FnExactRecBegin', WHERE WHAT IT READS IS OF BULK AT MOST 1048576: true; the input reads as it did. -/
def fnExactRecBeginUptoRow : OpenClaim := { program := "ytccbknhhgnefmaa", sum := "81233ec53451313d36e0b0a416142e64b4834cccd5746cfe51bf433e30d645e5", func := "loop.example/malthouse/laws.FnExactRecBegin", spec := "fnExactRecBegin", recurses := true, apart := false, narrowed := true }
def FnExactRecBeginUptoSaid : Prop := fnExactRecBeginUptoRow.holds Try.pinned (OpenSpec.upto fnExactRecBeginSpec)

end Rows
end Go.Proofs.Ytccbknhhgnefmaa
