/-
  No cell of these rows narrows 'for every input' (looked for: loops, veiled, ifaces, maps, wideKeys, modest, calm, conditions, laid).
  DERIVED. THE GIVEN ROWS OF THIS SEAT. 11 by the template 'for every input the law returns true; each argument reads behind the call as it read before'; 0 by the template 'total and deterministic' (their statements: YtodeegjblililaaTotals.lean).
  GIVEN WITH THE SEED: the statements are not yours to turn. If you find one false, say at which input.
  Laid BY PROGRAM, IN A SANDBOX (cutbox-rows.mjs): the forced cells as the released guide's own fill.sh prints them over the translation f1616b33895beb2d… (all of the seat's roots in one cut). By AI agents, Wed Nov 11 2026. No macro, syntax, notation, axiom, sorry.
-/
import Derived.Test.YtodeegjblililaaChecked
import GoSem.Claim
import GoSem.ClaimJoined
import GoSem.ClaimMapViews
import Derived.JoinedTies
import Derived.KernelRfl
namespace Go.Proofs.Ytodeegjblililaa
/- THE CELL 'sum', in the pinned program and in every row, IS THE sha256 OF THE DUMP (.gsa) THAT YtodeegjblililaaProg.lean LOADS. Nothing in Lean hashes anything: it is a label: what it is worth is what the hold of that sum in a sandbox is worth. -/
noncomputable def Try.pinned : Pinned := { name := "ytodeegjblililaa", sum := "f1616b33895beb2da693aa20c7329f41022576ec0a1995b5d5a140d7bdbbcbb8", checked := Try.checked }
namespace Rows
def none {H : Type} : Left H := { results := [], args := [] }

/-- 'laws.FnExactRecSlots': WHATEVER THE INPUT: true; the input reads as it did. -/
def fnExactRecSlotsSpec : ChangeSpec := { name := "fnExactRecSlots", fn := fun _ => fun
  | [d1, d2] => { results := [.lit (.bool true)], args := [d1, d2] }
  | _ => none }
def fnExactRecSlotsRow : OpenClaim := { program := "ytodeegjblililaa", sum := "f1616b33895beb2da693aa20c7329f41022576ec0a1995b5d5a140d7bdbbcbb8", func := "loop.example/malthouse/laws.FnExactRecSlots", spec := "fnExactRecSlots", recurses := true, apart := false }
def FnExactRecSlotsSaid : Prop := fnExactRecSlotsRow.holds Try.pinned (OpenSpec.ofChange fnExactRecSlotsSpec)

/-- ITS FALSE NEIGHBOUR: 'it returns false'. Refute it at one input. -/
def fnExactRecSlotsWrong : ChangeSpec := { name := "fnExactRecSlots", fn := fun _ => fun
  | [d1, d2] => { results := [.lit (.bool false)], args := [d1, d2] }
  | _ => none }
def FnExactRecSlotsWrongFalsely : Prop := fnExactRecSlotsRow.holds Try.pinned (OpenSpec.ofChange fnExactRecSlotsWrong)

/-- 'laws.FnExactPlantGroup': WHATEVER THE INPUT: true; the input reads as it did. -/
def fnExactPlantGroupSpec : ChangeSpec := { name := "fnExactPlantGroup", fn := fun _ => fun
  | [d1, d2, d3] => { results := [.lit (.bool true)], args := [d1, d2, d3] }
  | _ => none }
def fnExactPlantGroupRow : OpenClaim := { program := "ytodeegjblililaa", sum := "f1616b33895beb2da693aa20c7329f41022576ec0a1995b5d5a140d7bdbbcbb8", func := "loop.example/malthouse/laws.FnExactPlantGroup", spec := "fnExactPlantGroup", recurses := true, apart := false }
def FnExactPlantGroupSaid : Prop := fnExactPlantGroupRow.holds Try.pinned (OpenSpec.ofChange fnExactPlantGroupSpec)

/-- ITS FALSE NEIGHBOUR: 'it returns false'. Refute it at one input. -/
def fnExactPlantGroupWrong : ChangeSpec := { name := "fnExactPlantGroup", fn := fun _ => fun
  | [d1, d2, d3] => { results := [.lit (.bool false)], args := [d1, d2, d3] }
  | _ => none }
def FnExactPlantGroupWrongFalsely : Prop := fnExactPlantGroupRow.holds Try.pinned (OpenSpec.ofChange fnExactPlantGroupWrong)

/-- 'laws.FnExactPlantGroups': WHATEVER THE INPUT: true; the input reads as it did. -/
def fnExactPlantGroupsSpec : ChangeSpec := { name := "fnExactPlantGroups", fn := fun _ => fun
  | [d1, d2] => { results := [.lit (.bool true)], args := [d1, d2] }
  | _ => none }
def fnExactPlantGroupsRow : OpenClaim := { program := "ytodeegjblililaa", sum := "f1616b33895beb2da693aa20c7329f41022576ec0a1995b5d5a140d7bdbbcbb8", func := "loop.example/malthouse/laws.FnExactPlantGroups", spec := "fnExactPlantGroups", recurses := true, apart := false }
def FnExactPlantGroupsSaid : Prop := fnExactPlantGroupsRow.holds Try.pinned (OpenSpec.ofChange fnExactPlantGroupsSpec)

/-- ITS FALSE NEIGHBOUR: 'it returns false'. Refute it at one input. -/
def fnExactPlantGroupsWrong : ChangeSpec := { name := "fnExactPlantGroups", fn := fun _ => fun
  | [d1, d2] => { results := [.lit (.bool false)], args := [d1, d2] }
  | _ => none }
def FnExactPlantGroupsWrongFalsely : Prop := fnExactPlantGroupsRow.holds Try.pinned (OpenSpec.ofChange fnExactPlantGroupsWrong)

/-- 'laws.FnExactPlantAlone': WHATEVER THE INPUT: true; the input reads as it did. -/
def fnExactPlantAloneSpec : ChangeSpec := { name := "fnExactPlantAlone", fn := fun _ => fun
  | [d1, d2, d3] => { results := [.lit (.bool true)], args := [d1, d2, d3] }
  | _ => none }
def fnExactPlantAloneRow : OpenClaim := { program := "ytodeegjblililaa", sum := "f1616b33895beb2da693aa20c7329f41022576ec0a1995b5d5a140d7bdbbcbb8", func := "loop.example/malthouse/laws.FnExactPlantAlone", spec := "fnExactPlantAlone", recurses := true, apart := false }
def FnExactPlantAloneSaid : Prop := fnExactPlantAloneRow.holds Try.pinned (OpenSpec.ofChange fnExactPlantAloneSpec)

/-- ITS FALSE NEIGHBOUR: 'it returns false'. Refute it at one input. -/
def fnExactPlantAloneWrong : ChangeSpec := { name := "fnExactPlantAlone", fn := fun _ => fun
  | [d1, d2, d3] => { results := [.lit (.bool false)], args := [d1, d2, d3] }
  | _ => none }
def FnExactPlantAloneWrongFalsely : Prop := fnExactPlantAloneRow.holds Try.pinned (OpenSpec.ofChange fnExactPlantAloneWrong)

/-- 'laws.FnExactPlantIndexOf': WHATEVER THE INPUT: true; the input reads as it did. -/
def fnExactPlantIndexOfSpec : ChangeSpec := { name := "fnExactPlantIndexOf", fn := fun _ => fun
  | [d1, d2] => { results := [.lit (.bool true)], args := [d1, d2] }
  | _ => none }
def fnExactPlantIndexOfRow : OpenClaim := { program := "ytodeegjblililaa", sum := "f1616b33895beb2da693aa20c7329f41022576ec0a1995b5d5a140d7bdbbcbb8", func := "loop.example/malthouse/laws.FnExactPlantIndexOf", spec := "fnExactPlantIndexOf", recurses := true, apart := false }
def FnExactPlantIndexOfSaid : Prop := fnExactPlantIndexOfRow.holds Try.pinned (OpenSpec.ofChange fnExactPlantIndexOfSpec)

/-- ITS FALSE NEIGHBOUR: 'it returns false'. Refute it at one input. -/
def fnExactPlantIndexOfWrong : ChangeSpec := { name := "fnExactPlantIndexOf", fn := fun _ => fun
  | [d1, d2] => { results := [.lit (.bool false)], args := [d1, d2] }
  | _ => none }
def FnExactPlantIndexOfWrongFalsely : Prop := fnExactPlantIndexOfRow.holds Try.pinned (OpenSpec.ofChange fnExactPlantIndexOfWrong)

/-- 'laws.FnExactPlantTurn': WHATEVER THE INPUT: true; the input reads as it did. -/
def fnExactPlantTurnSpec : ChangeSpec := { name := "fnExactPlantTurn", fn := fun _ => fun
  | [d1, d2, d3, d4] => { results := [.lit (.bool true)], args := [d1, d2, d3, d4] }
  | _ => none }
def fnExactPlantTurnRow : OpenClaim := { program := "ytodeegjblililaa", sum := "f1616b33895beb2da693aa20c7329f41022576ec0a1995b5d5a140d7bdbbcbb8", func := "loop.example/malthouse/laws.FnExactPlantTurn", spec := "fnExactPlantTurn", recurses := true, apart := false }
def FnExactPlantTurnSaid : Prop := fnExactPlantTurnRow.holds Try.pinned (OpenSpec.ofChange fnExactPlantTurnSpec)

/-- ITS FALSE NEIGHBOUR: 'it returns false'. Refute it at one input. -/
def fnExactPlantTurnWrong : ChangeSpec := { name := "fnExactPlantTurn", fn := fun _ => fun
  | [d1, d2, d3, d4] => { results := [.lit (.bool false)], args := [d1, d2, d3, d4] }
  | _ => none }
def FnExactPlantTurnWrongFalsely : Prop := fnExactPlantTurnRow.holds Try.pinned (OpenSpec.ofChange fnExactPlantTurnWrong)

/-- 'laws.FnExactPlantJoined': WHATEVER THE INPUT: true; the input reads as it did. -/
def fnExactPlantJoinedSpec : ChangeSpec := { name := "fnExactPlantJoined", fn := fun _ => fun
  | [d1, d2, d3] => { results := [.lit (.bool true)], args := [d1, d2, d3] }
  | _ => none }
def fnExactPlantJoinedRow : OpenClaim := { program := "ytodeegjblililaa", sum := "f1616b33895beb2da693aa20c7329f41022576ec0a1995b5d5a140d7bdbbcbb8", func := "loop.example/malthouse/laws.FnExactPlantJoined", spec := "fnExactPlantJoined", unfollowed := true, recurses := true, apart := false }
def FnExactPlantJoinedSaid : Prop := fnExactPlantJoinedRow.holds Try.pinned (OpenSpec.ofChange fnExactPlantJoinedSpec)

/-- ITS FALSE NEIGHBOUR: 'it returns false'. Refute it at one input. -/
def fnExactPlantJoinedWrong : ChangeSpec := { name := "fnExactPlantJoined", fn := fun _ => fun
  | [d1, d2, d3] => { results := [.lit (.bool false)], args := [d1, d2, d3] }
  | _ => none }
def FnExactPlantJoinedWrongFalsely : Prop := fnExactPlantJoinedRow.holds Try.pinned (OpenSpec.ofChange fnExactPlantJoinedWrong)

/-- 'laws.FnRecGo': WHATEVER THE INPUT: true; the input reads as it did. -/
def fnRecGoSpec : ChangeSpec := { name := "fnRecGo", fn := fun _ => fun
  | [d] => { results := [.lit (.bool true)], args := [d] }
  | _ => none }
def fnRecGoRow : OpenClaim := { program := "ytodeegjblililaa", sum := "f1616b33895beb2da693aa20c7329f41022576ec0a1995b5d5a140d7bdbbcbb8", func := "loop.example/malthouse/laws.FnRecGo", spec := "fnRecGo", recurses := true, apart := false }
def FnRecGoSaid : Prop := fnRecGoRow.holds Try.pinned (OpenSpec.ofChange fnRecGoSpec)

/-- ITS FALSE NEIGHBOUR: 'it returns false'. Refute it at one input. -/
def fnRecGoWrong : ChangeSpec := { name := "fnRecGo", fn := fun _ => fun
  | [d] => { results := [.lit (.bool false)], args := [d] }
  | _ => none }
def FnRecGoWrongFalsely : Prop := fnRecGoRow.holds Try.pinned (OpenSpec.ofChange fnRecGoWrong)

/-- 'laws.FnRecBound': WHATEVER THE INPUT: true; the input reads as it did. -/
def fnRecBoundSpec : ChangeSpec := { name := "fnRecBound", fn := fun _ => fun
  | [d] => { results := [.lit (.bool true)], args := [d] }
  | _ => none }
def fnRecBoundRow : OpenClaim := { program := "ytodeegjblililaa", sum := "f1616b33895beb2da693aa20c7329f41022576ec0a1995b5d5a140d7bdbbcbb8", func := "loop.example/malthouse/laws.FnRecBound", spec := "fnRecBound", recurses := true, apart := false }
def FnRecBoundSaid : Prop := fnRecBoundRow.holds Try.pinned (OpenSpec.ofChange fnRecBoundSpec)

/-- ITS FALSE NEIGHBOUR: 'it returns false'. Refute it at one input. -/
def fnRecBoundWrong : ChangeSpec := { name := "fnRecBound", fn := fun _ => fun
  | [d] => { results := [.lit (.bool false)], args := [d] }
  | _ => none }
def FnRecBoundWrongFalsely : Prop := fnRecBoundRow.holds Try.pinned (OpenSpec.ofChange fnRecBoundWrong)

/-- 'laws.FnPlantGuards': WHATEVER THE INPUT: true; the input reads as it did. -/
def fnPlantGuardsSpec : ChangeSpec := { name := "fnPlantGuards", fn := fun _ => fun
  | [d] => { results := [.lit (.bool true)], args := [d] }
  | _ => none }
def fnPlantGuardsRow : OpenClaim := { program := "ytodeegjblililaa", sum := "f1616b33895beb2da693aa20c7329f41022576ec0a1995b5d5a140d7bdbbcbb8", func := "loop.example/malthouse/laws.FnPlantGuards", spec := "fnPlantGuards", recurses := true, apart := false }
def FnPlantGuardsSaid : Prop := fnPlantGuardsRow.holds Try.pinned (OpenSpec.ofChange fnPlantGuardsSpec)

/-- ITS FALSE NEIGHBOUR: 'it returns false'. Refute it at one input. -/
def fnPlantGuardsWrong : ChangeSpec := { name := "fnPlantGuards", fn := fun _ => fun
  | [d] => { results := [.lit (.bool false)], args := [d] }
  | _ => none }
def FnPlantGuardsWrongFalsely : Prop := fnPlantGuardsRow.holds Try.pinned (OpenSpec.ofChange fnPlantGuardsWrong)

/-- 'laws.FnPlantTop': WHATEVER THE INPUT: true; the input reads as it did. -/
def fnPlantTopSpec : ChangeSpec := { name := "fnPlantTop", fn := fun _ => fun
  | [d] => { results := [.lit (.bool true)], args := [d] }
  | _ => none }
def fnPlantTopRow : OpenClaim := { program := "ytodeegjblililaa", sum := "f1616b33895beb2da693aa20c7329f41022576ec0a1995b5d5a140d7bdbbcbb8", func := "loop.example/malthouse/laws.FnPlantTop", spec := "fnPlantTop", unfollowed := true, recurses := true, apart := false }
def FnPlantTopSaid : Prop := fnPlantTopRow.holds Try.pinned (OpenSpec.ofChange fnPlantTopSpec)

/-- ITS FALSE NEIGHBOUR: 'it returns false'. Refute it at one input. -/
def fnPlantTopWrong : ChangeSpec := { name := "fnPlantTop", fn := fun _ => fun
  | [d] => { results := [.lit (.bool false)], args := [d] }
  | _ => none }
def FnPlantTopWrongFalsely : Prop := fnPlantTopRow.holds Try.pinned (OpenSpec.ofChange fnPlantTopWrong)

/- THE SECOND FORM. 'bulk': how many values and letters a reading holds, each counted each time it is reached (what is shared counts as often as it is met; a slice's spare places count too). A statement '..UptoSaid' is the law's where the arguments, and the package variables that the reading takes, are together of bulk at most 1048576: NARROWER than '..Said'. Prove '..Said' where nothing that the law and all that it calls make is longer than what came in: it says more and counts as full. Else prove '..UptoSaid'. A law counts once. -/
mutual
def uptoBulk {H : Type} : DataW H → Nat
  | .lit (.string bytes) => bytes.length + 1
  | .lit _ => 1
  | .nil => 1
  | .ptr d => uptoBulk d + 1
  | .slice elems spare => uptoBulkAll elems + uptoBulkAll spare + 1
  | .agg parts => uptoBulkAll parts + 1
  | .iface _ d => uptoBulk d + 1
  | .map entries => uptoBulkEntries entries + 1
  | .held _ => 1
def uptoBulkAll {H : Type} : List (DataW H) → Nat
  | [] => 0
  | d :: r => uptoBulk d + uptoBulkAll r
def uptoBulkEntries {H : Type} : List (Lit × DataW H) → Nat
  | [] => 0
  | x :: r => uptoBulkEntry x + uptoBulkEntries r
def uptoBulkEntry {H : Type} : Lit × DataW H → Nat
  | (.string bytes, d) => bytes.length + uptoBulk d + 1
  | (_, d) => uptoBulk d + 1
 end
def uptoSmall : (H : Type) → List (DataW H) → Bool := fun _ ds => decide (uptoBulkAll ds ≤ 1048576)
def OpenSpec.upto (s : _root_.Go.ChangeSpec) : _root_.Go.OpenSpec := { _root_.Go.OpenSpec.ofChange s with cond := some uptoSmall }

/-- 'laws.FnExactRecSlots', WHERE WHAT IT READS IS OF BULK AT MOST 1048576: true; the input reads as it did. -/
def fnExactRecSlotsUptoRow : OpenClaim := { program := "ytodeegjblililaa", sum := "f1616b33895beb2da693aa20c7329f41022576ec0a1995b5d5a140d7bdbbcbb8", func := "loop.example/malthouse/laws.FnExactRecSlots", spec := "fnExactRecSlots", recurses := true, apart := false, narrowed := true }
def FnExactRecSlotsUptoSaid : Prop := fnExactRecSlotsUptoRow.holds Try.pinned (OpenSpec.upto fnExactRecSlotsSpec)

/-- 'laws.FnExactPlantGroup', WHERE WHAT IT READS IS OF BULK AT MOST 1048576: true; the input reads as it did. -/
def fnExactPlantGroupUptoRow : OpenClaim := { program := "ytodeegjblililaa", sum := "f1616b33895beb2da693aa20c7329f41022576ec0a1995b5d5a140d7bdbbcbb8", func := "loop.example/malthouse/laws.FnExactPlantGroup", spec := "fnExactPlantGroup", recurses := true, apart := false, narrowed := true }
def FnExactPlantGroupUptoSaid : Prop := fnExactPlantGroupUptoRow.holds Try.pinned (OpenSpec.upto fnExactPlantGroupSpec)

/-- 'laws.FnExactPlantGroups', WHERE WHAT IT READS IS OF BULK AT MOST 1048576: true; the input reads as it did. -/
def fnExactPlantGroupsUptoRow : OpenClaim := { program := "ytodeegjblililaa", sum := "f1616b33895beb2da693aa20c7329f41022576ec0a1995b5d5a140d7bdbbcbb8", func := "loop.example/malthouse/laws.FnExactPlantGroups", spec := "fnExactPlantGroups", recurses := true, apart := false, narrowed := true }
def FnExactPlantGroupsUptoSaid : Prop := fnExactPlantGroupsUptoRow.holds Try.pinned (OpenSpec.upto fnExactPlantGroupsSpec)

/-- 'laws.FnExactPlantAlone', WHERE WHAT IT READS IS OF BULK AT MOST 1048576: true; the input reads as it did. -/
def fnExactPlantAloneUptoRow : OpenClaim := { program := "ytodeegjblililaa", sum := "f1616b33895beb2da693aa20c7329f41022576ec0a1995b5d5a140d7bdbbcbb8", func := "loop.example/malthouse/laws.FnExactPlantAlone", spec := "fnExactPlantAlone", recurses := true, apart := false, narrowed := true }
def FnExactPlantAloneUptoSaid : Prop := fnExactPlantAloneUptoRow.holds Try.pinned (OpenSpec.upto fnExactPlantAloneSpec)

/-- 'laws.FnExactPlantIndexOf', WHERE WHAT IT READS IS OF BULK AT MOST 1048576: true; the input reads as it did. -/
def fnExactPlantIndexOfUptoRow : OpenClaim := { program := "ytodeegjblililaa", sum := "f1616b33895beb2da693aa20c7329f41022576ec0a1995b5d5a140d7bdbbcbb8", func := "loop.example/malthouse/laws.FnExactPlantIndexOf", spec := "fnExactPlantIndexOf", recurses := true, apart := false, narrowed := true }
def FnExactPlantIndexOfUptoSaid : Prop := fnExactPlantIndexOfUptoRow.holds Try.pinned (OpenSpec.upto fnExactPlantIndexOfSpec)

/-- 'laws.FnExactPlantTurn', WHERE WHAT IT READS IS OF BULK AT MOST 1048576: true; the input reads as it did. -/
def fnExactPlantTurnUptoRow : OpenClaim := { program := "ytodeegjblililaa", sum := "f1616b33895beb2da693aa20c7329f41022576ec0a1995b5d5a140d7bdbbcbb8", func := "loop.example/malthouse/laws.FnExactPlantTurn", spec := "fnExactPlantTurn", recurses := true, apart := false, narrowed := true }
def FnExactPlantTurnUptoSaid : Prop := fnExactPlantTurnUptoRow.holds Try.pinned (OpenSpec.upto fnExactPlantTurnSpec)

/-- 'laws.FnExactPlantJoined', WHERE WHAT IT READS IS OF BULK AT MOST 1048576: true; the input reads as it did. -/
def fnExactPlantJoinedUptoRow : OpenClaim := { program := "ytodeegjblililaa", sum := "f1616b33895beb2da693aa20c7329f41022576ec0a1995b5d5a140d7bdbbcbb8", func := "loop.example/malthouse/laws.FnExactPlantJoined", spec := "fnExactPlantJoined", unfollowed := true, recurses := true, apart := false, narrowed := true }
def FnExactPlantJoinedUptoSaid : Prop := fnExactPlantJoinedUptoRow.holds Try.pinned (OpenSpec.upto fnExactPlantJoinedSpec)

/-- 'laws.FnRecGo', WHERE WHAT IT READS IS OF BULK AT MOST 1048576: true; the input reads as it did. -/
def fnRecGoUptoRow : OpenClaim := { program := "ytodeegjblililaa", sum := "f1616b33895beb2da693aa20c7329f41022576ec0a1995b5d5a140d7bdbbcbb8", func := "loop.example/malthouse/laws.FnRecGo", spec := "fnRecGo", recurses := true, apart := false, narrowed := true }
def FnRecGoUptoSaid : Prop := fnRecGoUptoRow.holds Try.pinned (OpenSpec.upto fnRecGoSpec)

/-- 'laws.FnRecBound', WHERE WHAT IT READS IS OF BULK AT MOST 1048576: true; the input reads as it did. -/
def fnRecBoundUptoRow : OpenClaim := { program := "ytodeegjblililaa", sum := "f1616b33895beb2da693aa20c7329f41022576ec0a1995b5d5a140d7bdbbcbb8", func := "loop.example/malthouse/laws.FnRecBound", spec := "fnRecBound", recurses := true, apart := false, narrowed := true }
def FnRecBoundUptoSaid : Prop := fnRecBoundUptoRow.holds Try.pinned (OpenSpec.upto fnRecBoundSpec)

/-- 'laws.FnPlantGuards', WHERE WHAT IT READS IS OF BULK AT MOST 1048576: true; the input reads as it did. -/
def fnPlantGuardsUptoRow : OpenClaim := { program := "ytodeegjblililaa", sum := "f1616b33895beb2da693aa20c7329f41022576ec0a1995b5d5a140d7bdbbcbb8", func := "loop.example/malthouse/laws.FnPlantGuards", spec := "fnPlantGuards", recurses := true, apart := false, narrowed := true }
def FnPlantGuardsUptoSaid : Prop := fnPlantGuardsUptoRow.holds Try.pinned (OpenSpec.upto fnPlantGuardsSpec)

/-- 'laws.FnPlantTop', WHERE WHAT IT READS IS OF BULK AT MOST 1048576: true; the input reads as it did. -/
def fnPlantTopUptoRow : OpenClaim := { program := "ytodeegjblililaa", sum := "f1616b33895beb2da693aa20c7329f41022576ec0a1995b5d5a140d7bdbbcbb8", func := "loop.example/malthouse/laws.FnPlantTop", spec := "fnPlantTop", unfollowed := true, recurses := true, apart := false, narrowed := true }
def FnPlantTopUptoSaid : Prop := fnPlantTopUptoRow.holds Try.pinned (OpenSpec.upto fnPlantTopSpec)

end Rows
end Go.Proofs.Ytodeegjblililaa
