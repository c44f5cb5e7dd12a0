/-
  No cell of these rows narrows 'for every input' (looked for: loops, veiled, ifaces, maps, wideKeys, modest, calm, conditions, laid).
  DERIVED. THE GIVEN ROWS OF THIS SEAT. 4 by the template 'for every input the law returns true; each argument reads behind the call as it read before'; 0 by the template 'total and deterministic' (their statements: YtpihcdbkdldbcaaTotals.lean).
  GIVEN WITH THE SEED: the statements are not yours to turn. If you find one false, say at which input.
  Laid BY PROGRAM, IN A SANDBOX (cutbox-rows.mjs): the forced cells as the released guide's own fill.sh prints them over the translation bd44cb95176615d5… (all of the seat's roots in one cut). By AI agents, Wed Nov 11 2026. No macro, syntax, notation, axiom, sorry.
-/
import Derived.Test.YtpihcdbkdldbcaaChecked
import GoSem.Claim
import GoSem.ClaimJoined
import GoSem.ClaimMapViews
import Derived.JoinedTies
import Derived.KernelRfl
namespace Go.Proofs.Ytpihcdbkdldbcaa
/- THE CELL 'sum', in the pinned program and in every row, IS THE sha256 OF THE DUMP (.gsa) THAT YtpihcdbkdldbcaaProg.lean LOADS. Nothing in Lean hashes anything: it is a label: what it is worth is what the hold of that sum in a sandbox is worth. -/
noncomputable def Try.pinned : Pinned := { name := "ytpihcdbkdldbcaa", sum := "bd44cb95176615d54c9e13b3f63d84db35fa39ed8caa1e6291e2276490dd4ece", checked := Try.checked }
namespace Rows
def none {H : Type} : Left H := { results := [], args := [] }

/-- 'laws.FnExactRecGo': WHATEVER THE INPUT: true; the input reads as it did. -/
def fnExactRecGoSpec : ChangeSpec := { name := "fnExactRecGo", fn := fun _ => fun
  | [d1, d2, d3] => { results := [.lit (.bool true)], args := [d1, d2, d3] }
  | _ => none }
def fnExactRecGoRow : OpenClaim := { program := "ytpihcdbkdldbcaa", sum := "bd44cb95176615d54c9e13b3f63d84db35fa39ed8caa1e6291e2276490dd4ece", func := "loop.example/malthouse/laws.FnExactRecGo", spec := "fnExactRecGo", recurses := true, apart := false }
def FnExactRecGoSaid : Prop := fnExactRecGoRow.holds Try.pinned (OpenSpec.ofChange fnExactRecGoSpec)

/-- ITS FALSE NEIGHBOUR: 'it returns false'. Refute it at one input. -/
def fnExactRecGoWrong : ChangeSpec := { name := "fnExactRecGo", fn := fun _ => fun
  | [d1, d2, d3] => { results := [.lit (.bool false)], args := [d1, d2, d3] }
  | _ => none }
def FnExactRecGoWrongFalsely : Prop := fnExactRecGoRow.holds Try.pinned (OpenSpec.ofChange fnExactRecGoWrong)

/-- 'laws.FnRecGo': WHATEVER THE INPUT: true; the input reads as it did. -/
def fnRecGoSpec : ChangeSpec := { name := "fnRecGo", fn := fun _ => fun
  | [d] => { results := [.lit (.bool true)], args := [d] }
  | _ => none }
def fnRecGoRow : OpenClaim := { program := "ytpihcdbkdldbcaa", sum := "bd44cb95176615d54c9e13b3f63d84db35fa39ed8caa1e6291e2276490dd4ece", func := "loop.example/malthouse/laws.FnRecGo", spec := "fnRecGo", recurses := true, apart := false }
def FnRecGoSaid : Prop := fnRecGoRow.holds Try.pinned (OpenSpec.ofChange fnRecGoSpec)

/-- ITS FALSE NEIGHBOUR: 'it returns false'. Refute it at one input. -/
def fnRecGoWrong : ChangeSpec := { name := "fnRecGo", fn := fun _ => fun
  | [d] => { results := [.lit (.bool false)], args := [d] }
  | _ => none }
def FnRecGoWrongFalsely : Prop := fnRecGoRow.holds Try.pinned (OpenSpec.ofChange fnRecGoWrong)

/-- 'laws.FnExactRecSlots': WHATEVER THE INPUT: true; the input reads as it did. -/
def fnExactRecSlotsSpec : ChangeSpec := { name := "fnExactRecSlots", fn := fun _ => fun
  | [d1, d2] => { results := [.lit (.bool true)], args := [d1, d2] }
  | _ => none }
def fnExactRecSlotsRow : OpenClaim := { program := "ytpihcdbkdldbcaa", sum := "bd44cb95176615d54c9e13b3f63d84db35fa39ed8caa1e6291e2276490dd4ece", func := "loop.example/malthouse/laws.FnExactRecSlots", spec := "fnExactRecSlots", recurses := true, apart := false }
def FnExactRecSlotsSaid : Prop := fnExactRecSlotsRow.holds Try.pinned (OpenSpec.ofChange fnExactRecSlotsSpec)

/-- ITS FALSE NEIGHBOUR: 'it returns false'. Refute it at one input. -/
def fnExactRecSlotsWrong : ChangeSpec := { name := "fnExactRecSlots", fn := fun _ => fun
  | [d1, d2] => { results := [.lit (.bool false)], args := [d1, d2] }
  | _ => none }
def FnExactRecSlotsWrongFalsely : Prop := fnExactRecSlotsRow.holds Try.pinned (OpenSpec.ofChange fnExactRecSlotsWrong)

/-- 'laws.FnRecBound': WHATEVER THE INPUT: true; the input reads as it did. -/
def fnRecBoundSpec : ChangeSpec := { name := "fnRecBound", fn := fun _ => fun
  | [d] => { results := [.lit (.bool true)], args := [d] }
  | _ => none }
def fnRecBoundRow : OpenClaim := { program := "ytpihcdbkdldbcaa", sum := "bd44cb95176615d54c9e13b3f63d84db35fa39ed8caa1e6291e2276490dd4ece", func := "loop.example/malthouse/laws.FnRecBound", spec := "fnRecBound", recurses := true, apart := false }
def FnRecBoundSaid : Prop := fnRecBoundRow.holds Try.pinned (OpenSpec.ofChange fnRecBoundSpec)

/-- ITS FALSE NEIGHBOUR: 'it returns false'. Refute it at one input. -/
def fnRecBoundWrong : ChangeSpec := { name := "fnRecBound", fn := fun _ => fun
  | [d] => { results := [.lit (.bool false)], args := [d] }
  | _ => none }
def FnRecBoundWrongFalsely : Prop := fnRecBoundRow.holds Try.pinned (OpenSpec.ofChange fnRecBoundWrong)

/- THE SECOND FORM. 'bulk': how many values and letters a reading holds, each counted each time it is reached (what is shared counts as often as it is met; a slice's spare places count too). A statement '..UptoSaid' is the law's where the arguments, and the package variables that the reading takes, are together of bulk at most 1048576: NARROWER than '..Said'. Prove '..Said' where nothing that the law and all that it calls make is longer than what came in: it says more and counts as full. Else prove '..UptoSaid'. A law counts once. -/
mutual
def uptoBulk {H : Type} : DataW H → Nat
  | .lit (.string bytes) => bytes.length + 1
  | .lit _ => 1
  | .nil => 1
  | .ptr d => uptoBulk d + 1
  | .slice elems spare => uptoBulkAll elems + uptoBulkAll spare + 1
  | .agg parts => uptoBulkAll parts + 1
  | .iface _ d => uptoBulk d + 1
  | .map entries => uptoBulkEntries entries + 1
  | .held _ => 1
def uptoBulkAll {H : Type} : List (DataW H) → Nat
  | [] => 0
  | d :: r => uptoBulk d + uptoBulkAll r
def uptoBulkEntries {H : Type} : List (Lit × DataW H) → Nat
  | [] => 0
  | x :: r => uptoBulkEntry x + uptoBulkEntries r
def uptoBulkEntry {H : Type} : Lit × DataW H → Nat
  | (.string bytes, d) => bytes.length + uptoBulk d + 1
  | (_, d) => uptoBulk d + 1
 end
def uptoSmall : (H : Type) → List (DataW H) → Bool := fun _ ds => decide (uptoBulkAll ds ≤ 1048576)
def OpenSpec.upto (s : _root_.Go.ChangeSpec) : _root_.Go.OpenSpec := { _root_.Go.OpenSpec.ofChange s with cond := some uptoSmall }

/-- 'laws.FnExactRecGo', WHERE WHAT IT READS IS OF BULK AT MOST 1048576: true; the input reads as it did. -/
def fnExactRecGoUptoRow : OpenClaim := { program := "ytpihcdbkdldbcaa", sum := "bd44cb95176615d54c9e13b3f63d84db35fa39ed8caa1e6291e2276490dd4ece", func := "loop.example/malthouse/laws.FnExactRecGo", spec := "fnExactRecGo", recurses := true, apart := false, narrowed := true }
def FnExactRecGoUptoSaid : Prop := fnExactRecGoUptoRow.holds Try.pinned (OpenSpec.upto fnExactRecGoSpec)

/-- 'laws.FnRecGo', WHERE WHAT IT READS IS OF BULK AT MOST 1048576: true; the input reads as it did. -/
def fnRecGoUptoRow : OpenClaim := { program := "ytpihcdbkdldbcaa", sum := "bd44cb95176615d54c9e13b3f63d84db35fa39ed8caa1e6291e2276490dd4ece", func := "loop.example/malthouse/laws.FnRecGo", spec := "fnRecGo", recurses := true, apart := false, narrowed := true }
def FnRecGoUptoSaid : Prop := fnRecGoUptoRow.holds Try.pinned (OpenSpec.upto fnRecGoSpec)

/-- 'laws.FnExactRecSlots', WHERE WHAT IT READS IS OF BULK AT MOST 1048576: true; the input reads as it did. -/
def fnExactRecSlotsUptoRow : OpenClaim := { program := "ytpihcdbkdldbcaa", sum := "bd44cb95176615d54c9e13b3f63d84db35fa39ed8caa1e6291e2276490dd4ece", func := "loop.example/malthouse/laws.FnExactRecSlots", spec := "fnExactRecSlots", recurses := true, apart := false, narrowed := true }
def FnExactRecSlotsUptoSaid : Prop := fnExactRecSlotsUptoRow.holds Try.pinned (OpenSpec.upto fnExactRecSlotsSpec)

/-- 'laws.FnRecBound', WHERE WHAT IT READS IS OF BULK AT MOST 1048576: true; the input reads as it did. -/
def fnRecBoundUptoRow : OpenClaim := { program := "ytpihcdbkdldbcaa", sum := "bd44cb95176615d54c9e13b3f63d84db35fa39ed8caa1e6291e2276490dd4ece", func := "loop.example/malthouse/laws.FnRecBound", spec := "fnRecBound", recurses := true, apart := false, narrowed := true }
def FnRecBoundUptoSaid : Prop := fnRecBoundUptoRow.holds Try.pinned (OpenSpec.upto fnRecBoundSpec)

end Rows
end Go.Proofs.Ytpihcdbkdldbcaa
