/-
  No cell of these rows narrows 'for every input' (looked for: loops, veiled, ifaces, maps, wideKeys, modest, calm, conditions, laid).
  DERIVED. THE GIVEN ROWS OF THIS SEAT. 10 by the template 'for every input the law returns true; each argument reads behind the call as it read before'; 0 by the template 'total and deterministic' (their statements: YtamkmmkchdnkmaaTotals.lean).
  GIVEN WITH THE SEED: the statements are not yours to turn. If you find one false, say at which input.
  Laid BY PROGRAM, IN A SANDBOX (cutbox-rows.mjs): the forced cells as the released guide's own fill.sh prints them over the translation 3f14b33eb6dca5b1… (all of the seat's roots in one cut). By AI agents, Wed Nov 11 2026. No macro, syntax, notation, axiom, sorry.
-/
import Derived.Test.YtamkmmkchdnkmaaChecked
import GoSem.Claim
import GoSem.ClaimJoined
import GoSem.ClaimMapViews
import Derived.JoinedTies
import Derived.KernelRfl
namespace Go.Proofs.Ytamkmmkchdnkmaa
/- THE CELL 'sum', in the pinned program and in every row, IS THE sha256 OF THE DUMP (.gsa) THAT YtamkmmkchdnkmaaProg.lean LOADS. Nothing in Lean hashes anything: it is a label: what it is worth is what the hold of that sum in a sandbox is worth. -/
noncomputable def Try.pinned : Pinned := { name := "ytamkmmkchdnkmaa", sum := "3f14b33eb6dca5b1cf292785254bf1f7daf974a4491d94d690e7de27a65b9f0b", checked := Try.checked }
namespace Rows
def none {H : Type} : Left H := { results := [], args := [] }

/-- 'laws.FnExactStuffBookOk': WHATEVER THE INPUT: true; the input reads as it did. -/
def fnExactStuffBookOkSpec : ChangeSpec := { name := "fnExactStuffBookOk", fn := fun _ => fun
  | [d] => { results := [.lit (.bool true)], args := [d] }
  | _ => none }
def fnExactStuffBookOkRow : OpenClaim := { program := "ytamkmmkchdnkmaa", sum := "3f14b33eb6dca5b1cf292785254bf1f7daf974a4491d94d690e7de27a65b9f0b", func := "loop.example/malthouse/laws.FnExactStuffBookOk", spec := "fnExactStuffBookOk", recurses := true, apart := false }
def FnExactStuffBookOkSaid : Prop := fnExactStuffBookOkRow.holds Try.pinned (OpenSpec.ofChange fnExactStuffBookOkSpec)

/-- ITS FALSE NEIGHBOUR: 'it returns false'. Refute it at one input. -/
def fnExactStuffBookOkWrong : ChangeSpec := { name := "fnExactStuffBookOk", fn := fun _ => fun
  | [d] => { results := [.lit (.bool false)], args := [d] }
  | _ => none }
def FnExactStuffBookOkWrongFalsely : Prop := fnExactStuffBookOkRow.holds Try.pinned (OpenSpec.ofChange fnExactStuffBookOkWrong)

/-- 'laws.FnExactStuffMeets': WHATEVER THE INPUT: true; the input reads as it did. -/
def fnExactStuffMeetsSpec : ChangeSpec := { name := "fnExactStuffMeets", fn := fun _ => fun
  | [d1, d2, d3] => { results := [.lit (.bool true)], args := [d1, d2, d3] }
  | _ => none }
def fnExactStuffMeetsRow : OpenClaim := { program := "ytamkmmkchdnkmaa", sum := "3f14b33eb6dca5b1cf292785254bf1f7daf974a4491d94d690e7de27a65b9f0b", func := "loop.example/malthouse/laws.FnExactStuffMeets", spec := "fnExactStuffMeets", recurses := true, apart := false }
def FnExactStuffMeetsSaid : Prop := fnExactStuffMeetsRow.holds Try.pinned (OpenSpec.ofChange fnExactStuffMeetsSpec)

/-- ITS FALSE NEIGHBOUR: 'it returns false'. Refute it at one input. -/
def fnExactStuffMeetsWrong : ChangeSpec := { name := "fnExactStuffMeets", fn := fun _ => fun
  | [d1, d2, d3] => { results := [.lit (.bool false)], args := [d1, d2, d3] }
  | _ => none }
def FnExactStuffMeetsWrongFalsely : Prop := fnExactStuffMeetsRow.holds Try.pinned (OpenSpec.ofChange fnExactStuffMeetsWrong)

/-- 'laws.FnExactStuffAmount': WHATEVER THE INPUT: true; the input reads as it did. -/
def fnExactStuffAmountSpec : ChangeSpec := { name := "fnExactStuffAmount", fn := fun _ => fun
  | [d1, d2] => { results := [.lit (.bool true)], args := [d1, d2] }
  | _ => none }
def fnExactStuffAmountRow : OpenClaim := { program := "ytamkmmkchdnkmaa", sum := "3f14b33eb6dca5b1cf292785254bf1f7daf974a4491d94d690e7de27a65b9f0b", func := "loop.example/malthouse/laws.FnExactStuffAmount", spec := "fnExactStuffAmount", recurses := true, apart := false }
def FnExactStuffAmountSaid : Prop := fnExactStuffAmountRow.holds Try.pinned (OpenSpec.ofChange fnExactStuffAmountSpec)

/-- ITS FALSE NEIGHBOUR: 'it returns false'. Refute it at one input. -/
def fnExactStuffAmountWrong : ChangeSpec := { name := "fnExactStuffAmount", fn := fun _ => fun
  | [d1, d2] => { results := [.lit (.bool false)], args := [d1, d2] }
  | _ => none }
def FnExactStuffAmountWrongFalsely : Prop := fnExactStuffAmountRow.holds Try.pinned (OpenSpec.ofChange fnExactStuffAmountWrong)

/-- 'laws.FnExactStuffRecall': WHATEVER THE INPUT: true; the input reads as it did. -/
def fnExactStuffRecallSpec : ChangeSpec := { name := "fnExactStuffRecall", fn := fun _ => fun
  | [d1, d2] => { results := [.lit (.bool true)], args := [d1, d2] }
  | _ => none }
def fnExactStuffRecallRow : OpenClaim := { program := "ytamkmmkchdnkmaa", sum := "3f14b33eb6dca5b1cf292785254bf1f7daf974a4491d94d690e7de27a65b9f0b", func := "loop.example/malthouse/laws.FnExactStuffRecall", spec := "fnExactStuffRecall", recurses := true, apart := false }
def FnExactStuffRecallSaid : Prop := fnExactStuffRecallRow.holds Try.pinned (OpenSpec.ofChange fnExactStuffRecallSpec)

/-- ITS FALSE NEIGHBOUR: 'it returns false'. Refute it at one input. -/
def fnExactStuffRecallWrong : ChangeSpec := { name := "fnExactStuffRecall", fn := fun _ => fun
  | [d1, d2] => { results := [.lit (.bool false)], args := [d1, d2] }
  | _ => none }
def FnExactStuffRecallWrongFalsely : Prop := fnExactStuffRecallRow.holds Try.pinned (OpenSpec.ofChange fnExactStuffRecallWrong)

/-- 'laws.FnExactClaimBookOk': WHATEVER THE INPUT: true; the input reads as it did. -/
def fnExactClaimBookOkSpec : ChangeSpec := { name := "fnExactClaimBookOk", fn := fun _ => fun
  | [d] => { results := [.lit (.bool true)], args := [d] }
  | _ => none }
def fnExactClaimBookOkRow : OpenClaim := { program := "ytamkmmkchdnkmaa", sum := "3f14b33eb6dca5b1cf292785254bf1f7daf974a4491d94d690e7de27a65b9f0b", func := "loop.example/malthouse/laws.FnExactClaimBookOk", spec := "fnExactClaimBookOk", unfollowed := true, recurses := true, apart := false }
def FnExactClaimBookOkSaid : Prop := fnExactClaimBookOkRow.holds Try.pinned (OpenSpec.ofChange fnExactClaimBookOkSpec)

/-- ITS FALSE NEIGHBOUR: 'it returns false'. Refute it at one input. -/
def fnExactClaimBookOkWrong : ChangeSpec := { name := "fnExactClaimBookOk", fn := fun _ => fun
  | [d] => { results := [.lit (.bool false)], args := [d] }
  | _ => none }
def FnExactClaimBookOkWrongFalsely : Prop := fnExactClaimBookOkRow.holds Try.pinned (OpenSpec.ofChange fnExactClaimBookOkWrong)

/-- 'laws.FnExactClaimMay': WHATEVER THE INPUT: true; the input reads as it did. -/
def fnExactClaimMaySpec : ChangeSpec := { name := "fnExactClaimMay", fn := fun _ => fun
  | [d1, d2] => { results := [.lit (.bool true)], args := [d1, d2] }
  | _ => none }
def fnExactClaimMayRow : OpenClaim := { program := "ytamkmmkchdnkmaa", sum := "3f14b33eb6dca5b1cf292785254bf1f7daf974a4491d94d690e7de27a65b9f0b", func := "loop.example/malthouse/laws.FnExactClaimMay", spec := "fnExactClaimMay", unfollowed := true, recurses := true, apart := false }
def FnExactClaimMaySaid : Prop := fnExactClaimMayRow.holds Try.pinned (OpenSpec.ofChange fnExactClaimMaySpec)

/-- ITS FALSE NEIGHBOUR: 'it returns false'. Refute it at one input. -/
def fnExactClaimMayWrong : ChangeSpec := { name := "fnExactClaimMay", fn := fun _ => fun
  | [d1, d2] => { results := [.lit (.bool false)], args := [d1, d2] }
  | _ => none }
def FnExactClaimMayWrongFalsely : Prop := fnExactClaimMayRow.holds Try.pinned (OpenSpec.ofChange fnExactClaimMayWrong)

/-- 'laws.FnExactClaimShut': WHATEVER THE INPUT: true; the input reads as it did. -/
def fnExactClaimShutSpec : ChangeSpec := { name := "fnExactClaimShut", fn := fun _ => fun
  | [d1, d2] => { results := [.lit (.bool true)], args := [d1, d2] }
  | _ => none }
def fnExactClaimShutRow : OpenClaim := { program := "ytamkmmkchdnkmaa", sum := "3f14b33eb6dca5b1cf292785254bf1f7daf974a4491d94d690e7de27a65b9f0b", func := "loop.example/malthouse/laws.FnExactClaimShut", spec := "fnExactClaimShut", unfollowed := true, recurses := true, apart := false }
def FnExactClaimShutSaid : Prop := fnExactClaimShutRow.holds Try.pinned (OpenSpec.ofChange fnExactClaimShutSpec)

/-- ITS FALSE NEIGHBOUR: 'it returns false'. Refute it at one input. -/
def fnExactClaimShutWrong : ChangeSpec := { name := "fnExactClaimShut", fn := fun _ => fun
  | [d1, d2] => { results := [.lit (.bool false)], args := [d1, d2] }
  | _ => none }
def FnExactClaimShutWrongFalsely : Prop := fnExactClaimShutRow.holds Try.pinned (OpenSpec.ofChange fnExactClaimShutWrong)

/-- 'laws.FnExactCtlBook': WHATEVER THE INPUT: true; the input reads as it did. -/
def fnExactCtlBookSpec : ChangeSpec := { name := "fnExactCtlBook", fn := fun _ => fun
  | [d1, d2] => { results := [.lit (.bool true)], args := [d1, d2] }
  | _ => none }
def fnExactCtlBookRow : OpenClaim := { program := "ytamkmmkchdnkmaa", sum := "3f14b33eb6dca5b1cf292785254bf1f7daf974a4491d94d690e7de27a65b9f0b", func := "loop.example/malthouse/laws.FnExactCtlBook", spec := "fnExactCtlBook", apart := false }
def FnExactCtlBookSaid : Prop := fnExactCtlBookRow.holds Try.pinned (OpenSpec.ofChange fnExactCtlBookSpec)

/-- ITS FALSE NEIGHBOUR: 'it returns false'. Refute it at one input. -/
def fnExactCtlBookWrong : ChangeSpec := { name := "fnExactCtlBook", fn := fun _ => fun
  | [d1, d2] => { results := [.lit (.bool false)], args := [d1, d2] }
  | _ => none }
def FnExactCtlBookWrongFalsely : Prop := fnExactCtlBookRow.holds Try.pinned (OpenSpec.ofChange fnExactCtlBookWrong)

/-- 'laws.FnExactCtlStations': WHATEVER THE INPUT: true; the input reads as it did. -/
def fnExactCtlStationsSpec : ChangeSpec := { name := "fnExactCtlStations", fn := fun _ => fun
  | [d] => { results := [.lit (.bool true)], args := [d] }
  | _ => none }
def fnExactCtlStationsRow : OpenClaim := { program := "ytamkmmkchdnkmaa", sum := "3f14b33eb6dca5b1cf292785254bf1f7daf974a4491d94d690e7de27a65b9f0b", func := "loop.example/malthouse/laws.FnExactCtlStations", spec := "fnExactCtlStations", recurses := true, apart := false }
def FnExactCtlStationsSaid : Prop := fnExactCtlStationsRow.holds Try.pinned (OpenSpec.ofChange fnExactCtlStationsSpec)

/-- ITS FALSE NEIGHBOUR: 'it returns false'. Refute it at one input. -/
def fnExactCtlStationsWrong : ChangeSpec := { name := "fnExactCtlStations", fn := fun _ => fun
  | [d] => { results := [.lit (.bool false)], args := [d] }
  | _ => none }
def FnExactCtlStationsWrongFalsely : Prop := fnExactCtlStationsRow.holds Try.pinned (OpenSpec.ofChange fnExactCtlStationsWrong)

/-- 'laws.FnExactCtlWordOk': WHATEVER THE INPUT: true; the input reads as it did. -/
def fnExactCtlWordOkSpec : ChangeSpec := { name := "fnExactCtlWordOk", fn := fun _ => fun
  | [d1, d2] => { results := [.lit (.bool true)], args := [d1, d2] }
  | _ => none }
def fnExactCtlWordOkRow : OpenClaim := { program := "ytamkmmkchdnkmaa", sum := "3f14b33eb6dca5b1cf292785254bf1f7daf974a4491d94d690e7de27a65b9f0b", func := "loop.example/malthouse/laws.FnExactCtlWordOk", spec := "fnExactCtlWordOk", recurses := true, apart := false }
def FnExactCtlWordOkSaid : Prop := fnExactCtlWordOkRow.holds Try.pinned (OpenSpec.ofChange fnExactCtlWordOkSpec)

/-- ITS FALSE NEIGHBOUR: 'it returns false'. Refute it at one input. -/
def fnExactCtlWordOkWrong : ChangeSpec := { name := "fnExactCtlWordOk", fn := fun _ => fun
  | [d1, d2] => { results := [.lit (.bool false)], args := [d1, d2] }
  | _ => none }
def FnExactCtlWordOkWrongFalsely : Prop := fnExactCtlWordOkRow.holds Try.pinned (OpenSpec.ofChange fnExactCtlWordOkWrong)

/- THE SECOND FORM. 'bulk': how many values and letters a reading holds, each counted each time it is reached (what is shared counts as often as it is met; a slice's spare places count too). A statement '..UptoSaid' is the law's where the arguments, and the package variables that the reading takes, are together of bulk at most 1048576: NARROWER than '..Said'. Prove '..Said' where nothing that the law and all that it calls make is longer than what came in: it says more and counts as full. Else prove '..UptoSaid'. A law counts once. -/
mutual
def uptoBulk {H : Type} : DataW H → Nat
  | .lit (.string bytes) => bytes.length + 1
  | .lit _ => 1
  | .nil => 1
  | .ptr d => uptoBulk d + 1
  | .slice elems spare => uptoBulkAll elems + uptoBulkAll spare + 1
  | .agg parts => uptoBulkAll parts + 1
  | .iface _ d => uptoBulk d + 1
  | .map entries => uptoBulkEntries entries + 1
  | .held _ => 1
def uptoBulkAll {H : Type} : List (DataW H) → Nat
  | [] => 0
  | d :: r => uptoBulk d + uptoBulkAll r
def uptoBulkEntries {H : Type} : List (Lit × DataW H) → Nat
  | [] => 0
  | x :: r => uptoBulkEntry x + uptoBulkEntries r
def uptoBulkEntry {H : Type} : Lit × DataW H → Nat
  | (.string bytes, d) => bytes.length + uptoBulk d + 1
  | (_, d) => uptoBulk d + 1
 end
def uptoSmall : (H : Type) → List (DataW H) → Bool := fun _ ds => decide (uptoBulkAll ds ≤ 1048576)
def OpenSpec.upto (s : _root_.Go.ChangeSpec) : _root_.Go.OpenSpec := { _root_.Go.OpenSpec.ofChange s with cond := some uptoSmall }

/-- 'laws.FnExactStuffBookOk', WHERE WHAT IT READS IS OF BULK AT MOST 1048576: true; the input reads as it did. -/
def fnExactStuffBookOkUptoRow : OpenClaim := { program := "ytamkmmkchdnkmaa", sum := "3f14b33eb6dca5b1cf292785254bf1f7daf974a4491d94d690e7de27a65b9f0b", func := "loop.example/malthouse/laws.FnExactStuffBookOk", spec := "fnExactStuffBookOk", recurses := true, apart := false, narrowed := true }
def FnExactStuffBookOkUptoSaid : Prop := fnExactStuffBookOkUptoRow.holds Try.pinned (OpenSpec.upto fnExactStuffBookOkSpec)

/-- 'laws.FnExactStuffMeets', WHERE WHAT IT READS IS OF BULK AT MOST 1048576: true; the input reads as it did. -/
def fnExactStuffMeetsUptoRow : OpenClaim := { program := "ytamkmmkchdnkmaa", sum := "3f14b33eb6dca5b1cf292785254bf1f7daf974a4491d94d690e7de27a65b9f0b", func := "loop.example/malthouse/laws.FnExactStuffMeets", spec := "fnExactStuffMeets", recurses := true, apart := false, narrowed := true }
def FnExactStuffMeetsUptoSaid : Prop := fnExactStuffMeetsUptoRow.holds Try.pinned (OpenSpec.upto fnExactStuffMeetsSpec)

/-- 'laws.FnExactStuffAmount', WHERE WHAT IT READS IS OF BULK AT MOST 1048576: true; the input reads as it did. -/
def fnExactStuffAmountUptoRow : OpenClaim := { program := "ytamkmmkchdnkmaa", sum := "3f14b33eb6dca5b1cf292785254bf1f7daf974a4491d94d690e7de27a65b9f0b", func := "loop.example/malthouse/laws.FnExactStuffAmount", spec := "fnExactStuffAmount", recurses := true, apart := false, narrowed := true }
def FnExactStuffAmountUptoSaid : Prop := fnExactStuffAmountUptoRow.holds Try.pinned (OpenSpec.upto fnExactStuffAmountSpec)

/-- 'laws.FnExactStuffRecall', WHERE WHAT IT READS IS OF BULK AT MOST 1048576: true; the input reads as it did. -/
def fnExactStuffRecallUptoRow : OpenClaim := { program := "ytamkmmkchdnkmaa", sum := "3f14b33eb6dca5b1cf292785254bf1f7daf974a4491d94d690e7de27a65b9f0b", func := "loop.example/malthouse/laws.FnExactStuffRecall", spec := "fnExactStuffRecall", recurses := true, apart := false, narrowed := true }
def FnExactStuffRecallUptoSaid : Prop := fnExactStuffRecallUptoRow.holds Try.pinned (OpenSpec.upto fnExactStuffRecallSpec)

/-- 'laws.FnExactClaimBookOk', WHERE WHAT IT READS IS OF BULK AT MOST 1048576: true; the input reads as it did. -/
def fnExactClaimBookOkUptoRow : OpenClaim := { program := "ytamkmmkchdnkmaa", sum := "3f14b33eb6dca5b1cf292785254bf1f7daf974a4491d94d690e7de27a65b9f0b", func := "loop.example/malthouse/laws.FnExactClaimBookOk", spec := "fnExactClaimBookOk", unfollowed := true, recurses := true, apart := false, narrowed := true }
def FnExactClaimBookOkUptoSaid : Prop := fnExactClaimBookOkUptoRow.holds Try.pinned (OpenSpec.upto fnExactClaimBookOkSpec)

/-- 'laws.FnExactClaimMay', WHERE WHAT IT READS IS OF BULK AT MOST 1048576: true; the input reads as it did. -/
def fnExactClaimMayUptoRow : OpenClaim := { program := "ytamkmmkchdnkmaa", sum := "3f14b33eb6dca5b1cf292785254bf1f7daf974a4491d94d690e7de27a65b9f0b", func := "loop.example/malthouse/laws.FnExactClaimMay", spec := "fnExactClaimMay", unfollowed := true, recurses := true, apart := false, narrowed := true }
def FnExactClaimMayUptoSaid : Prop := fnExactClaimMayUptoRow.holds Try.pinned (OpenSpec.upto fnExactClaimMaySpec)

/-- 'laws.FnExactClaimShut', WHERE WHAT IT READS IS OF BULK AT MOST 1048576: true; the input reads as it did. -/
def fnExactClaimShutUptoRow : OpenClaim := { program := "ytamkmmkchdnkmaa", sum := "3f14b33eb6dca5b1cf292785254bf1f7daf974a4491d94d690e7de27a65b9f0b", func := "loop.example/malthouse/laws.FnExactClaimShut", spec := "fnExactClaimShut", unfollowed := true, recurses := true, apart := false, narrowed := true }
def FnExactClaimShutUptoSaid : Prop := fnExactClaimShutUptoRow.holds Try.pinned (OpenSpec.upto fnExactClaimShutSpec)

/-- 'laws.FnExactCtlBook', WHERE WHAT IT READS IS OF BULK AT MOST 1048576: true; the input reads as it did. -/
def fnExactCtlBookUptoRow : OpenClaim := { program := "ytamkmmkchdnkmaa", sum := "3f14b33eb6dca5b1cf292785254bf1f7daf974a4491d94d690e7de27a65b9f0b", func := "loop.example/malthouse/laws.FnExactCtlBook", spec := "fnExactCtlBook", apart := false, narrowed := true }
def FnExactCtlBookUptoSaid : Prop := fnExactCtlBookUptoRow.holds Try.pinned (OpenSpec.upto fnExactCtlBookSpec)

/-- 'laws.FnExactCtlStations', WHERE WHAT IT READS IS OF BULK AT MOST 1048576: true; the input reads as it did. -/
def fnExactCtlStationsUptoRow : OpenClaim := { program := "ytamkmmkchdnkmaa", sum := "3f14b33eb6dca5b1cf292785254bf1f7daf974a4491d94d690e7de27a65b9f0b", func := "loop.example/malthouse/laws.FnExactCtlStations", spec := "fnExactCtlStations", recurses := true, apart := false, narrowed := true }
def FnExactCtlStationsUptoSaid : Prop := fnExactCtlStationsUptoRow.holds Try.pinned (OpenSpec.upto fnExactCtlStationsSpec)

/-- 'laws.FnExactCtlWordOk', WHERE WHAT IT READS IS OF BULK AT MOST 1048576: true; the input reads as it did. -/
def fnExactCtlWordOkUptoRow : OpenClaim := { program := "ytamkmmkchdnkmaa", sum := "3f14b33eb6dca5b1cf292785254bf1f7daf974a4491d94d690e7de27a65b9f0b", func := "loop.example/malthouse/laws.FnExactCtlWordOk", spec := "fnExactCtlWordOk", recurses := true, apart := false, narrowed := true }
def FnExactCtlWordOkUptoSaid : Prop := fnExactCtlWordOkUptoRow.holds Try.pinned (OpenSpec.upto fnExactCtlWordOkSpec)

end Rows
end Go.Proofs.Ytamkmmkchdnkmaa
