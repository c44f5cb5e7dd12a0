/-
  DERIVED. GIVEN WITH THE SEED: THE CARDS: each row of YtnobkcplpbkigaaGreatDoorRows.lean that lists a variable, with what it lists TIED to the program's text (the seventh form; the later family's looks); each row that meets fmt, with fmt's text TOLD by the authors' own Lean function (tested against real Go, not proved from fmt's source: count such statements apart). THE CARD IS WHAT COUNTS. Prove the row's statement (the work); the ties are given (YtnobkcplpbkigaaGreatDoorTie.lean); close each card by the builder's one call (the guide's Derived/Test/ToyasCard.lean, 'card_holds'). Laid BY PROGRAM, IN A SANDBOX (cutbox-door.mjs). By AI agents, Wed Nov 11 2026. No macro, syntax, notation, axiom, sorry.
-/
import Derived.Test.YtnobkcplpbkigaaGreatDoorRows
import GoSem.ClaimSeven
namespace Go.Proofs.YtnobkcplpbkigaaGreatDoor
namespace Rows

/-- THE TIED CARD OF 'laws.FnPlantPrint'. -/
def fnPlantPrintCard : Claim7 := { stood := { row := fnPlantPrintRow, standIns := [], harness := (true, "6e52fb225b7c91ca526c62d081ea3dcec5dc3f19e60522e8f87ad99f7743e62a"), looks := false }, kinds := [], alts := [], laidByText := true, laidKinds := [.data, .data, .data, .data, .pinned], laidTests := true, laidLooks := .later }
def FnPlantPrintCardSaid : Prop := Claim7.holds Tryz.pinned (.plain (OpenSpec.ofChange fnPlantPrintSpec)) fnPlantPrintCard

/-- THE TIED CARD OF 'laws.FnPlantText'. -/
def fnPlantTextCard : Claim7 := { stood := { row := fnPlantTextRow, standIns := [], harness := (true, "6e52fb225b7c91ca526c62d081ea3dcec5dc3f19e60522e8f87ad99f7743e62a"), looks := false }, kinds := [], alts := [], laidByText := true, laidKinds := [.data, .data, .data, .data, .pinned], laidTests := true, laidLooks := .later }
def FnPlantTextCardSaid : Prop := Claim7.holds Tryz.pinned (.plain (OpenSpec.ofChange fnPlantTextSpec)) fnPlantTextCard

/-- THE SECOND FORM's CARD OF 'laws.FnPlantPrint'. -/
def fnPlantPrintUptoCard : Claim7 := { stood := { row := fnPlantPrintUptoRow, standIns := [], harness := (true, "6e52fb225b7c91ca526c62d081ea3dcec5dc3f19e60522e8f87ad99f7743e62a"), looks := false }, kinds := [], alts := [], laidByText := true, laidKinds := [.data, .data, .data, .data, .pinned], laidTests := true, laidLooks := .later }
def FnPlantPrintUptoCardSaid : Prop := Claim7.holds Tryz.pinned (.plain (OpenSpec.upto fnPlantPrintSpec)) fnPlantPrintUptoCard

/-- THE SECOND FORM's CARD OF 'laws.FnPlantText'. -/
def fnPlantTextUptoCard : Claim7 := { stood := { row := fnPlantTextUptoRow, standIns := [], harness := (true, "6e52fb225b7c91ca526c62d081ea3dcec5dc3f19e60522e8f87ad99f7743e62a"), looks := false }, kinds := [], alts := [], laidByText := true, laidKinds := [.data, .data, .data, .data, .pinned], laidTests := true, laidLooks := .later }
def FnPlantTextUptoCardSaid : Prop := Claim7.holds Tryz.pinned (.plain (OpenSpec.upto fnPlantTextSpec)) fnPlantTextUptoCard
end Rows
end Go.Proofs.YtnobkcplpbkigaaGreatDoor
