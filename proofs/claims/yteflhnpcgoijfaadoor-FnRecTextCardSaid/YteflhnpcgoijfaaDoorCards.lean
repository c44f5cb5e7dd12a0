/-
  DERIVED. GIVEN WITH THE SEED: THE CARDS: each row of YteflhnpcgoijfaaDoorRows.lean that lists a variable, with what it lists TIED to the program's text (the seventh form; the later family's looks); each row that meets fmt, with fmt's text TOLD by the authors' own Lean function (tested against real Go, not proved from fmt's source: count such statements apart). THE CARD IS WHAT COUNTS. Prove the row's statement (the work); the ties are given (YteflhnpcgoijfaaDoorTie.lean); close each card by the builder's one call (the guide's Derived/Test/ToyasCard.lean, 'card_holds'). Laid BY PROGRAM, IN A SANDBOX (cutbox-door.mjs). By AI agents, Wed Nov 11 2026. No macro, syntax, notation, axiom, sorry.
-/
import Derived.Test.YteflhnpcgoijfaaDoorRows
import GoSem.ClaimSeven
namespace Go.Proofs.YteflhnpcgoijfaaDoor
namespace Rows

/-- THE TIED CARD OF 'laws.FnExactPlantWords'. -/
def fnExactPlantWordsCard : Claim7 := { stood := { row := fnExactPlantWordsRow, standIns := [], harness := (true, "731117d32239c868262dd530ff959c9396f0a83f3256499488bbd9e643d2cf6a"), looks := false }, kinds := [], alts := [], laidByText := true, laidKinds := [.data, .pinned], laidTests := true, laidLooks := .later }
def FnExactPlantWordsCardSaid : Prop := Claim7.holds Tryd.pinned (.plain (OpenSpec.ofChange fnExactPlantWordsSpec)) fnExactPlantWordsCard

/-- THE TIED CARD OF 'laws.FnPlantWords'. -/
def fnPlantWordsCard : Claim7 := { stood := { row := fnPlantWordsRow, standIns := [], harness := (true, "731117d32239c868262dd530ff959c9396f0a83f3256499488bbd9e643d2cf6a"), looks := false }, kinds := [], alts := [], laidByText := true, laidKinds := [.data, .pinned], laidTests := true, laidLooks := .later }
def FnPlantWordsCardSaid : Prop := Claim7.holds Tryd.pinned (.plain (OpenSpec.ofChange fnPlantWordsSpec)) fnPlantWordsCard

/-- THE TIED CARD OF 'laws.FnExactRecPrint'. -/
def fnExactRecPrintCard : Claim7 := { stood := { row := fnExactRecPrintRow, standIns := [], harness := (true, "731117d32239c868262dd530ff959c9396f0a83f3256499488bbd9e643d2cf6a"), looks := false }, kinds := [], alts := [], laidByText := true, laidKinds := [.data, .data, .data], laidTests := true, laidLooks := .later }
def FnExactRecPrintCardSaid : Prop := Claim7.holds Tryd.pinned (.plain (OpenSpec.ofChange fnExactRecPrintSpec)) fnExactRecPrintCard

/-- THE TIED CARD OF 'laws.FnExactPlantPrint'. -/
def fnExactPlantPrintCard : Claim7 := { stood := { row := fnExactPlantPrintRow, standIns := [], harness := (true, "731117d32239c868262dd530ff959c9396f0a83f3256499488bbd9e643d2cf6a"), looks := false }, kinds := [], alts := [], laidByText := true, laidKinds := [.data, .data, .data], laidTests := true, laidLooks := .later }
def FnExactPlantPrintCardSaid : Prop := Claim7.holds Tryd.pinned (.plain (OpenSpec.ofChange fnExactPlantPrintSpec)) fnExactPlantPrintCard

/-- THE TIED CARD OF 'laws.FnExactRecParse'. -/
def fnExactRecParseCard : Claim7 := { stood := { row := fnExactRecParseRow, standIns := [], harness := (true, "731117d32239c868262dd530ff959c9396f0a83f3256499488bbd9e643d2cf6a"), looks := false }, kinds := [], alts := [], laidByText := true, laidKinds := [.data, .pinned], laidTests := true, laidLooks := .later }
def FnExactRecParseCardSaid : Prop := Claim7.holds Tryd.pinned (.plain (OpenSpec.ofChange fnExactRecParseSpec)) fnExactRecParseCard

/-- THE TIED CARD OF 'laws.FnRecText'. -/
def fnRecTextCard : Claim7 := { stood := { row := fnRecTextRow, standIns := [], harness := (true, "731117d32239c868262dd530ff959c9396f0a83f3256499488bbd9e643d2cf6a"), looks := false }, kinds := [], alts := [], laidByText := true, laidKinds := [.data, .data, .data, .data, .pinned], laidTests := true, laidLooks := .later }
def FnRecTextCardSaid : Prop := Claim7.holds Tryd.pinned (.plain (OpenSpec.ofChange fnRecTextSpec)) fnRecTextCard

/-- THE SECOND FORM's CARD OF 'laws.FnExactPlantWords'. -/
def fnExactPlantWordsUptoCard : Claim7 := { stood := { row := fnExactPlantWordsUptoRow, standIns := [], harness := (true, "731117d32239c868262dd530ff959c9396f0a83f3256499488bbd9e643d2cf6a"), looks := false }, kinds := [], alts := [], laidByText := true, laidKinds := [.data, .pinned], laidTests := true, laidLooks := .later }
def FnExactPlantWordsUptoCardSaid : Prop := Claim7.holds Tryd.pinned (.plain (OpenSpec.upto fnExactPlantWordsSpec)) fnExactPlantWordsUptoCard

/-- THE SECOND FORM's CARD OF 'laws.FnPlantWords'. -/
def fnPlantWordsUptoCard : Claim7 := { stood := { row := fnPlantWordsUptoRow, standIns := [], harness := (true, "731117d32239c868262dd530ff959c9396f0a83f3256499488bbd9e643d2cf6a"), looks := false }, kinds := [], alts := [], laidByText := true, laidKinds := [.data, .pinned], laidTests := true, laidLooks := .later }
def FnPlantWordsUptoCardSaid : Prop := Claim7.holds Tryd.pinned (.plain (OpenSpec.upto fnPlantWordsSpec)) fnPlantWordsUptoCard

/-- THE SECOND FORM's CARD OF 'laws.FnExactRecPrint'. -/
def fnExactRecPrintUptoCard : Claim7 := { stood := { row := fnExactRecPrintUptoRow, standIns := [], harness := (true, "731117d32239c868262dd530ff959c9396f0a83f3256499488bbd9e643d2cf6a"), looks := false }, kinds := [], alts := [], laidByText := true, laidKinds := [.data, .data, .data], laidTests := true, laidLooks := .later }
def FnExactRecPrintUptoCardSaid : Prop := Claim7.holds Tryd.pinned (.plain (OpenSpec.upto fnExactRecPrintSpec)) fnExactRecPrintUptoCard

/-- THE SECOND FORM's CARD OF 'laws.FnExactPlantPrint'. -/
def fnExactPlantPrintUptoCard : Claim7 := { stood := { row := fnExactPlantPrintUptoRow, standIns := [], harness := (true, "731117d32239c868262dd530ff959c9396f0a83f3256499488bbd9e643d2cf6a"), looks := false }, kinds := [], alts := [], laidByText := true, laidKinds := [.data, .data, .data], laidTests := true, laidLooks := .later }
def FnExactPlantPrintUptoCardSaid : Prop := Claim7.holds Tryd.pinned (.plain (OpenSpec.upto fnExactPlantPrintSpec)) fnExactPlantPrintUptoCard

/-- THE SECOND FORM's CARD OF 'laws.FnExactRecParse'. -/
def fnExactRecParseUptoCard : Claim7 := { stood := { row := fnExactRecParseUptoRow, standIns := [], harness := (true, "731117d32239c868262dd530ff959c9396f0a83f3256499488bbd9e643d2cf6a"), looks := false }, kinds := [], alts := [], laidByText := true, laidKinds := [.data, .pinned], laidTests := true, laidLooks := .later }
def FnExactRecParseUptoCardSaid : Prop := Claim7.holds Tryd.pinned (.plain (OpenSpec.upto fnExactRecParseSpec)) fnExactRecParseUptoCard

/-- THE SECOND FORM's CARD OF 'laws.FnRecText'. -/
def fnRecTextUptoCard : Claim7 := { stood := { row := fnRecTextUptoRow, standIns := [], harness := (true, "731117d32239c868262dd530ff959c9396f0a83f3256499488bbd9e643d2cf6a"), looks := false }, kinds := [], alts := [], laidByText := true, laidKinds := [.data, .data, .data, .data, .pinned], laidTests := true, laidLooks := .later }
def FnRecTextUptoCardSaid : Prop := Claim7.holds Tryd.pinned (.plain (OpenSpec.upto fnRecTextSpec)) fnRecTextUptoCard
end Rows
end Go.Proofs.YteflhnpcgoijfaaDoor
