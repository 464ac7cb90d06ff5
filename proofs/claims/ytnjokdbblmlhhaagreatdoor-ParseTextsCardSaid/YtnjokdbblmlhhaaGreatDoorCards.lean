/-
  DERIVED. GIVEN WITH THE SEED: THE CARDS: each row of YtnjokdbblmlhhaaGreatDoorRows.lean that lists a variable, with what it lists TIED to the program's text (the seventh form; the later family's looks); each row that meets fmt, with fmt's text TOLD by the authors' own Lean function (tested against real Go, not proved from fmt's source: count such statements apart). THE CARD IS WHAT COUNTS. Prove the row's statement (the work); the ties are given (YtnjokdbblmlhhaaGreatDoorTie.lean); close each card by the builder's one call (the guide's Derived/Test/ToyasCard.lean, 'card_holds'). Laid BY PROGRAM, IN A SANDBOX (cutbox-door.mjs). By AI agents, Wed Nov 11 2026. No macro, syntax, notation, axiom, sorry.
-/
import Derived.Test.YtnjokdbblmlhhaaGreatDoorRows
import GoSem.ClaimSeven
namespace Go.Proofs.YtnjokdbblmlhhaaGreatDoor
namespace Rows

/-- THE TIED CARD OF 'rescriptlaw20.BlockParses'. -/
def blockParsesCard : Claim7 := { stood := { row := blockParsesRow, standIns := [], harness := (true, "e84cafb034136542269381f184d880cf7f6c3080501887d52aa7ce41d03c215d"), looks := true }, kinds := [], alts := [], laidByText := true, laidKinds := [.data, .pinned], laidTests := true, laidLooks := .later }
def BlockParsesCardSaid : Prop := Claim7.holds Tryz.pinned (.plain (OpenSpec.ofChange blockParsesSpec)) blockParsesCard

/-- THE TIED CARD OF 'rescriptlaw20.BlockPrints'. -/
def blockPrintsCard : Claim7 := { stood := { row := blockPrintsRow, standIns := [], harness := (true, "e84cafb034136542269381f184d880cf7f6c3080501887d52aa7ce41d03c215d"), looks := true }, kinds := [], alts := [], laidByText := true, laidKinds := [.data, .pinned], laidTests := true, laidLooks := .later }
def BlockPrintsCardSaid : Prop := Claim7.holds Tryz.pinned (.plain (OpenSpec.ofChange blockPrintsSpec)) blockPrintsCard

/-- THE TIED CARD OF 'rescriptlaw20.BlockTells'. -/
def blockTellsCard : Claim7 := { stood := { row := blockTellsRow, standIns := [], harness := (true, "e84cafb034136542269381f184d880cf7f6c3080501887d52aa7ce41d03c215d"), looks := true }, kinds := [], alts := [], laidByText := true, laidKinds := [.data, .pinned], laidTests := true, laidLooks := .later }
def BlockTellsCardSaid : Prop := Claim7.holds Tryz.pinned (.plain (OpenSpec.ofChange blockTellsSpec)) blockTellsCard

/-- THE TIED CARD OF 'rescriptlaw20.BlockBack'. -/
def blockBackCard : Claim7 := { stood := { row := blockBackRow, standIns := [], harness := (true, "e84cafb034136542269381f184d880cf7f6c3080501887d52aa7ce41d03c215d"), looks := true }, kinds := [], alts := [], laidByText := true, laidKinds := [.data, .pinned], laidTests := true, laidLooks := .later }
def BlockBackCardSaid : Prop := Claim7.holds Tryz.pinned (.plain (OpenSpec.ofChange blockBackSpec)) blockBackCard

/-- THE TIED CARD OF 'rescriptlaw22.ParseOf'. -/
def parseOfCard : Claim7 := { stood := { row := parseOfRow, standIns := [], harness := (true, "e84cafb034136542269381f184d880cf7f6c3080501887d52aa7ce41d03c215d"), looks := true }, kinds := [], alts := [], laidByText := true, laidKinds := [.data, .pinned], laidTests := true, laidLooks := .later }
def ParseOfCardSaid : Prop := Claim7.holds Tryz.pinned (.plain (OpenSpec.ofChange parseOfSpec)) parseOfCard

/-- THE TIED CARD OF 'rescriptlaw22.ParseTexts'. -/
def parseTextsCard : Claim7 := { stood := { row := parseTextsRow, standIns := [], harness := (true, "e84cafb034136542269381f184d880cf7f6c3080501887d52aa7ce41d03c215d"), looks := true }, kinds := [], alts := [], laidByText := true, laidKinds := [.data, .pinned], laidTests := true, laidLooks := .later }
def ParseTextsCardSaid : Prop := Claim7.holds Tryz.pinned (.plain (OpenSpec.ofChange parseTextsSpec)) parseTextsCard

/-- THE SECOND FORM's CARD OF 'rescriptlaw20.BlockParses'. -/
def blockParsesUptoCard : Claim7 := { stood := { row := blockParsesUptoRow, standIns := [], harness := (true, "e84cafb034136542269381f184d880cf7f6c3080501887d52aa7ce41d03c215d"), looks := true }, kinds := [], alts := [], laidByText := true, laidKinds := [.data, .pinned], laidTests := true, laidLooks := .later }
def BlockParsesUptoCardSaid : Prop := Claim7.holds Tryz.pinned (.plain (OpenSpec.upto blockParsesSpec)) blockParsesUptoCard

/-- THE SECOND FORM's CARD OF 'rescriptlaw20.BlockPrints'. -/
def blockPrintsUptoCard : Claim7 := { stood := { row := blockPrintsUptoRow, standIns := [], harness := (true, "e84cafb034136542269381f184d880cf7f6c3080501887d52aa7ce41d03c215d"), looks := true }, kinds := [], alts := [], laidByText := true, laidKinds := [.data, .pinned], laidTests := true, laidLooks := .later }
def BlockPrintsUptoCardSaid : Prop := Claim7.holds Tryz.pinned (.plain (OpenSpec.upto blockPrintsSpec)) blockPrintsUptoCard

/-- THE SECOND FORM's CARD OF 'rescriptlaw20.BlockTells'. -/
def blockTellsUptoCard : Claim7 := { stood := { row := blockTellsUptoRow, standIns := [], harness := (true, "e84cafb034136542269381f184d880cf7f6c3080501887d52aa7ce41d03c215d"), looks := true }, kinds := [], alts := [], laidByText := true, laidKinds := [.data, .pinned], laidTests := true, laidLooks := .later }
def BlockTellsUptoCardSaid : Prop := Claim7.holds Tryz.pinned (.plain (OpenSpec.upto blockTellsSpec)) blockTellsUptoCard

/-- THE SECOND FORM's CARD OF 'rescriptlaw20.BlockBack'. -/
def blockBackUptoCard : Claim7 := { stood := { row := blockBackUptoRow, standIns := [], harness := (true, "e84cafb034136542269381f184d880cf7f6c3080501887d52aa7ce41d03c215d"), looks := true }, kinds := [], alts := [], laidByText := true, laidKinds := [.data, .pinned], laidTests := true, laidLooks := .later }
def BlockBackUptoCardSaid : Prop := Claim7.holds Tryz.pinned (.plain (OpenSpec.upto blockBackSpec)) blockBackUptoCard

/-- THE SECOND FORM's CARD OF 'rescriptlaw22.ParseOf'. -/
def parseOfUptoCard : Claim7 := { stood := { row := parseOfUptoRow, standIns := [], harness := (true, "e84cafb034136542269381f184d880cf7f6c3080501887d52aa7ce41d03c215d"), looks := true }, kinds := [], alts := [], laidByText := true, laidKinds := [.data, .pinned], laidTests := true, laidLooks := .later }
def ParseOfUptoCardSaid : Prop := Claim7.holds Tryz.pinned (.plain (OpenSpec.upto parseOfSpec)) parseOfUptoCard

/-- THE SECOND FORM's CARD OF 'rescriptlaw22.ParseTexts'. -/
def parseTextsUptoCard : Claim7 := { stood := { row := parseTextsUptoRow, standIns := [], harness := (true, "e84cafb034136542269381f184d880cf7f6c3080501887d52aa7ce41d03c215d"), looks := true }, kinds := [], alts := [], laidByText := true, laidKinds := [.data, .pinned], laidTests := true, laidLooks := .later }
def ParseTextsUptoCardSaid : Prop := Claim7.holds Tryz.pinned (.plain (OpenSpec.upto parseTextsSpec)) parseTextsUptoCard
end Rows
end Go.Proofs.YtnjokdbblmlhhaaGreatDoor
