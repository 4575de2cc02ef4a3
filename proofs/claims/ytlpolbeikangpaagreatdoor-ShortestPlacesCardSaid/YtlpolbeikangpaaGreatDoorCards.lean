/-
  DERIVED. GIVEN WITH THE SEED: THE CARDS: each row of YtlpolbeikangpaaGreatDoorRows.lean that lists a variable, with what it lists TIED to the program's text (the seventh form; the later family's looks); each row that meets fmt, with fmt's text TOLD by the authors' own Lean function (tested against real Go, not proved from fmt's source: count such statements apart). THE CARD IS WHAT COUNTS. Prove the row's statement (the work); the ties are given (YtlpolbeikangpaaGreatDoorTie.lean); close each card by the builder's one call (the guide's Derived/Test/ToyasCard.lean, 'card_holds'). Laid BY PROGRAM, IN A SANDBOX (cutbox-door.mjs). By AI agents, Wed Nov 11 2026. No macro, syntax, notation, axiom, sorry.
-/
import Derived.Test.YtlpolbeikangpaaGreatDoorRows
import GoSem.ClaimSeven
namespace Go.Proofs.YtlpolbeikangpaaGreatDoor
namespace Rows

/-- THE TIED CARD OF 'reckonerlaw25.ShortestTexts'. -/
def shortestTextsCard : Claim7 := { stood := { row := shortestTextsRow, standIns := [], harness := (true, "01165b182e88073e754b5f02c68f2e33c331b6079b51b49d572e6ce0485a4061"), looks := false }, kinds := [], alts := [], laidByText := true, laidKinds := [.data, .data, .data, .data, .funcs, .pinned], laidTests := true, laidLooks := .later }
def ShortestTextsCardSaid : Prop := Claim7.holds Tryz.pinned (.plain (OpenSpec.ofChange shortestTextsSpec)) shortestTextsCard

/-- THE TIED CARD OF 'reckonerlaw25.ShortestPlaces'. -/
def shortestPlacesCard : Claim7 := { stood := { row := shortestPlacesRow, standIns := [], harness := (true, "01165b182e88073e754b5f02c68f2e33c331b6079b51b49d572e6ce0485a4061"), looks := false }, kinds := [], alts := [], laidByText := true, laidKinds := [.data, .data, .data, .data, .funcs, .pinned], laidTests := true, laidLooks := .later }
def ShortestPlacesCardSaid : Prop := Claim7.holds Tryz.pinned (.plain (OpenSpec.ofChange shortestPlacesSpec)) shortestPlacesCard

/-- THE TIED CARD OF 'reckonerlaw25.ShortestDigits'. -/
def shortestDigitsCard : Claim7 := { stood := { row := shortestDigitsRow, standIns := [], harness := (true, "01165b182e88073e754b5f02c68f2e33c331b6079b51b49d572e6ce0485a4061"), looks := false }, kinds := [], alts := [], laidByText := true, laidKinds := [.data, .data, .data, .data, .funcs, .pinned], laidTests := true, laidLooks := .later }
def ShortestDigitsCardSaid : Prop := Claim7.holds Tryz.pinned (.plain (OpenSpec.ofChange shortestDigitsSpec)) shortestDigitsCard

/-- THE TIED CARD OF 'reckonerlaw25.ShortestRounds'. -/
def shortestRoundsCard : Claim7 := { stood := { row := shortestRoundsRow, standIns := [], harness := (true, "01165b182e88073e754b5f02c68f2e33c331b6079b51b49d572e6ce0485a4061"), looks := false }, kinds := [], alts := [], laidByText := true, laidKinds := [.data, .data, .data, .data, .funcs, .pinned], laidTests := true, laidLooks := .later }
def ShortestRoundsCardSaid : Prop := Claim7.holds Tryz.pinned (.plain (OpenSpec.ofChange shortestRoundsSpec)) shortestRoundsCard

/-- THE TIED CARD OF 'reckonerlaw25.ShortestLarge'. -/
def shortestLargeCard : Claim7 := { stood := { row := shortestLargeRow, standIns := [], harness := (true, "01165b182e88073e754b5f02c68f2e33c331b6079b51b49d572e6ce0485a4061"), looks := false }, kinds := [], alts := [], laidByText := true, laidKinds := [.data, .data, .data, .data, .funcs, .pinned], laidTests := true, laidLooks := .later }
def ShortestLargeCardSaid : Prop := Claim7.holds Tryz.pinned (.plain (OpenSpec.ofChange shortestLargeSpec)) shortestLargeCard

/-- THE TIED CARD OF 'reckonerlaw25.ShortestDecs'. -/
def shortestDecsCard : Claim7 := { stood := { row := shortestDecsRow, standIns := [], harness := (true, "01165b182e88073e754b5f02c68f2e33c331b6079b51b49d572e6ce0485a4061"), looks := false }, kinds := [], alts := [], laidByText := true, laidKinds := [.data, .data, .data, .data, .data, .data, .funcs, .pinned, .pinned], laidTests := true, laidLooks := .later }
def ShortestDecsCardSaid : Prop := Claim7.holds Tryz.pinned (.plain (OpenSpec.ofChange shortestDecsSpec)) shortestDecsCard

/-- THE TIED CARD OF 'reckonerlaw25.ShortestBack'. -/
def shortestBackCard : Claim7 := { stood := { row := shortestBackRow, standIns := [], harness := (true, "01165b182e88073e754b5f02c68f2e33c331b6079b51b49d572e6ce0485a4061"), looks := false }, kinds := [], alts := [], laidByText := true, laidKinds := [.data, .data, .data, .data, .data, .data, .funcs, .pinned, .pinned], laidTests := true, laidLooks := .later }
def ShortestBackCardSaid : Prop := Claim7.holds Tryz.pinned (.plain (OpenSpec.ofChange shortestBackSpec)) shortestBackCard

/-- THE TIED CARD OF 'reckonerlaw25.ShortestLeast'. -/
def shortestLeastCard : Claim7 := { stood := { row := shortestLeastRow, standIns := [], harness := (true, "01165b182e88073e754b5f02c68f2e33c331b6079b51b49d572e6ce0485a4061"), looks := false }, kinds := [], alts := [], laidByText := true, laidKinds := [.data, .data, .data, .data, .data, .data, .funcs, .pinned, .pinned], laidTests := true, laidLooks := .later }
def ShortestLeastCardSaid : Prop := Claim7.holds Tryz.pinned (.plain (OpenSpec.ofChange shortestLeastSpec)) shortestLeastCard

/-- THE TIED CARD OF 'reckonerlaw25.ShortestMany'. -/
def shortestManyCard : Claim7 := { stood := { row := shortestManyRow, standIns := [], harness := (true, "01165b182e88073e754b5f02c68f2e33c331b6079b51b49d572e6ce0485a4061"), looks := false }, kinds := [], alts := [], laidByText := true, laidKinds := [.data, .data, .data, .data, .data, .data, .funcs, .pinned, .pinned], laidTests := true, laidLooks := .later }
def ShortestManyCardSaid : Prop := Claim7.holds Tryz.pinned (.plain (OpenSpec.ofChange shortestManySpec)) shortestManyCard

/-- THE SECOND FORM's CARD OF 'reckonerlaw25.ShortestTexts'. -/
def shortestTextsUptoCard : Claim7 := { stood := { row := shortestTextsUptoRow, standIns := [], harness := (true, "01165b182e88073e754b5f02c68f2e33c331b6079b51b49d572e6ce0485a4061"), looks := false }, kinds := [], alts := [], laidByText := true, laidKinds := [.data, .data, .data, .data, .funcs, .pinned], laidTests := true, laidLooks := .later }
def ShortestTextsUptoCardSaid : Prop := Claim7.holds Tryz.pinned (.plain (OpenSpec.upto shortestTextsSpec)) shortestTextsUptoCard

/-- THE SECOND FORM's CARD OF 'reckonerlaw25.ShortestPlaces'. -/
def shortestPlacesUptoCard : Claim7 := { stood := { row := shortestPlacesUptoRow, standIns := [], harness := (true, "01165b182e88073e754b5f02c68f2e33c331b6079b51b49d572e6ce0485a4061"), looks := false }, kinds := [], alts := [], laidByText := true, laidKinds := [.data, .data, .data, .data, .funcs, .pinned], laidTests := true, laidLooks := .later }
def ShortestPlacesUptoCardSaid : Prop := Claim7.holds Tryz.pinned (.plain (OpenSpec.upto shortestPlacesSpec)) shortestPlacesUptoCard

/-- THE SECOND FORM's CARD OF 'reckonerlaw25.ShortestDigits'. -/
def shortestDigitsUptoCard : Claim7 := { stood := { row := shortestDigitsUptoRow, standIns := [], harness := (true, "01165b182e88073e754b5f02c68f2e33c331b6079b51b49d572e6ce0485a4061"), looks := false }, kinds := [], alts := [], laidByText := true, laidKinds := [.data, .data, .data, .data, .funcs, .pinned], laidTests := true, laidLooks := .later }
def ShortestDigitsUptoCardSaid : Prop := Claim7.holds Tryz.pinned (.plain (OpenSpec.upto shortestDigitsSpec)) shortestDigitsUptoCard

/-- THE SECOND FORM's CARD OF 'reckonerlaw25.ShortestRounds'. -/
def shortestRoundsUptoCard : Claim7 := { stood := { row := shortestRoundsUptoRow, standIns := [], harness := (true, "01165b182e88073e754b5f02c68f2e33c331b6079b51b49d572e6ce0485a4061"), looks := false }, kinds := [], alts := [], laidByText := true, laidKinds := [.data, .data, .data, .data, .funcs, .pinned], laidTests := true, laidLooks := .later }
def ShortestRoundsUptoCardSaid : Prop := Claim7.holds Tryz.pinned (.plain (OpenSpec.upto shortestRoundsSpec)) shortestRoundsUptoCard

/-- THE SECOND FORM's CARD OF 'reckonerlaw25.ShortestLarge'. -/
def shortestLargeUptoCard : Claim7 := { stood := { row := shortestLargeUptoRow, standIns := [], harness := (true, "01165b182e88073e754b5f02c68f2e33c331b6079b51b49d572e6ce0485a4061"), looks := false }, kinds := [], alts := [], laidByText := true, laidKinds := [.data, .data, .data, .data, .funcs, .pinned], laidTests := true, laidLooks := .later }
def ShortestLargeUptoCardSaid : Prop := Claim7.holds Tryz.pinned (.plain (OpenSpec.upto shortestLargeSpec)) shortestLargeUptoCard

/-- THE SECOND FORM's CARD OF 'reckonerlaw25.ShortestDecs'. -/
def shortestDecsUptoCard : Claim7 := { stood := { row := shortestDecsUptoRow, standIns := [], harness := (true, "01165b182e88073e754b5f02c68f2e33c331b6079b51b49d572e6ce0485a4061"), looks := false }, kinds := [], alts := [], laidByText := true, laidKinds := [.data, .data, .data, .data, .data, .data, .funcs, .pinned, .pinned], laidTests := true, laidLooks := .later }
def ShortestDecsUptoCardSaid : Prop := Claim7.holds Tryz.pinned (.plain (OpenSpec.upto shortestDecsSpec)) shortestDecsUptoCard

/-- THE SECOND FORM's CARD OF 'reckonerlaw25.ShortestBack'. -/
def shortestBackUptoCard : Claim7 := { stood := { row := shortestBackUptoRow, standIns := [], harness := (true, "01165b182e88073e754b5f02c68f2e33c331b6079b51b49d572e6ce0485a4061"), looks := false }, kinds := [], alts := [], laidByText := true, laidKinds := [.data, .data, .data, .data, .data, .data, .funcs, .pinned, .pinned], laidTests := true, laidLooks := .later }
def ShortestBackUptoCardSaid : Prop := Claim7.holds Tryz.pinned (.plain (OpenSpec.upto shortestBackSpec)) shortestBackUptoCard

/-- THE SECOND FORM's CARD OF 'reckonerlaw25.ShortestLeast'. -/
def shortestLeastUptoCard : Claim7 := { stood := { row := shortestLeastUptoRow, standIns := [], harness := (true, "01165b182e88073e754b5f02c68f2e33c331b6079b51b49d572e6ce0485a4061"), looks := false }, kinds := [], alts := [], laidByText := true, laidKinds := [.data, .data, .data, .data, .data, .data, .funcs, .pinned, .pinned], laidTests := true, laidLooks := .later }
def ShortestLeastUptoCardSaid : Prop := Claim7.holds Tryz.pinned (.plain (OpenSpec.upto shortestLeastSpec)) shortestLeastUptoCard

/-- THE SECOND FORM's CARD OF 'reckonerlaw25.ShortestMany'. -/
def shortestManyUptoCard : Claim7 := { stood := { row := shortestManyUptoRow, standIns := [], harness := (true, "01165b182e88073e754b5f02c68f2e33c331b6079b51b49d572e6ce0485a4061"), looks := false }, kinds := [], alts := [], laidByText := true, laidKinds := [.data, .data, .data, .data, .data, .data, .funcs, .pinned, .pinned], laidTests := true, laidLooks := .later }
def ShortestManyUptoCardSaid : Prop := Claim7.holds Tryz.pinned (.plain (OpenSpec.upto shortestManySpec)) shortestManyUptoCard
end Rows
end Go.Proofs.YtlpolbeikangpaaGreatDoor
