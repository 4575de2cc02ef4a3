/-
  DERIVED. GIVEN WITH THE SEED: THE CARDS: each row of YtobacemgcjnahaaGreatDoorRows.lean that lists a variable, with what it lists TIED to the program's text (the seventh form; the later family's looks); each row that meets fmt, with fmt's text TOLD by the authors' own Lean function (tested against real Go, not proved from fmt's source: count such statements apart). THE CARD IS WHAT COUNTS. Prove the row's statement (the work); the ties are given (YtobacemgcjnahaaGreatDoorTie.lean); close each card by the builder's one call (the guide's Derived/Test/ToyasCard.lean, 'card_holds'). Laid BY PROGRAM, IN A SANDBOX (cutbox-door.mjs). By AI agents, Wed Nov 11 2026. No macro, syntax, notation, axiom, sorry.
-/
import Derived.Test.YtobacemgcjnahaaGreatDoorRows
import GoSem.ClaimSeven
namespace Go.Proofs.YtobacemgcjnahaaGreatDoor
namespace Rows

/-- THE TIED CARD OF 'reckonerlaw24.ParseIs'. -/
def parseIsCard : Claim7 := { stood := { row := parseIsRow, standIns := [], harness := (true, "abd5d53504c1ab744571686a0be6f0eba500be591a899f70a251a97d2adf679d"), looks := false }, kinds := [], alts := [], laidByText := true, laidKinds := [.data, .data, .data, .data, .funcs, .pinned, .pinned], laidTests := true, laidLooks := .later }
def ParseIsCardSaid : Prop := Claim7.holds Tryz.pinned (.plain (OpenSpec.ofChange parseIsSpec)) parseIsCard

/-- THE TIED CARD OF 'reckonerlaw24.ParseFloats'. -/
def parseFloatsCard : Claim7 := { stood := { row := parseFloatsRow, standIns := [], harness := (true, "abd5d53504c1ab744571686a0be6f0eba500be591a899f70a251a97d2adf679d"), looks := false }, kinds := [], alts := [], laidByText := true, laidKinds := [.data, .data, .data, .data, .funcs, .pinned, .pinned], laidTests := true, laidLooks := .later }
def ParseFloatsCardSaid : Prop := Claim7.holds Tryz.pinned (.plain (OpenSpec.ofChange parseFloatsSpec)) parseFloatsCard

/-- THE TIED CARD OF 'reckonerlaw24.ParseDecimals'. -/
def parseDecimalsCard : Claim7 := { stood := { row := parseDecimalsRow, standIns := [], harness := (true, "abd5d53504c1ab744571686a0be6f0eba500be591a899f70a251a97d2adf679d"), looks := false }, kinds := [], alts := [], laidByText := true, laidKinds := [.data, .data, .data, .data, .funcs, .pinned, .pinned], laidTests := true, laidLooks := .later }
def ParseDecimalsCardSaid : Prop := Claim7.holds Tryz.pinned (.plain (OpenSpec.ofChange parseDecimalsSpec)) parseDecimalsCard

/-- THE TIED CARD OF 'reckonerlaw24.ParseExacts'. -/
def parseExactsCard : Claim7 := { stood := { row := parseExactsRow, standIns := [], harness := (true, "abd5d53504c1ab744571686a0be6f0eba500be591a899f70a251a97d2adf679d"), looks := false }, kinds := [], alts := [], laidByText := true, laidKinds := [.data, .data, .data, .data, .funcs, .pinned, .pinned], laidTests := true, laidLooks := .later }
def ParseExactsCardSaid : Prop := Claim7.holds Tryz.pinned (.plain (OpenSpec.ofChange parseExactsSpec)) parseExactsCard

/-- THE TIED CARD OF 'reckonerlaw24.ParseDigits'. -/
def parseDigitsCard : Claim7 := { stood := { row := parseDigitsRow, standIns := [], harness := (true, "abd5d53504c1ab744571686a0be6f0eba500be591a899f70a251a97d2adf679d"), looks := false }, kinds := [], alts := [], laidByText := true, laidKinds := [.data, .data, .data, .data, .funcs, .pinned, .pinned], laidTests := true, laidLooks := .later }
def ParseDigitsCardSaid : Prop := Claim7.holds Tryz.pinned (.plain (OpenSpec.ofChange parseDigitsSpec)) parseDigitsCard

/-- THE SECOND FORM's CARD OF 'reckonerlaw24.ParseIs'. -/
def parseIsUptoCard : Claim7 := { stood := { row := parseIsUptoRow, standIns := [], harness := (true, "abd5d53504c1ab744571686a0be6f0eba500be591a899f70a251a97d2adf679d"), looks := false }, kinds := [], alts := [], laidByText := true, laidKinds := [.data, .data, .data, .data, .funcs, .pinned, .pinned], laidTests := true, laidLooks := .later }
def ParseIsUptoCardSaid : Prop := Claim7.holds Tryz.pinned (.plain (OpenSpec.upto parseIsSpec)) parseIsUptoCard

/-- THE SECOND FORM's CARD OF 'reckonerlaw24.ParseFloats'. -/
def parseFloatsUptoCard : Claim7 := { stood := { row := parseFloatsUptoRow, standIns := [], harness := (true, "abd5d53504c1ab744571686a0be6f0eba500be591a899f70a251a97d2adf679d"), looks := false }, kinds := [], alts := [], laidByText := true, laidKinds := [.data, .data, .data, .data, .funcs, .pinned, .pinned], laidTests := true, laidLooks := .later }
def ParseFloatsUptoCardSaid : Prop := Claim7.holds Tryz.pinned (.plain (OpenSpec.upto parseFloatsSpec)) parseFloatsUptoCard

/-- THE SECOND FORM's CARD OF 'reckonerlaw24.ParseDecimals'. -/
def parseDecimalsUptoCard : Claim7 := { stood := { row := parseDecimalsUptoRow, standIns := [], harness := (true, "abd5d53504c1ab744571686a0be6f0eba500be591a899f70a251a97d2adf679d"), looks := false }, kinds := [], alts := [], laidByText := true, laidKinds := [.data, .data, .data, .data, .funcs, .pinned, .pinned], laidTests := true, laidLooks := .later }
def ParseDecimalsUptoCardSaid : Prop := Claim7.holds Tryz.pinned (.plain (OpenSpec.upto parseDecimalsSpec)) parseDecimalsUptoCard

/-- THE SECOND FORM's CARD OF 'reckonerlaw24.ParseExacts'. -/
def parseExactsUptoCard : Claim7 := { stood := { row := parseExactsUptoRow, standIns := [], harness := (true, "abd5d53504c1ab744571686a0be6f0eba500be591a899f70a251a97d2adf679d"), looks := false }, kinds := [], alts := [], laidByText := true, laidKinds := [.data, .data, .data, .data, .funcs, .pinned, .pinned], laidTests := true, laidLooks := .later }
def ParseExactsUptoCardSaid : Prop := Claim7.holds Tryz.pinned (.plain (OpenSpec.upto parseExactsSpec)) parseExactsUptoCard

/-- THE SECOND FORM's CARD OF 'reckonerlaw24.ParseDigits'. -/
def parseDigitsUptoCard : Claim7 := { stood := { row := parseDigitsUptoRow, standIns := [], harness := (true, "abd5d53504c1ab744571686a0be6f0eba500be591a899f70a251a97d2adf679d"), looks := false }, kinds := [], alts := [], laidByText := true, laidKinds := [.data, .data, .data, .data, .funcs, .pinned, .pinned], laidTests := true, laidLooks := .later }
def ParseDigitsUptoCardSaid : Prop := Claim7.holds Tryz.pinned (.plain (OpenSpec.upto parseDigitsSpec)) parseDigitsUptoCard
end Rows
end Go.Proofs.YtobacemgcjnahaaGreatDoor
