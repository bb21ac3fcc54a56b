/-
  DERIVED. GIVEN WITH THE SEED: THE CARDS: each row of YtidccanfjcanoaaGreatDoorRows.lean that lists a variable, with what it lists TIED to the program's text (the seventh form; the later family's looks); each row that meets fmt, with fmt's text TOLD by the authors' own Lean function (tested against real Go, not proved from fmt's source: count such statements apart). THE CARD IS WHAT COUNTS. Prove the row's statement (the work); the ties are given (YtidccanfjcanoaaGreatDoorTie.lean); close each card by the builder's one call (the guide's Derived/Test/ToyasCard.lean, 'card_holds'). Laid BY PROGRAM, IN A SANDBOX (cutbox-door.mjs). By AI agents, Wed Nov 11 2026. No macro, syntax, notation, axiom, sorry.
-/
import Derived.Test.YtidccanfjcanoaaGreatDoorRows
import GoSem.ClaimSeven
namespace Go.Proofs.YtidccanfjcanoaaGreatDoor
namespace Rows

/-- THE TIED CARD OF 'binderylaw01.LettersWords'. -/
def lettersWordsCard : Claim7 := { stood := { row := lettersWordsRow, standIns := [], harness := (true, "5678fd9b5c29813e873e2d9ea184ecf3a57dc2d0276e107bebf49333432a468b"), looks := false }, kinds := [], alts := [], laidByText := true, laidKinds := [.data, .data, .data], laidTests := true, laidLooks := .later }
def LettersWordsCardSaid : Prop := Claim7.holds Tryz.pinned (.plain (OpenSpec.ofChange lettersWordsSpec)) lettersWordsCard

/-- THE TIED CARD OF 'binderylaw12.NumbersDotted'. -/
def numbersDottedCard : Claim7 := { stood := { row := numbersDottedRow, standIns := [], harness := (true, "5678fd9b5c29813e873e2d9ea184ecf3a57dc2d0276e107bebf49333432a468b"), looks := false }, kinds := [], alts := [], laidByText := true, laidKinds := [.data, .data, .data], laidTests := true, laidLooks := .later }
def NumbersDottedCardSaid : Prop := Claim7.holds Tryz.pinned (.plain (OpenSpec.ofChange numbersDottedSpec)) numbersDottedCard

/-- THE TIED CARD OF 'binderylaw11.FillFills'. -/
def fillFillsCard : Claim7 := { stood := { row := fillFillsRow, standIns := [], harness := (true, "5678fd9b5c29813e873e2d9ea184ecf3a57dc2d0276e107bebf49333432a468b"), looks := false }, kinds := [], alts := [], laidByText := true, laidKinds := [.data, .data, .data], laidTests := true, laidLooks := .later }
def FillFillsCardSaid : Prop := Claim7.holds Tryz.pinned (.plain (OpenSpec.ofChange fillFillsSpec)) fillFillsCard

/-- THE TIED CARD OF 'binderylaw11.FillIndents'. -/
def fillIndentsCard : Claim7 := { stood := { row := fillIndentsRow, standIns := [], harness := (true, "5678fd9b5c29813e873e2d9ea184ecf3a57dc2d0276e107bebf49333432a468b"), looks := false }, kinds := [], alts := [], laidByText := true, laidKinds := [.data, .data, .data], laidTests := true, laidLooks := .later }
def FillIndentsCardSaid : Prop := Claim7.holds Tryz.pinned (.plain (OpenSpec.ofChange fillIndentsSpec)) fillIndentsCard

/-- THE SECOND FORM's CARD OF 'binderylaw01.LettersWords'. -/
def lettersWordsUptoCard : Claim7 := { stood := { row := lettersWordsUptoRow, standIns := [], harness := (true, "5678fd9b5c29813e873e2d9ea184ecf3a57dc2d0276e107bebf49333432a468b"), looks := false }, kinds := [], alts := [], laidByText := true, laidKinds := [.data, .data, .data], laidTests := true, laidLooks := .later }
def LettersWordsUptoCardSaid : Prop := Claim7.holds Tryz.pinned (.plain (OpenSpec.upto lettersWordsSpec)) lettersWordsUptoCard

/-- THE SECOND FORM's CARD OF 'binderylaw12.NumbersDotted'. -/
def numbersDottedUptoCard : Claim7 := { stood := { row := numbersDottedUptoRow, standIns := [], harness := (true, "5678fd9b5c29813e873e2d9ea184ecf3a57dc2d0276e107bebf49333432a468b"), looks := false }, kinds := [], alts := [], laidByText := true, laidKinds := [.data, .data, .data], laidTests := true, laidLooks := .later }
def NumbersDottedUptoCardSaid : Prop := Claim7.holds Tryz.pinned (.plain (OpenSpec.upto numbersDottedSpec)) numbersDottedUptoCard

/-- THE SECOND FORM's CARD OF 'binderylaw11.FillFills'. -/
def fillFillsUptoCard : Claim7 := { stood := { row := fillFillsUptoRow, standIns := [], harness := (true, "5678fd9b5c29813e873e2d9ea184ecf3a57dc2d0276e107bebf49333432a468b"), looks := false }, kinds := [], alts := [], laidByText := true, laidKinds := [.data, .data, .data], laidTests := true, laidLooks := .later }
def FillFillsUptoCardSaid : Prop := Claim7.holds Tryz.pinned (.plain (OpenSpec.upto fillFillsSpec)) fillFillsUptoCard

/-- THE SECOND FORM's CARD OF 'binderylaw11.FillIndents'. -/
def fillIndentsUptoCard : Claim7 := { stood := { row := fillIndentsUptoRow, standIns := [], harness := (true, "5678fd9b5c29813e873e2d9ea184ecf3a57dc2d0276e107bebf49333432a468b"), looks := false }, kinds := [], alts := [], laidByText := true, laidKinds := [.data, .data, .data], laidTests := true, laidLooks := .later }
def FillIndentsUptoCardSaid : Prop := Claim7.holds Tryz.pinned (.plain (OpenSpec.upto fillIndentsSpec)) fillIndentsUptoCard
end Rows
end Go.Proofs.YtidccanfjcanoaaGreatDoor
