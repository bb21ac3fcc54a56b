/-
  DERIVED. GIVEN WITH THE SEED: THE CARDS: each row of YtcjhaeppplmmjaaDoorRows.lean that lists a variable, with what it lists TIED to the program's text (the seventh form; the later family's looks); each row that meets fmt, with fmt's text TOLD by the authors' own Lean function (tested against real Go, not proved from fmt's source: count such statements apart). THE CARD IS WHAT COUNTS. Prove the row's statement (the work); the ties are given (YtcjhaeppplmmjaaDoorTie.lean); close each card by the builder's one call (the guide's Derived/Test/ToyasCard.lean, 'card_holds'). Laid BY PROGRAM, IN A SANDBOX (cutbox-door.mjs). By AI agents, Wed Nov 11 2026. No macro, syntax, notation, axiom, sorry.
-/
import Derived.Test.YtcjhaeppplmmjaaDoorRows
import GoSem.ClaimSeven
namespace Go.Proofs.YtcjhaeppplmmjaaDoor
namespace Rows

/-- THE TIED CARD OF 'binderylaw12.NumbersRomans'. -/
def numbersRomansCard : Claim7 := { stood := { row := numbersRomansRow, standIns := [], harness := (true, "67248484f25816bb7bdc3e98f292d7f5fcff514f595dc307d67ec55c55a3b5a3"), looks := false }, kinds := [], alts := [], laidByText := true, laidKinds := [.data], laidTests := true, laidLooks := .later }
def NumbersRomansCardSaid : Prop := Claim7.holds Tryd.pinned (.plain (OpenSpec.ofChange numbersRomansSpec)) numbersRomansCard

/-- THE TIED CARD OF 'binderylaw12.NumbersBacks'. -/
def numbersBacksCard : Claim7 := { stood := { row := numbersBacksRow, standIns := [], harness := (true, "67248484f25816bb7bdc3e98f292d7f5fcff514f595dc307d67ec55c55a3b5a3"), looks := false }, kinds := [], alts := [], laidByText := true, laidKinds := [.data], laidTests := true, laidLooks := .later }
def NumbersBacksCardSaid : Prop := Claim7.holds Tryd.pinned (.plain (OpenSpec.ofChange numbersBacksSpec)) numbersBacksCard

/-- THE TIED CARD OF 'binderylaw12.NumbersBack'. -/
def numbersBackCard : Claim7 := { stood := { row := numbersBackRow, standIns := [], harness := (true, "67248484f25816bb7bdc3e98f292d7f5fcff514f595dc307d67ec55c55a3b5a3"), looks := false }, kinds := [], alts := [], laidByText := true, laidKinds := [.data, .data, .data, .data], laidTests := true, laidLooks := .later }
def NumbersBackCardSaid : Prop := Claim7.holds Tryd.pinned (.plain (OpenSpec.ofChange numbersBackSpec)) numbersBackCard

/-- THE TIED CARD OF 'binderylaw12.NumbersWorth'. -/
def numbersWorthCard : Claim7 := { stood := { row := numbersWorthRow, standIns := [], harness := (true, "67248484f25816bb7bdc3e98f292d7f5fcff514f595dc307d67ec55c55a3b5a3"), looks := false }, kinds := [], alts := [], laidByText := true, laidKinds := [.data, .data, .data, .data], laidTests := true, laidLooks := .later }
def NumbersWorthCardSaid : Prop := Claim7.holds Tryd.pinned (.plain (OpenSpec.ofChange numbersWorthSpec)) numbersWorthCard

/-- THE TIED CARD OF 'binderylaw12.NumbersLetters'. -/
def numbersLettersCard : Claim7 := { stood := { row := numbersLettersRow, standIns := [], harness := (true, "67248484f25816bb7bdc3e98f292d7f5fcff514f595dc307d67ec55c55a3b5a3"), looks := false }, kinds := [], alts := [], laidByText := true, laidKinds := [.data, .data, .data, .data], laidTests := true, laidLooks := .later }
def NumbersLettersCardSaid : Prop := Claim7.holds Tryd.pinned (.plain (OpenSpec.ofChange numbersLettersSpec)) numbersLettersCard

/-- THE TIED CARD OF 'binderylaw12.NumbersParts'. -/
def numbersPartsCard : Claim7 := { stood := { row := numbersPartsRow, standIns := [], harness := (true, "67248484f25816bb7bdc3e98f292d7f5fcff514f595dc307d67ec55c55a3b5a3"), looks := false }, kinds := [], alts := [], laidByText := true, laidKinds := [.data, .data, .data, .data], laidTests := true, laidLooks := .later }
def NumbersPartsCardSaid : Prop := Claim7.holds Tryd.pinned (.plain (OpenSpec.ofChange numbersPartsSpec)) numbersPartsCard

/-- THE TIED CARD OF 'binderylaw12.NumbersNext'. -/
def numbersNextCard : Claim7 := { stood := { row := numbersNextRow, standIns := [], harness := (true, "67248484f25816bb7bdc3e98f292d7f5fcff514f595dc307d67ec55c55a3b5a3"), looks := false }, kinds := [], alts := [], laidByText := true, laidKinds := [.data, .data, .data, .data], laidTests := true, laidLooks := .later }
def NumbersNextCardSaid : Prop := Claim7.holds Tryd.pinned (.plain (OpenSpec.ofChange numbersNextSpec)) numbersNextCard

/-- THE SECOND FORM's CARD OF 'binderylaw12.NumbersRomans'. -/
def numbersRomansUptoCard : Claim7 := { stood := { row := numbersRomansUptoRow, standIns := [], harness := (true, "67248484f25816bb7bdc3e98f292d7f5fcff514f595dc307d67ec55c55a3b5a3"), looks := false }, kinds := [], alts := [], laidByText := true, laidKinds := [.data], laidTests := true, laidLooks := .later }
def NumbersRomansUptoCardSaid : Prop := Claim7.holds Tryd.pinned (.plain (OpenSpec.upto numbersRomansSpec)) numbersRomansUptoCard

/-- THE SECOND FORM's CARD OF 'binderylaw12.NumbersBacks'. -/
def numbersBacksUptoCard : Claim7 := { stood := { row := numbersBacksUptoRow, standIns := [], harness := (true, "67248484f25816bb7bdc3e98f292d7f5fcff514f595dc307d67ec55c55a3b5a3"), looks := false }, kinds := [], alts := [], laidByText := true, laidKinds := [.data], laidTests := true, laidLooks := .later }
def NumbersBacksUptoCardSaid : Prop := Claim7.holds Tryd.pinned (.plain (OpenSpec.upto numbersBacksSpec)) numbersBacksUptoCard

/-- THE SECOND FORM's CARD OF 'binderylaw12.NumbersBack'. -/
def numbersBackUptoCard : Claim7 := { stood := { row := numbersBackUptoRow, standIns := [], harness := (true, "67248484f25816bb7bdc3e98f292d7f5fcff514f595dc307d67ec55c55a3b5a3"), looks := false }, kinds := [], alts := [], laidByText := true, laidKinds := [.data, .data, .data, .data], laidTests := true, laidLooks := .later }
def NumbersBackUptoCardSaid : Prop := Claim7.holds Tryd.pinned (.plain (OpenSpec.upto numbersBackSpec)) numbersBackUptoCard

/-- THE SECOND FORM's CARD OF 'binderylaw12.NumbersWorth'. -/
def numbersWorthUptoCard : Claim7 := { stood := { row := numbersWorthUptoRow, standIns := [], harness := (true, "67248484f25816bb7bdc3e98f292d7f5fcff514f595dc307d67ec55c55a3b5a3"), looks := false }, kinds := [], alts := [], laidByText := true, laidKinds := [.data, .data, .data, .data], laidTests := true, laidLooks := .later }
def NumbersWorthUptoCardSaid : Prop := Claim7.holds Tryd.pinned (.plain (OpenSpec.upto numbersWorthSpec)) numbersWorthUptoCard

/-- THE SECOND FORM's CARD OF 'binderylaw12.NumbersLetters'. -/
def numbersLettersUptoCard : Claim7 := { stood := { row := numbersLettersUptoRow, standIns := [], harness := (true, "67248484f25816bb7bdc3e98f292d7f5fcff514f595dc307d67ec55c55a3b5a3"), looks := false }, kinds := [], alts := [], laidByText := true, laidKinds := [.data, .data, .data, .data], laidTests := true, laidLooks := .later }
def NumbersLettersUptoCardSaid : Prop := Claim7.holds Tryd.pinned (.plain (OpenSpec.upto numbersLettersSpec)) numbersLettersUptoCard

/-- THE SECOND FORM's CARD OF 'binderylaw12.NumbersParts'. -/
def numbersPartsUptoCard : Claim7 := { stood := { row := numbersPartsUptoRow, standIns := [], harness := (true, "67248484f25816bb7bdc3e98f292d7f5fcff514f595dc307d67ec55c55a3b5a3"), looks := false }, kinds := [], alts := [], laidByText := true, laidKinds := [.data, .data, .data, .data], laidTests := true, laidLooks := .later }
def NumbersPartsUptoCardSaid : Prop := Claim7.holds Tryd.pinned (.plain (OpenSpec.upto numbersPartsSpec)) numbersPartsUptoCard

/-- THE SECOND FORM's CARD OF 'binderylaw12.NumbersNext'. -/
def numbersNextUptoCard : Claim7 := { stood := { row := numbersNextUptoRow, standIns := [], harness := (true, "67248484f25816bb7bdc3e98f292d7f5fcff514f595dc307d67ec55c55a3b5a3"), looks := false }, kinds := [], alts := [], laidByText := true, laidKinds := [.data, .data, .data, .data], laidTests := true, laidLooks := .later }
def NumbersNextUptoCardSaid : Prop := Claim7.holds Tryd.pinned (.plain (OpenSpec.upto numbersNextSpec)) numbersNextUptoCard
end Rows
end Go.Proofs.YtcjhaeppplmmjaaDoor
