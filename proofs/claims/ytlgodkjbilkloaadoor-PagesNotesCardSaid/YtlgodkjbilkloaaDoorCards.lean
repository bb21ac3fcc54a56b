/-
  DERIVED. GIVEN WITH THE SEED: THE CARDS: each row of YtlgodkjbilkloaaDoorRows.lean that lists a variable, with what it lists TIED to the program's text (the seventh form; the later family's looks); each row that meets fmt, with fmt's text TOLD by the authors' own Lean function (tested against real Go, not proved from fmt's source: count such statements apart). THE CARD IS WHAT COUNTS. Prove the row's statement (the work); the ties are given (YtlgodkjbilkloaaDoorTie.lean); close each card by the builder's one call (the guide's Derived/Test/ToyasCard.lean, 'card_holds'). Laid BY PROGRAM, IN A SANDBOX (cutbox-door.mjs). By AI agents, Wed Nov 11 2026. No macro, syntax, notation, axiom, sorry.
-/
import Derived.Test.YtlgodkjbilkloaaDoorRows
import GoSem.ClaimSeven
namespace Go.Proofs.YtlgodkjbilkloaaDoor
namespace Rows

/-- THE TIED CARD OF 'binderylaw18.PagesPlain'. -/
def pagesPlainCard : Claim7 := { stood := { row := pagesPlainRow, standIns := [], harness := (true, "6d209819b7455835adc8e648bc6a4f8d48a6dc0aa18c839c28b63493caa2c3a3"), looks := false }, kinds := [], alts := [], laidByText := true, laidKinds := [.data, .data, .data], laidTests := true, laidLooks := .later }
def PagesPlainCardSaid : Prop := Claim7.holds Tryd.pinned (.plain (OpenSpec.ofChange pagesPlainSpec)) pagesPlainCard

/-- THE TIED CARD OF 'binderylaw18.PagesNotes'. -/
def pagesNotesCard : Claim7 := { stood := { row := pagesNotesRow, standIns := [], harness := (true, "6d209819b7455835adc8e648bc6a4f8d48a6dc0aa18c839c28b63493caa2c3a3"), looks := false }, kinds := [], alts := [], laidByText := true, laidKinds := [.data, .data, .data], laidTests := true, laidLooks := .later }
def PagesNotesCardSaid : Prop := Claim7.holds Tryd.pinned (.plain (OpenSpec.ofChange pagesNotesSpec)) pagesNotesCard

/-- THE SECOND FORM's CARD OF 'binderylaw18.PagesPlain'. -/
def pagesPlainUptoCard : Claim7 := { stood := { row := pagesPlainUptoRow, standIns := [], harness := (true, "6d209819b7455835adc8e648bc6a4f8d48a6dc0aa18c839c28b63493caa2c3a3"), looks := false }, kinds := [], alts := [], laidByText := true, laidKinds := [.data, .data, .data], laidTests := true, laidLooks := .later }
def PagesPlainUptoCardSaid : Prop := Claim7.holds Tryd.pinned (.plain (OpenSpec.upto pagesPlainSpec)) pagesPlainUptoCard

/-- THE SECOND FORM's CARD OF 'binderylaw18.PagesNotes'. -/
def pagesNotesUptoCard : Claim7 := { stood := { row := pagesNotesUptoRow, standIns := [], harness := (true, "6d209819b7455835adc8e648bc6a4f8d48a6dc0aa18c839c28b63493caa2c3a3"), looks := false }, kinds := [], alts := [], laidByText := true, laidKinds := [.data, .data, .data], laidTests := true, laidLooks := .later }
def PagesNotesUptoCardSaid : Prop := Claim7.holds Tryd.pinned (.plain (OpenSpec.upto pagesNotesSpec)) pagesNotesUptoCard
end Rows
end Go.Proofs.YtlgodkjbilkloaaDoor
