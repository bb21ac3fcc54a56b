/-
  DERIVED. GIVEN WITH THE SEED: THE CARDS: each row of YtcainpicbkncpaaDoorRows.lean that lists a variable, with what it lists TIED to the program's text (the seventh form; the later family's looks); each row that meets fmt, with fmt's text TOLD by the authors' own Lean function (tested against real Go, not proved from fmt's source: count such statements apart). THE CARD IS WHAT COUNTS. Prove the row's statement (the work); the ties are given (YtcainpicbkncpaaDoorTie.lean); close each card by the builder's one call (the guide's Derived/Test/ToyasCard.lean, 'card_holds'). Laid BY PROGRAM, IN A SANDBOX (cutbox-door.mjs). By AI agents, Wed Nov 11 2026. No macro, syntax, notation, axiom, sorry.
-/
import Derived.Test.YtcainpicbkncpaaDoorRows
import GoSem.ClaimSeven
namespace Go.Proofs.YtcainpicbkncpaaDoor
namespace Rows

/-- THE TIED CARD OF 'binderylaw02.PathsChecks'. -/
def pathsChecksCard : Claim7 := { stood := { row := pathsChecksRow, standIns := [], harness := (true, "883e3d20585408f8b4cb73d36848009788e4b18102a42da3b840cee84d287822"), looks := false }, kinds := [], alts := [], laidByText := true, laidKinds := [.data, .pinned], laidTests := true, laidLooks := .later }
def PathsChecksCardSaid : Prop := Claim7.holds Tryd.pinned (.plain (OpenSpec.ofChange pathsChecksSpec)) pathsChecksCard

/-- THE TIED CARD OF 'binderylaw02.PathsJoins'. -/
def pathsJoinsCard : Claim7 := { stood := { row := pathsJoinsRow, standIns := [], harness := (true, "883e3d20585408f8b4cb73d36848009788e4b18102a42da3b840cee84d287822"), looks := false }, kinds := [], alts := [], laidByText := true, laidKinds := [.data, .pinned], laidTests := true, laidLooks := .later }
def PathsJoinsCardSaid : Prop := Claim7.holds Tryd.pinned (.plain (OpenSpec.ofChange pathsJoinsSpec)) pathsJoinsCard

/-- THE TIED CARD OF 'binderylaw02.PathsUnlike'. -/
def pathsUnlikeCard : Claim7 := { stood := { row := pathsUnlikeRow, standIns := [], harness := (true, "883e3d20585408f8b4cb73d36848009788e4b18102a42da3b840cee84d287822"), looks := false }, kinds := [], alts := [], laidByText := true, laidKinds := [.data, .pinned], laidTests := true, laidLooks := .later }
def PathsUnlikeCardSaid : Prop := Claim7.holds Tryd.pinned (.plain (OpenSpec.ofChange pathsUnlikeSpec)) pathsUnlikeCard

/-- THE TIED CARD OF 'binderylaw02.PathsBytes'. -/
def pathsBytesCard : Claim7 := { stood := { row := pathsBytesRow, standIns := [], harness := (true, "883e3d20585408f8b4cb73d36848009788e4b18102a42da3b840cee84d287822"), looks := false }, kinds := [], alts := [], laidByText := true, laidKinds := [.data, .pinned], laidTests := true, laidLooks := .later }
def PathsBytesCardSaid : Prop := Claim7.holds Tryd.pinned (.plain (OpenSpec.ofChange pathsBytesSpec)) pathsBytesCard

/-- THE SECOND FORM's CARD OF 'binderylaw02.PathsChecks'. -/
def pathsChecksUptoCard : Claim7 := { stood := { row := pathsChecksUptoRow, standIns := [], harness := (true, "883e3d20585408f8b4cb73d36848009788e4b18102a42da3b840cee84d287822"), looks := false }, kinds := [], alts := [], laidByText := true, laidKinds := [.data, .pinned], laidTests := true, laidLooks := .later }
def PathsChecksUptoCardSaid : Prop := Claim7.holds Tryd.pinned (.plain (OpenSpec.upto pathsChecksSpec)) pathsChecksUptoCard

/-- THE SECOND FORM's CARD OF 'binderylaw02.PathsJoins'. -/
def pathsJoinsUptoCard : Claim7 := { stood := { row := pathsJoinsUptoRow, standIns := [], harness := (true, "883e3d20585408f8b4cb73d36848009788e4b18102a42da3b840cee84d287822"), looks := false }, kinds := [], alts := [], laidByText := true, laidKinds := [.data, .pinned], laidTests := true, laidLooks := .later }
def PathsJoinsUptoCardSaid : Prop := Claim7.holds Tryd.pinned (.plain (OpenSpec.upto pathsJoinsSpec)) pathsJoinsUptoCard

/-- THE SECOND FORM's CARD OF 'binderylaw02.PathsUnlike'. -/
def pathsUnlikeUptoCard : Claim7 := { stood := { row := pathsUnlikeUptoRow, standIns := [], harness := (true, "883e3d20585408f8b4cb73d36848009788e4b18102a42da3b840cee84d287822"), looks := false }, kinds := [], alts := [], laidByText := true, laidKinds := [.data, .pinned], laidTests := true, laidLooks := .later }
def PathsUnlikeUptoCardSaid : Prop := Claim7.holds Tryd.pinned (.plain (OpenSpec.upto pathsUnlikeSpec)) pathsUnlikeUptoCard

/-- THE SECOND FORM's CARD OF 'binderylaw02.PathsBytes'. -/
def pathsBytesUptoCard : Claim7 := { stood := { row := pathsBytesUptoRow, standIns := [], harness := (true, "883e3d20585408f8b4cb73d36848009788e4b18102a42da3b840cee84d287822"), looks := false }, kinds := [], alts := [], laidByText := true, laidKinds := [.data, .pinned], laidTests := true, laidLooks := .later }
def PathsBytesUptoCardSaid : Prop := Claim7.holds Tryd.pinned (.plain (OpenSpec.upto pathsBytesSpec)) pathsBytesUptoCard
end Rows
end Go.Proofs.YtcainpicbkncpaaDoor
