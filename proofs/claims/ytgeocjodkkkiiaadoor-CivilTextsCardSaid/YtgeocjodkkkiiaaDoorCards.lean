/-
  DERIVED. GIVEN WITH THE SEED: THE CARDS: each row of YtgeocjodkkkiiaaDoorRows.lean that lists a variable, with what it lists TIED to the program's text (the seventh form; the later family's looks); each row that meets fmt, with fmt's text TOLD by the authors' own Lean function (tested against real Go, not proved from fmt's source: count such statements apart). THE CARD IS WHAT COUNTS. Prove the row's statement (the work); the ties are given (YtgeocjodkkkiiaaDoorTie.lean); close each card by the builder's one call (the guide's Derived/Test/ToyasCard.lean, 'card_holds'). Laid BY PROGRAM, IN A SANDBOX (cutbox-door.mjs). By AI agents, Wed Nov 11 2026. No macro, syntax, notation, axiom, sorry.
-/
import Derived.Test.YtgeocjodkkkiiaaDoorRows
import GoSem.ClaimSeven
namespace Go.Proofs.YtgeocjodkkkiiaaDoor
namespace Rows

/-- THE TIED CARD OF 'kilowattlaw06.CivilDays'. -/
def civilDaysCard : Claim7 := { stood := { row := civilDaysRow, standIns := [], harness := (true, "6d006c7b6f78e941c4872b5d811ea8fc1e9520d1df666535ba6dfc3c6248f391"), looks := false }, kinds := [], alts := [], laidByText := true, laidKinds := [.data], laidTests := true, laidLooks := .later }
def CivilDaysCardSaid : Prop := Claim7.holds Tryd.pinned (.plain (OpenSpec.ofChange civilDaysSpec)) civilDaysCard

/-- THE TIED CARD OF 'kilowattlaw06.CivilNext'. -/
def civilNextCard : Claim7 := { stood := { row := civilNextRow, standIns := [], harness := (true, "6d006c7b6f78e941c4872b5d811ea8fc1e9520d1df666535ba6dfc3c6248f391"), looks := false }, kinds := [], alts := [], laidByText := true, laidKinds := [.data], laidTests := true, laidLooks := .later }
def CivilNextCardSaid : Prop := Claim7.holds Tryd.pinned (.plain (OpenSpec.ofChange civilNextSpec)) civilNextCard

/-- THE TIED CARD OF 'kilowattlaw06.CivilMoments'. -/
def civilMomentsCard : Claim7 := { stood := { row := civilMomentsRow, standIns := [], harness := (true, "6d006c7b6f78e941c4872b5d811ea8fc1e9520d1df666535ba6dfc3c6248f391"), looks := false }, kinds := [], alts := [], laidByText := true, laidKinds := [.data], laidTests := true, laidLooks := .later }
def CivilMomentsCardSaid : Prop := Claim7.holds Tryd.pinned (.plain (OpenSpec.ofChange civilMomentsSpec)) civilMomentsCard

/-- THE TIED CARD OF 'kilowattlaw06.CivilNths'. -/
def civilNthsCard : Claim7 := { stood := { row := civilNthsRow, standIns := [], harness := (true, "6d006c7b6f78e941c4872b5d811ea8fc1e9520d1df666535ba6dfc3c6248f391"), looks := false }, kinds := [], alts := [], laidByText := true, laidKinds := [.data], laidTests := true, laidLooks := .later }
def CivilNthsCardSaid : Prop := Claim7.holds Tryd.pinned (.plain (OpenSpec.ofChange civilNthsSpec)) civilNthsCard

/-- THE TIED CARD OF 'kilowattlaw06.CivilTexts'. -/
def civilTextsCard : Claim7 := { stood := { row := civilTextsRow, standIns := [], harness := (true, "6d006c7b6f78e941c4872b5d811ea8fc1e9520d1df666535ba6dfc3c6248f391"), looks := false }, kinds := [], alts := [], laidByText := true, laidKinds := [.data, .data, .data, .data], laidTests := true, laidLooks := .later }
def CivilTextsCardSaid : Prop := Claim7.holds Tryd.pinned (.plain (OpenSpec.ofChange civilTextsSpec)) civilTextsCard

/-- THE TIED CARD OF 'kilowattlaw06.CivilBack'. -/
def civilBackCard : Claim7 := { stood := { row := civilBackRow, standIns := [], harness := (true, "6d006c7b6f78e941c4872b5d811ea8fc1e9520d1df666535ba6dfc3c6248f391"), looks := false }, kinds := [], alts := [], laidByText := true, laidKinds := [.data, .data, .data, .data], laidTests := true, laidLooks := .later }
def CivilBackCardSaid : Prop := Claim7.holds Tryd.pinned (.plain (OpenSpec.ofChange civilBackSpec)) civilBackCard

/-- THE TIED CARD OF 'kilowattlaw06.CivilNames'. -/
def civilNamesCard : Claim7 := { stood := { row := civilNamesRow, standIns := [], harness := (true, "6d006c7b6f78e941c4872b5d811ea8fc1e9520d1df666535ba6dfc3c6248f391"), looks := false }, kinds := [], alts := [], laidByText := true, laidKinds := [.data, .data, .data, .data], laidTests := true, laidLooks := .later }
def CivilNamesCardSaid : Prop := Claim7.holds Tryd.pinned (.plain (OpenSpec.ofChange civilNamesSpec)) civilNamesCard

/-- THE SECOND FORM's CARD OF 'kilowattlaw06.CivilDays'. -/
def civilDaysUptoCard : Claim7 := { stood := { row := civilDaysUptoRow, standIns := [], harness := (true, "6d006c7b6f78e941c4872b5d811ea8fc1e9520d1df666535ba6dfc3c6248f391"), looks := false }, kinds := [], alts := [], laidByText := true, laidKinds := [.data], laidTests := true, laidLooks := .later }
def CivilDaysUptoCardSaid : Prop := Claim7.holds Tryd.pinned (.plain (OpenSpec.upto civilDaysSpec)) civilDaysUptoCard

/-- THE SECOND FORM's CARD OF 'kilowattlaw06.CivilNext'. -/
def civilNextUptoCard : Claim7 := { stood := { row := civilNextUptoRow, standIns := [], harness := (true, "6d006c7b6f78e941c4872b5d811ea8fc1e9520d1df666535ba6dfc3c6248f391"), looks := false }, kinds := [], alts := [], laidByText := true, laidKinds := [.data], laidTests := true, laidLooks := .later }
def CivilNextUptoCardSaid : Prop := Claim7.holds Tryd.pinned (.plain (OpenSpec.upto civilNextSpec)) civilNextUptoCard

/-- THE SECOND FORM's CARD OF 'kilowattlaw06.CivilMoments'. -/
def civilMomentsUptoCard : Claim7 := { stood := { row := civilMomentsUptoRow, standIns := [], harness := (true, "6d006c7b6f78e941c4872b5d811ea8fc1e9520d1df666535ba6dfc3c6248f391"), looks := false }, kinds := [], alts := [], laidByText := true, laidKinds := [.data], laidTests := true, laidLooks := .later }
def CivilMomentsUptoCardSaid : Prop := Claim7.holds Tryd.pinned (.plain (OpenSpec.upto civilMomentsSpec)) civilMomentsUptoCard

/-- THE SECOND FORM's CARD OF 'kilowattlaw06.CivilNths'. -/
def civilNthsUptoCard : Claim7 := { stood := { row := civilNthsUptoRow, standIns := [], harness := (true, "6d006c7b6f78e941c4872b5d811ea8fc1e9520d1df666535ba6dfc3c6248f391"), looks := false }, kinds := [], alts := [], laidByText := true, laidKinds := [.data], laidTests := true, laidLooks := .later }
def CivilNthsUptoCardSaid : Prop := Claim7.holds Tryd.pinned (.plain (OpenSpec.upto civilNthsSpec)) civilNthsUptoCard

/-- THE SECOND FORM's CARD OF 'kilowattlaw06.CivilTexts'. -/
def civilTextsUptoCard : Claim7 := { stood := { row := civilTextsUptoRow, standIns := [], harness := (true, "6d006c7b6f78e941c4872b5d811ea8fc1e9520d1df666535ba6dfc3c6248f391"), looks := false }, kinds := [], alts := [], laidByText := true, laidKinds := [.data, .data, .data, .data], laidTests := true, laidLooks := .later }
def CivilTextsUptoCardSaid : Prop := Claim7.holds Tryd.pinned (.plain (OpenSpec.upto civilTextsSpec)) civilTextsUptoCard

/-- THE SECOND FORM's CARD OF 'kilowattlaw06.CivilBack'. -/
def civilBackUptoCard : Claim7 := { stood := { row := civilBackUptoRow, standIns := [], harness := (true, "6d006c7b6f78e941c4872b5d811ea8fc1e9520d1df666535ba6dfc3c6248f391"), looks := false }, kinds := [], alts := [], laidByText := true, laidKinds := [.data, .data, .data, .data], laidTests := true, laidLooks := .later }
def CivilBackUptoCardSaid : Prop := Claim7.holds Tryd.pinned (.plain (OpenSpec.upto civilBackSpec)) civilBackUptoCard

/-- THE SECOND FORM's CARD OF 'kilowattlaw06.CivilNames'. -/
def civilNamesUptoCard : Claim7 := { stood := { row := civilNamesUptoRow, standIns := [], harness := (true, "6d006c7b6f78e941c4872b5d811ea8fc1e9520d1df666535ba6dfc3c6248f391"), looks := false }, kinds := [], alts := [], laidByText := true, laidKinds := [.data, .data, .data, .data], laidTests := true, laidLooks := .later }
def CivilNamesUptoCardSaid : Prop := Claim7.holds Tryd.pinned (.plain (OpenSpec.upto civilNamesSpec)) civilNamesUptoCard
end Rows
end Go.Proofs.YtgeocjodkkkiiaaDoor
