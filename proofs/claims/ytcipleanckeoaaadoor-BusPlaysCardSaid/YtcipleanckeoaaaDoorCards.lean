/-
  DERIVED. GIVEN WITH THE SEED: THE CARDS: each row of YtcipleanckeoaaaDoorRows.lean that lists a variable, with what it lists TIED to the program's text (the seventh form; the later family's looks); each row that meets fmt, with fmt's text TOLD by the authors' own Lean function (tested against real Go, not proved from fmt's source: count such statements apart). THE CARD IS WHAT COUNTS. Prove the row's statement (the work); the ties are given (YtcipleanckeoaaaDoorTie.lean); close each card by the builder's one call (the guide's Derived/Test/ToyasCard.lean, 'card_holds'). Laid BY PROGRAM, IN A SANDBOX (cutbox-door.mjs). By AI agents, Wed Nov 11 2026. No macro, syntax, notation, axiom, sorry.
-/
import Derived.Test.YtcipleanckeoaaaDoorRows
import GoSem.ClaimSeven
namespace Go.Proofs.YtcipleanckeoaaaDoor
namespace Rows

/-- THE TIED CARD OF 'kilowattlaw22.BusPlays'. -/
def busPlaysCard : Claim7 := { stood := { row := busPlaysRow, standIns := [], harness := (true, "cba1a4fb758ab89dfddb0134ab058488c481d878dcb89c15116a16db4d6f2083"), looks := false }, kinds := [], alts := [], laidByText := true, laidKinds := [.data, .data], laidTests := true, laidLooks := .later }
def BusPlaysCardSaid : Prop := Claim7.holds Tryd.pinned (.plain (OpenSpec.ofChange busPlaysSpec)) busPlaysCard

/-- THE TIED CARD OF 'kilowattlaw22.BusNames'. -/
def busNamesCard : Claim7 := { stood := { row := busNamesRow, standIns := [], harness := (true, "cba1a4fb758ab89dfddb0134ab058488c481d878dcb89c15116a16db4d6f2083"), looks := false }, kinds := [], alts := [], laidByText := true, laidKinds := [.data, .data, .data, .data, .data], laidTests := true, laidLooks := .later }
def BusNamesCardSaid : Prop := Claim7.holds Tryd.pinned (.plain (OpenSpec.ofChange busNamesSpec)) busNamesCard

/-- THE TIED CARD OF 'kilowattlaw22.BusPieces'. -/
def busPiecesCard : Claim7 := { stood := { row := busPiecesRow, standIns := [], harness := (true, "cba1a4fb758ab89dfddb0134ab058488c481d878dcb89c15116a16db4d6f2083"), looks := false }, kinds := [], alts := [], laidByText := true, laidKinds := [.data, .data], laidTests := true, laidLooks := .later }
def BusPiecesCardSaid : Prop := Claim7.holds Tryd.pinned (.plain (OpenSpec.ofChange busPiecesSpec)) busPiecesCard

/-- THE TIED CARD OF 'kilowattlaw22.BusActs'. -/
def busActsCard : Claim7 := { stood := { row := busActsRow, standIns := [], harness := (true, "cba1a4fb758ab89dfddb0134ab058488c481d878dcb89c15116a16db4d6f2083"), looks := false }, kinds := [], alts := [], laidByText := true, laidKinds := [.data, .data, .data, .data, .data], laidTests := true, laidLooks := .later }
def BusActsCardSaid : Prop := Claim7.holds Tryd.pinned (.plain (OpenSpec.ofChange busActsSpec)) busActsCard

/-- THE TIED CARD OF 'kilowattlaw22.BusRight'. -/
def busRightCard : Claim7 := { stood := { row := busRightRow, standIns := [], harness := (true, "cba1a4fb758ab89dfddb0134ab058488c481d878dcb89c15116a16db4d6f2083"), looks := false }, kinds := [], alts := [], laidByText := true, laidKinds := [.data, .data], laidTests := true, laidLooks := .later }
def BusRightCardSaid : Prop := Claim7.holds Tryd.pinned (.plain (OpenSpec.ofChange busRightSpec)) busRightCard

/-- THE TIED CARD OF 'kilowattlaw23.PollerTurns'. -/
def pollerTurnsCard : Claim7 := { stood := { row := pollerTurnsRow, standIns := [], harness := (true, "cba1a4fb758ab89dfddb0134ab058488c481d878dcb89c15116a16db4d6f2083"), looks := false }, kinds := [], alts := [], laidByText := true, laidKinds := [.data], laidTests := true, laidLooks := .later }
def PollerTurnsCardSaid : Prop := Claim7.holds Tryd.pinned (.plain (OpenSpec.ofChange pollerTurnsSpec)) pollerTurnsCard

/-- THE TIED CARD OF 'kilowattlaw23.PollerSilent'. -/
def pollerSilentCard : Claim7 := { stood := { row := pollerSilentRow, standIns := [], harness := (true, "cba1a4fb758ab89dfddb0134ab058488c481d878dcb89c15116a16db4d6f2083"), looks := false }, kinds := [], alts := [], laidByText := true, laidKinds := [.data], laidTests := true, laidLooks := .later }
def PollerSilentCardSaid : Prop := Claim7.holds Tryd.pinned (.plain (OpenSpec.ofChange pollerSilentSpec)) pollerSilentCard

/-- THE SECOND FORM's CARD OF 'kilowattlaw22.BusPlays'. -/
def busPlaysUptoCard : Claim7 := { stood := { row := busPlaysUptoRow, standIns := [], harness := (true, "cba1a4fb758ab89dfddb0134ab058488c481d878dcb89c15116a16db4d6f2083"), looks := false }, kinds := [], alts := [], laidByText := true, laidKinds := [.data, .data], laidTests := true, laidLooks := .later }
def BusPlaysUptoCardSaid : Prop := Claim7.holds Tryd.pinned (.plain (OpenSpec.upto busPlaysSpec)) busPlaysUptoCard

/-- THE SECOND FORM's CARD OF 'kilowattlaw22.BusNames'. -/
def busNamesUptoCard : Claim7 := { stood := { row := busNamesUptoRow, standIns := [], harness := (true, "cba1a4fb758ab89dfddb0134ab058488c481d878dcb89c15116a16db4d6f2083"), looks := false }, kinds := [], alts := [], laidByText := true, laidKinds := [.data, .data, .data, .data, .data], laidTests := true, laidLooks := .later }
def BusNamesUptoCardSaid : Prop := Claim7.holds Tryd.pinned (.plain (OpenSpec.upto busNamesSpec)) busNamesUptoCard

/-- THE SECOND FORM's CARD OF 'kilowattlaw22.BusPieces'. -/
def busPiecesUptoCard : Claim7 := { stood := { row := busPiecesUptoRow, standIns := [], harness := (true, "cba1a4fb758ab89dfddb0134ab058488c481d878dcb89c15116a16db4d6f2083"), looks := false }, kinds := [], alts := [], laidByText := true, laidKinds := [.data, .data], laidTests := true, laidLooks := .later }
def BusPiecesUptoCardSaid : Prop := Claim7.holds Tryd.pinned (.plain (OpenSpec.upto busPiecesSpec)) busPiecesUptoCard

/-- THE SECOND FORM's CARD OF 'kilowattlaw22.BusActs'. -/
def busActsUptoCard : Claim7 := { stood := { row := busActsUptoRow, standIns := [], harness := (true, "cba1a4fb758ab89dfddb0134ab058488c481d878dcb89c15116a16db4d6f2083"), looks := false }, kinds := [], alts := [], laidByText := true, laidKinds := [.data, .data, .data, .data, .data], laidTests := true, laidLooks := .later }
def BusActsUptoCardSaid : Prop := Claim7.holds Tryd.pinned (.plain (OpenSpec.upto busActsSpec)) busActsUptoCard

/-- THE SECOND FORM's CARD OF 'kilowattlaw22.BusRight'. -/
def busRightUptoCard : Claim7 := { stood := { row := busRightUptoRow, standIns := [], harness := (true, "cba1a4fb758ab89dfddb0134ab058488c481d878dcb89c15116a16db4d6f2083"), looks := false }, kinds := [], alts := [], laidByText := true, laidKinds := [.data, .data], laidTests := true, laidLooks := .later }
def BusRightUptoCardSaid : Prop := Claim7.holds Tryd.pinned (.plain (OpenSpec.upto busRightSpec)) busRightUptoCard

/-- THE SECOND FORM's CARD OF 'kilowattlaw23.PollerTurns'. -/
def pollerTurnsUptoCard : Claim7 := { stood := { row := pollerTurnsUptoRow, standIns := [], harness := (true, "cba1a4fb758ab89dfddb0134ab058488c481d878dcb89c15116a16db4d6f2083"), looks := false }, kinds := [], alts := [], laidByText := true, laidKinds := [.data], laidTests := true, laidLooks := .later }
def PollerTurnsUptoCardSaid : Prop := Claim7.holds Tryd.pinned (.plain (OpenSpec.upto pollerTurnsSpec)) pollerTurnsUptoCard

/-- THE SECOND FORM's CARD OF 'kilowattlaw23.PollerSilent'. -/
def pollerSilentUptoCard : Claim7 := { stood := { row := pollerSilentUptoRow, standIns := [], harness := (true, "cba1a4fb758ab89dfddb0134ab058488c481d878dcb89c15116a16db4d6f2083"), looks := false }, kinds := [], alts := [], laidByText := true, laidKinds := [.data], laidTests := true, laidLooks := .later }
def PollerSilentUptoCardSaid : Prop := Claim7.holds Tryd.pinned (.plain (OpenSpec.upto pollerSilentSpec)) pollerSilentUptoCard
end Rows
end Go.Proofs.YtcipleanckeoaaaDoor
