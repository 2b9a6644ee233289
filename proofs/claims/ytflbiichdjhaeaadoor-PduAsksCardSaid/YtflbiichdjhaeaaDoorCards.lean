/-
  DERIVED. GIVEN WITH THE SEED: THE CARDS: each row of YtflbiichdjhaeaaDoorRows.lean that lists a variable, with what it lists TIED to the program's text (the seventh form; the later family's looks); each row that meets fmt, with fmt's text TOLD by the authors' own Lean function (tested against real Go, not proved from fmt's source: count such statements apart). THE CARD IS WHAT COUNTS. Prove the row's statement (the work); the ties are given (YtflbiichdjhaeaaDoorTie.lean); close each card by the builder's one call (the guide's Derived/Test/ToyasCard.lean, 'card_holds'). Laid BY PROGRAM, IN A SANDBOX (cutbox-door.mjs). By AI agents, Wed Nov 11 2026. No macro, syntax, notation, axiom, sorry.
-/
import Derived.Test.YtflbiichdjhaeaaDoorRows
import GoSem.ClaimSeven
namespace Go.Proofs.YtflbiichdjhaeaaDoor
namespace Rows

/-- THE TIED CARD OF 'kilowattlaw19.PduApart'. -/
def pduApartCard : Claim7 := { stood := { row := pduApartRow, standIns := [], harness := (true, "32b9c07d4aed141c1d41b1c386bf262318ed414ae6a4ee072cf0ad5734103276"), looks := false }, kinds := [], alts := [], laidByText := true, laidKinds := [.data], laidTests := true, laidLooks := .later }
def PduApartCardSaid : Prop := Claim7.holds Tryd.pinned (.plain (OpenSpec.ofChange pduApartSpec)) pduApartCard

/-- THE TIED CARD OF 'kilowattlaw19.PduAnswers'. -/
def pduAnswersCard : Claim7 := { stood := { row := pduAnswersRow, standIns := [], harness := (true, "32b9c07d4aed141c1d41b1c386bf262318ed414ae6a4ee072cf0ad5734103276"), looks := false }, kinds := [], alts := [], laidByText := true, laidKinds := [.data], laidTests := true, laidLooks := .later }
def PduAnswersCardSaid : Prop := Claim7.holds Tryd.pinned (.plain (OpenSpec.ofChange pduAnswersSpec)) pduAnswersCard

/-- THE TIED CARD OF 'kilowattlaw19.PduReplies'. -/
def pduRepliesCard : Claim7 := { stood := { row := pduRepliesRow, standIns := [], harness := (true, "32b9c07d4aed141c1d41b1c386bf262318ed414ae6a4ee072cf0ad5734103276"), looks := false }, kinds := [], alts := [], laidByText := true, laidKinds := [.data], laidTests := true, laidLooks := .later }
def PduRepliesCardSaid : Prop := Claim7.holds Tryd.pinned (.plain (OpenSpec.ofChange pduRepliesSpec)) pduRepliesCard

/-- THE TIED CARD OF 'kilowattlaw19.PduAsks'. -/
def pduAsksCard : Claim7 := { stood := { row := pduAsksRow, standIns := [], harness := (true, "32b9c07d4aed141c1d41b1c386bf262318ed414ae6a4ee072cf0ad5734103276"), looks := false }, kinds := [], alts := [], laidByText := true, laidKinds := [.data], laidTests := true, laidLooks := .later }
def PduAsksCardSaid : Prop := Claim7.holds Tryd.pinned (.plain (OpenSpec.ofChange pduAsksSpec)) pduAsksCard

/-- THE TIED CARD OF 'kilowattlaw19.PduBack'. -/
def pduBackCard : Claim7 := { stood := { row := pduBackRow, standIns := [], harness := (true, "32b9c07d4aed141c1d41b1c386bf262318ed414ae6a4ee072cf0ad5734103276"), looks := false }, kinds := [], alts := [], laidByText := true, laidKinds := [.data], laidTests := true, laidLooks := .later }
def PduBackCardSaid : Prop := Claim7.holds Tryd.pinned (.plain (OpenSpec.ofChange pduBackSpec)) pduBackCard

/-- THE TIED CARD OF 'kilowattlaw19.PduNames'. -/
def pduNamesCard : Claim7 := { stood := { row := pduNamesRow, standIns := [], harness := (true, "32b9c07d4aed141c1d41b1c386bf262318ed414ae6a4ee072cf0ad5734103276"), looks := false }, kinds := [], alts := [], laidByText := true, laidKinds := [.data], laidTests := true, laidLooks := .later }
def PduNamesCardSaid : Prop := Claim7.holds Tryd.pinned (.plain (OpenSpec.ofChange pduNamesSpec)) pduNamesCard

/-- THE SECOND FORM's CARD OF 'kilowattlaw19.PduApart'. -/
def pduApartUptoCard : Claim7 := { stood := { row := pduApartUptoRow, standIns := [], harness := (true, "32b9c07d4aed141c1d41b1c386bf262318ed414ae6a4ee072cf0ad5734103276"), looks := false }, kinds := [], alts := [], laidByText := true, laidKinds := [.data], laidTests := true, laidLooks := .later }
def PduApartUptoCardSaid : Prop := Claim7.holds Tryd.pinned (.plain (OpenSpec.upto pduApartSpec)) pduApartUptoCard

/-- THE SECOND FORM's CARD OF 'kilowattlaw19.PduAnswers'. -/
def pduAnswersUptoCard : Claim7 := { stood := { row := pduAnswersUptoRow, standIns := [], harness := (true, "32b9c07d4aed141c1d41b1c386bf262318ed414ae6a4ee072cf0ad5734103276"), looks := false }, kinds := [], alts := [], laidByText := true, laidKinds := [.data], laidTests := true, laidLooks := .later }
def PduAnswersUptoCardSaid : Prop := Claim7.holds Tryd.pinned (.plain (OpenSpec.upto pduAnswersSpec)) pduAnswersUptoCard

/-- THE SECOND FORM's CARD OF 'kilowattlaw19.PduReplies'. -/
def pduRepliesUptoCard : Claim7 := { stood := { row := pduRepliesUptoRow, standIns := [], harness := (true, "32b9c07d4aed141c1d41b1c386bf262318ed414ae6a4ee072cf0ad5734103276"), looks := false }, kinds := [], alts := [], laidByText := true, laidKinds := [.data], laidTests := true, laidLooks := .later }
def PduRepliesUptoCardSaid : Prop := Claim7.holds Tryd.pinned (.plain (OpenSpec.upto pduRepliesSpec)) pduRepliesUptoCard

/-- THE SECOND FORM's CARD OF 'kilowattlaw19.PduAsks'. -/
def pduAsksUptoCard : Claim7 := { stood := { row := pduAsksUptoRow, standIns := [], harness := (true, "32b9c07d4aed141c1d41b1c386bf262318ed414ae6a4ee072cf0ad5734103276"), looks := false }, kinds := [], alts := [], laidByText := true, laidKinds := [.data], laidTests := true, laidLooks := .later }
def PduAsksUptoCardSaid : Prop := Claim7.holds Tryd.pinned (.plain (OpenSpec.upto pduAsksSpec)) pduAsksUptoCard

/-- THE SECOND FORM's CARD OF 'kilowattlaw19.PduBack'. -/
def pduBackUptoCard : Claim7 := { stood := { row := pduBackUptoRow, standIns := [], harness := (true, "32b9c07d4aed141c1d41b1c386bf262318ed414ae6a4ee072cf0ad5734103276"), looks := false }, kinds := [], alts := [], laidByText := true, laidKinds := [.data], laidTests := true, laidLooks := .later }
def PduBackUptoCardSaid : Prop := Claim7.holds Tryd.pinned (.plain (OpenSpec.upto pduBackSpec)) pduBackUptoCard

/-- THE SECOND FORM's CARD OF 'kilowattlaw19.PduNames'. -/
def pduNamesUptoCard : Claim7 := { stood := { row := pduNamesUptoRow, standIns := [], harness := (true, "32b9c07d4aed141c1d41b1c386bf262318ed414ae6a4ee072cf0ad5734103276"), looks := false }, kinds := [], alts := [], laidByText := true, laidKinds := [.data], laidTests := true, laidLooks := .later }
def PduNamesUptoCardSaid : Prop := Claim7.holds Tryd.pinned (.plain (OpenSpec.upto pduNamesSpec)) pduNamesUptoCard
end Rows
end Go.Proofs.YtflbiichdjhaeaaDoor
