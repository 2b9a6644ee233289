/-
  DERIVED. GIVEN WITH THE SEED: THE CARDS: each row of YtjkhkgdijnhdmaaDoorRows.lean that lists a variable, with what it lists TIED to the program's text (the seventh form; the later family's looks); each row that meets fmt, with fmt's text TOLD by the authors' own Lean function (tested against real Go, not proved from fmt's source: count such statements apart). THE CARD IS WHAT COUNTS. Prove the row's statement (the work); the ties are given (YtjkhkgdijnhdmaaDoorTie.lean); close each card by the builder's one call (the guide's Derived/Test/ToyasCard.lean, 'card_holds'). Laid BY PROGRAM, IN A SANDBOX (cutbox-door.mjs). By AI agents, Wed Nov 11 2026. No macro, syntax, notation, axiom, sorry.
-/
import Derived.Test.YtjkhkgdijnhdmaaDoorRows
import GoSem.ClaimSeven
namespace Go.Proofs.YtjkhkgdijnhdmaaDoor
namespace Rows

/-- THE TIED CARD OF 'kilowattlaw04.ShaPlays'. -/
def shaPlaysCard : Claim7 := { stood := { row := shaPlaysRow, standIns := [], harness := (true, "7fba9425a741ac95470f61f8195bf4e7efb16ba2123caa12a21ccc1eae9f945b"), looks := false }, kinds := [], alts := [], laidByText := true, laidKinds := [.data, .data], laidTests := true, laidLooks := .later }
def ShaPlaysCardSaid : Prop := Claim7.holds Tryd.pinned (.plain (OpenSpec.ofChange shaPlaysSpec)) shaPlaysCard

/-- THE TIED CARD OF 'kilowattlaw04.ShaRoots'. -/
def shaRootsCard : Claim7 := { stood := { row := shaRootsRow, standIns := [], harness := (true, "7fba9425a741ac95470f61f8195bf4e7efb16ba2123caa12a21ccc1eae9f945b"), looks := false }, kinds := [], alts := [], laidByText := true, laidKinds := [.data, .data], laidTests := true, laidLooks := .later }
def ShaRootsCardSaid : Prop := Claim7.holds Tryd.pinned (.plain (OpenSpec.ofChange shaRootsSpec)) shaRootsCard

/-- THE TIED CARD OF 'kilowattlaw04.ShaPieces'. -/
def shaPiecesCard : Claim7 := { stood := { row := shaPiecesRow, standIns := [], harness := (true, "7fba9425a741ac95470f61f8195bf4e7efb16ba2123caa12a21ccc1eae9f945b"), looks := false }, kinds := [], alts := [], laidByText := true, laidKinds := [.data, .data], laidTests := true, laidLooks := .later }
def ShaPiecesCardSaid : Prop := Claim7.holds Tryd.pinned (.plain (OpenSpec.ofChange shaPiecesSpec)) shaPiecesCard

/-- THE TIED CARD OF 'kilowattlaw04.ShaCopies'. -/
def shaCopiesCard : Claim7 := { stood := { row := shaCopiesRow, standIns := [], harness := (true, "7fba9425a741ac95470f61f8195bf4e7efb16ba2123caa12a21ccc1eae9f945b"), looks := false }, kinds := [], alts := [], laidByText := true, laidKinds := [.data, .data], laidTests := true, laidLooks := .later }
def ShaCopiesCardSaid : Prop := Claim7.holds Tryd.pinned (.plain (OpenSpec.ofChange shaCopiesSpec)) shaCopiesCard

/-- THE TIED CARD OF 'kilowattlaw04.ShaBack'. -/
def shaBackCard : Claim7 := { stood := { row := shaBackRow, standIns := [], harness := (true, "7fba9425a741ac95470f61f8195bf4e7efb16ba2123caa12a21ccc1eae9f945b"), looks := false }, kinds := [], alts := [], laidByText := true, laidKinds := [.data, .data], laidTests := true, laidLooks := .later }
def ShaBackCardSaid : Prop := Claim7.holds Tryd.pinned (.plain (OpenSpec.ofChange shaBackSpec)) shaBackCard

/-- THE TIED CARD OF 'kilowattlaw04.ShaNames'. -/
def shaNamesCard : Claim7 := { stood := { row := shaNamesRow, standIns := [], harness := (true, "7fba9425a741ac95470f61f8195bf4e7efb16ba2123caa12a21ccc1eae9f945b"), looks := false }, kinds := [], alts := [], laidByText := true, laidKinds := [.data, .data], laidTests := true, laidLooks := .later }
def ShaNamesCardSaid : Prop := Claim7.holds Tryd.pinned (.plain (OpenSpec.ofChange shaNamesSpec)) shaNamesCard

/-- THE TIED CARD OF 'kilowattlaw05.MacTags'. -/
def macTagsCard : Claim7 := { stood := { row := macTagsRow, standIns := [], harness := (true, "7fba9425a741ac95470f61f8195bf4e7efb16ba2123caa12a21ccc1eae9f945b"), looks := false }, kinds := [], alts := [], laidByText := true, laidKinds := [.data, .data], laidTests := true, laidLooks := .later }
def MacTagsCardSaid : Prop := Claim7.holds Tryd.pinned (.plain (OpenSpec.ofChange macTagsSpec)) macTagsCard

/-- THE TIED CARD OF 'kilowattlaw05.MacKeys'. -/
def macKeysCard : Claim7 := { stood := { row := macKeysRow, standIns := [], harness := (true, "7fba9425a741ac95470f61f8195bf4e7efb16ba2123caa12a21ccc1eae9f945b"), looks := false }, kinds := [], alts := [], laidByText := true, laidKinds := [.data, .data], laidTests := true, laidLooks := .later }
def MacKeysCardSaid : Prop := Claim7.holds Tryd.pinned (.plain (OpenSpec.ofChange macKeysSpec)) macKeysCard

/-- THE TIED CARD OF 'kilowattlaw05.MacPieces'. -/
def macPiecesCard : Claim7 := { stood := { row := macPiecesRow, standIns := [], harness := (true, "7fba9425a741ac95470f61f8195bf4e7efb16ba2123caa12a21ccc1eae9f945b"), looks := false }, kinds := [], alts := [], laidByText := true, laidKinds := [.data, .data], laidTests := true, laidLooks := .later }
def MacPiecesCardSaid : Prop := Claim7.holds Tryd.pinned (.plain (OpenSpec.ofChange macPiecesSpec)) macPiecesCard

/-- THE TIED CARD OF 'kilowattlaw05.MacNames'. -/
def macNamesCard : Claim7 := { stood := { row := macNamesRow, standIns := [], harness := (true, "7fba9425a741ac95470f61f8195bf4e7efb16ba2123caa12a21ccc1eae9f945b"), looks := false }, kinds := [], alts := [], laidByText := true, laidKinds := [.data, .data], laidTests := true, laidLooks := .later }
def MacNamesCardSaid : Prop := Claim7.holds Tryd.pinned (.plain (OpenSpec.ofChange macNamesSpec)) macNamesCard

/-- THE SECOND FORM's CARD OF 'kilowattlaw04.ShaPlays'. -/
def shaPlaysUptoCard : Claim7 := { stood := { row := shaPlaysUptoRow, standIns := [], harness := (true, "7fba9425a741ac95470f61f8195bf4e7efb16ba2123caa12a21ccc1eae9f945b"), looks := false }, kinds := [], alts := [], laidByText := true, laidKinds := [.data, .data], laidTests := true, laidLooks := .later }
def ShaPlaysUptoCardSaid : Prop := Claim7.holds Tryd.pinned (.plain (OpenSpec.upto shaPlaysSpec)) shaPlaysUptoCard

/-- THE SECOND FORM's CARD OF 'kilowattlaw04.ShaRoots'. -/
def shaRootsUptoCard : Claim7 := { stood := { row := shaRootsUptoRow, standIns := [], harness := (true, "7fba9425a741ac95470f61f8195bf4e7efb16ba2123caa12a21ccc1eae9f945b"), looks := false }, kinds := [], alts := [], laidByText := true, laidKinds := [.data, .data], laidTests := true, laidLooks := .later }
def ShaRootsUptoCardSaid : Prop := Claim7.holds Tryd.pinned (.plain (OpenSpec.upto shaRootsSpec)) shaRootsUptoCard

/-- THE SECOND FORM's CARD OF 'kilowattlaw04.ShaPieces'. -/
def shaPiecesUptoCard : Claim7 := { stood := { row := shaPiecesUptoRow, standIns := [], harness := (true, "7fba9425a741ac95470f61f8195bf4e7efb16ba2123caa12a21ccc1eae9f945b"), looks := false }, kinds := [], alts := [], laidByText := true, laidKinds := [.data, .data], laidTests := true, laidLooks := .later }
def ShaPiecesUptoCardSaid : Prop := Claim7.holds Tryd.pinned (.plain (OpenSpec.upto shaPiecesSpec)) shaPiecesUptoCard

/-- THE SECOND FORM's CARD OF 'kilowattlaw04.ShaCopies'. -/
def shaCopiesUptoCard : Claim7 := { stood := { row := shaCopiesUptoRow, standIns := [], harness := (true, "7fba9425a741ac95470f61f8195bf4e7efb16ba2123caa12a21ccc1eae9f945b"), looks := false }, kinds := [], alts := [], laidByText := true, laidKinds := [.data, .data], laidTests := true, laidLooks := .later }
def ShaCopiesUptoCardSaid : Prop := Claim7.holds Tryd.pinned (.plain (OpenSpec.upto shaCopiesSpec)) shaCopiesUptoCard

/-- THE SECOND FORM's CARD OF 'kilowattlaw04.ShaBack'. -/
def shaBackUptoCard : Claim7 := { stood := { row := shaBackUptoRow, standIns := [], harness := (true, "7fba9425a741ac95470f61f8195bf4e7efb16ba2123caa12a21ccc1eae9f945b"), looks := false }, kinds := [], alts := [], laidByText := true, laidKinds := [.data, .data], laidTests := true, laidLooks := .later }
def ShaBackUptoCardSaid : Prop := Claim7.holds Tryd.pinned (.plain (OpenSpec.upto shaBackSpec)) shaBackUptoCard

/-- THE SECOND FORM's CARD OF 'kilowattlaw04.ShaNames'. -/
def shaNamesUptoCard : Claim7 := { stood := { row := shaNamesUptoRow, standIns := [], harness := (true, "7fba9425a741ac95470f61f8195bf4e7efb16ba2123caa12a21ccc1eae9f945b"), looks := false }, kinds := [], alts := [], laidByText := true, laidKinds := [.data, .data], laidTests := true, laidLooks := .later }
def ShaNamesUptoCardSaid : Prop := Claim7.holds Tryd.pinned (.plain (OpenSpec.upto shaNamesSpec)) shaNamesUptoCard

/-- THE SECOND FORM's CARD OF 'kilowattlaw05.MacTags'. -/
def macTagsUptoCard : Claim7 := { stood := { row := macTagsUptoRow, standIns := [], harness := (true, "7fba9425a741ac95470f61f8195bf4e7efb16ba2123caa12a21ccc1eae9f945b"), looks := false }, kinds := [], alts := [], laidByText := true, laidKinds := [.data, .data], laidTests := true, laidLooks := .later }
def MacTagsUptoCardSaid : Prop := Claim7.holds Tryd.pinned (.plain (OpenSpec.upto macTagsSpec)) macTagsUptoCard

/-- THE SECOND FORM's CARD OF 'kilowattlaw05.MacKeys'. -/
def macKeysUptoCard : Claim7 := { stood := { row := macKeysUptoRow, standIns := [], harness := (true, "7fba9425a741ac95470f61f8195bf4e7efb16ba2123caa12a21ccc1eae9f945b"), looks := false }, kinds := [], alts := [], laidByText := true, laidKinds := [.data, .data], laidTests := true, laidLooks := .later }
def MacKeysUptoCardSaid : Prop := Claim7.holds Tryd.pinned (.plain (OpenSpec.upto macKeysSpec)) macKeysUptoCard

/-- THE SECOND FORM's CARD OF 'kilowattlaw05.MacPieces'. -/
def macPiecesUptoCard : Claim7 := { stood := { row := macPiecesUptoRow, standIns := [], harness := (true, "7fba9425a741ac95470f61f8195bf4e7efb16ba2123caa12a21ccc1eae9f945b"), looks := false }, kinds := [], alts := [], laidByText := true, laidKinds := [.data, .data], laidTests := true, laidLooks := .later }
def MacPiecesUptoCardSaid : Prop := Claim7.holds Tryd.pinned (.plain (OpenSpec.upto macPiecesSpec)) macPiecesUptoCard

/-- THE SECOND FORM's CARD OF 'kilowattlaw05.MacNames'. -/
def macNamesUptoCard : Claim7 := { stood := { row := macNamesUptoRow, standIns := [], harness := (true, "7fba9425a741ac95470f61f8195bf4e7efb16ba2123caa12a21ccc1eae9f945b"), looks := false }, kinds := [], alts := [], laidByText := true, laidKinds := [.data, .data], laidTests := true, laidLooks := .later }
def MacNamesUptoCardSaid : Prop := Claim7.holds Tryd.pinned (.plain (OpenSpec.upto macNamesSpec)) macNamesUptoCard
end Rows
end Go.Proofs.YtjkhkgdijnhdmaaDoor
