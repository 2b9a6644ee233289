/-
  DERIVED. GIVEN WITH THE SEED: THE CARDS: each row of YtnnknnaimabehaaDoorRows.lean that lists a variable, with what it lists TIED to the program's text (the seventh form; the later family's looks); each row that meets fmt, with fmt's text TOLD by the authors' own Lean function (tested against real Go, not proved from fmt's source: count such statements apart). THE CARD IS WHAT COUNTS. Prove the row's statement (the work); the ties are given (YtnnknnaimabehaaDoorTie.lean); close each card by the builder's one call (the guide's Derived/Test/ToyasCard.lean, 'card_holds'). Laid BY PROGRAM, IN A SANDBOX (cutbox-door.mjs). By AI agents, Wed Nov 11 2026. No macro, syntax, notation, axiom, sorry.
-/
import Derived.Test.YtnnknnaimabehaaDoorRows
import GoSem.ClaimSeven
namespace Go.Proofs.YtnnknnaimabehaaDoor
namespace Rows

/-- THE TIED CARD OF 'kilowattlaw26.ModelNames'. -/
def modelNamesCard : Claim7 := { stood := { row := modelNamesRow, standIns := [], harness := (true, "921ce4fcb96125e9f0af55790df9a92d7b7babefe0a6d5aad46576a341227f91"), looks := false }, kinds := [], alts := [], laidByText := true, laidKinds := [.data], laidTests := true, laidLooks := .later }
def ModelNamesCardSaid : Prop := Claim7.holds Tryd.pinned (.plain (OpenSpec.ofChange modelNamesSpec)) modelNamesCard

/-- THE TIED CARD OF 'kilowattlaw26.ModelBooks'. -/
def modelBooksCard : Claim7 := { stood := { row := modelBooksRow, standIns := [], harness := (true, "921ce4fcb96125e9f0af55790df9a92d7b7babefe0a6d5aad46576a341227f91"), looks := false }, kinds := [], alts := [], laidByText := true, laidKinds := [.data, .data], laidTests := true, laidLooks := .later }
def ModelBooksCardSaid : Prop := Claim7.holds Tryd.pinned (.plain (OpenSpec.ofChange modelBooksSpec)) modelBooksCard

/-- THE TIED CARD OF 'kilowattlaw26.ModelEnergy'. -/
def modelEnergyCard : Claim7 := { stood := { row := modelEnergyRow, standIns := [], harness := (true, "921ce4fcb96125e9f0af55790df9a92d7b7babefe0a6d5aad46576a341227f91"), looks := false }, kinds := [], alts := [], laidByText := true, laidKinds := [.data, .data], laidTests := true, laidLooks := .later }
def ModelEnergyCardSaid : Prop := Claim7.holds Tryd.pinned (.plain (OpenSpec.ofChange modelEnergySpec)) modelEnergyCard

/-- THE SECOND FORM's CARD OF 'kilowattlaw26.ModelNames'. -/
def modelNamesUptoCard : Claim7 := { stood := { row := modelNamesUptoRow, standIns := [], harness := (true, "921ce4fcb96125e9f0af55790df9a92d7b7babefe0a6d5aad46576a341227f91"), looks := false }, kinds := [], alts := [], laidByText := true, laidKinds := [.data], laidTests := true, laidLooks := .later }
def ModelNamesUptoCardSaid : Prop := Claim7.holds Tryd.pinned (.plain (OpenSpec.upto modelNamesSpec)) modelNamesUptoCard

/-- THE SECOND FORM's CARD OF 'kilowattlaw26.ModelBooks'. -/
def modelBooksUptoCard : Claim7 := { stood := { row := modelBooksUptoRow, standIns := [], harness := (true, "921ce4fcb96125e9f0af55790df9a92d7b7babefe0a6d5aad46576a341227f91"), looks := false }, kinds := [], alts := [], laidByText := true, laidKinds := [.data, .data], laidTests := true, laidLooks := .later }
def ModelBooksUptoCardSaid : Prop := Claim7.holds Tryd.pinned (.plain (OpenSpec.upto modelBooksSpec)) modelBooksUptoCard

/-- THE SECOND FORM's CARD OF 'kilowattlaw26.ModelEnergy'. -/
def modelEnergyUptoCard : Claim7 := { stood := { row := modelEnergyUptoRow, standIns := [], harness := (true, "921ce4fcb96125e9f0af55790df9a92d7b7babefe0a6d5aad46576a341227f91"), looks := false }, kinds := [], alts := [], laidByText := true, laidKinds := [.data, .data], laidTests := true, laidLooks := .later }
def ModelEnergyUptoCardSaid : Prop := Claim7.holds Tryd.pinned (.plain (OpenSpec.upto modelEnergySpec)) modelEnergyUptoCard
end Rows
end Go.Proofs.YtnnknnaimabehaaDoor
