/-
  DERIVED. GIVEN WITH THE SEED: THE PROGRAM's TIES (one call each: nine closed facts by the kernel) AND EACH ROW's TIE, after the 31st guide's Derived/Test/Toyas{Tie, Card}.lean. No idea stands in it: it is a product of the set-up. Laid BY PROGRAM, IN A SANDBOX (cutbox-door.mjs). By AI agents, Wed Nov 11 2026. No macro, syntax, notation, axiom, sorry.
-/
import Derived.Test.YtnnknnaimabehaaDoorRows
import Derived.LaidByTextLater
import Derived.SevenTiedAt
import Derived.LaidSub
import Derived.LaidOnce
namespace Go.Proofs.YtnnknnaimabehaaDoor
open Go
set_option maxRecDepth 100000
theorem seatTie1 : Tryd.prog.laidByTextLater [("kilowatt/entry.words", Rows.laid_kilowatt_entry_words), ("kilowatt/model.points", Rows.laid_kilowatt_model_points)] [.data, .data] true :=
  Program.laidByTextLater_by_one 36 8 35 (by kernel_rfl) (by kernel_rfl) (by kernel_rfl) (by kernel_rfl) (by kernel_rfl) (by kernel_rfl) (fun _ _ => by kernel_rfl)
theorem noOwnUnsafe : Tryd.pinned.checked.prog.headLifts.contains "ownunsafe" = false := by kernel_rfl
theorem tie : Tryd.prog.laidByTextLater [("kilowatt/model.points", Rows.laid_kilowatt_model_points)] [.data] true :=
  Program.laidByTextLater.sub seatTie1 ["kilowatt/model.points"] (by kernel_rfl) (by kernel_rfl)
theorem modelNames_row_tie : Rows.modelNamesRow.laidByTextAt .later Tryd.pinned [.data] true :=
  OpenClaim.laidByTextAt_later rfl rfl tie noOwnUnsafe
theorem tie2 : Tryd.prog.laidByTextLater [("kilowatt/entry.words", Rows.laid_kilowatt_entry_words), ("kilowatt/model.points", Rows.laid_kilowatt_model_points)] [.data, .data] true :=
  Program.laidByTextLater.sub seatTie1 ["kilowatt/entry.words", "kilowatt/model.points"] (by kernel_rfl) (by kernel_rfl)
theorem modelBooks_row_tie : Rows.modelBooksRow.laidByTextAt .later Tryd.pinned [.data, .data] true :=
  OpenClaim.laidByTextAt_later rfl rfl tie2 noOwnUnsafe
theorem modelEnergy_row_tie : Rows.modelEnergyRow.laidByTextAt .later Tryd.pinned [.data, .data] true :=
  OpenClaim.laidByTextAt_later rfl rfl tie2 noOwnUnsafe
theorem modelNamesUpto_row_tie : Rows.modelNamesUptoRow.laidByTextAt .later Tryd.pinned [.data] true :=
  OpenClaim.laidByTextAt_later rfl rfl tie noOwnUnsafe
theorem modelBooksUpto_row_tie : Rows.modelBooksUptoRow.laidByTextAt .later Tryd.pinned [.data, .data] true :=
  OpenClaim.laidByTextAt_later rfl rfl tie2 noOwnUnsafe
theorem modelEnergyUpto_row_tie : Rows.modelEnergyUptoRow.laidByTextAt .later Tryd.pinned [.data, .data] true :=
  OpenClaim.laidByTextAt_later rfl rfl tie2 noOwnUnsafe
end Go.Proofs.YtnnknnaimabehaaDoor
