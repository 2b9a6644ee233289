/-
  NARROWER THAN 'FOR EVERY INPUT', by the rows' own cells (each row's printed sentence says how): ModelNames: laid · ModelBooks: laid · ModelEnergy: laid.
  DERIVED. THE GIVEN ROWS OF THIS SEAT. 3 by the template 'for every input the law returns true; each argument reads behind the call as it read before'; 0 by the template 'total and deterministic' (their statements: YtnnknnaimabehaaDoorTotals.lean).
  GIVEN WITH THE SEED: the statements are not yours to turn. If you find one false, say at which input.
  Laid BY PROGRAM, IN A SANDBOX (cutbox-rows.mjs): the forced cells as the released guide's own fill.sh prints them over the translation e0bacb2ad0b09038… (all of the seat's roots in one cut). By AI agents, Wed Nov 11 2026. No macro, syntax, notation, axiom, sorry.
-/
import Derived.Test.YtnnknnaimabehaaDoorChecked
import GoSem.Claim
import GoSem.ClaimJoined
import GoSem.ClaimMapViews
import Derived.JoinedTies
import Derived.KernelRfl
namespace Go.Proofs.YtnnknnaimabehaaDoor
/- THE CELL 'sum', in the pinned program and in every row, IS THE sha256 OF THE DUMP (.gsa) THAT YtnnknnaimabehaaDoorProg.lean LOADS. Nothing in Lean hashes anything: it is a label: what it is worth is what the hold of that sum in a sandbox is worth. -/
noncomputable def Tryd.pinned : Pinned := { name := "ytnnknnaimabehaadoor", sum := "e0bacb2ad0b09038ba51102ceba107b094f214125bf6416e5a022f2abe07f5fd", checked := Tryd.checked }
namespace Rows
def none {H : Type} : Left H := { results := [], args := [] }

/- WHAT THE LISTED PACKAGE-LEVEL VARIABLES READ AS WHEN THE CALL BEGINS. Each datum BY PROGRAM (the guide's laid-datum.mjs) off the statement by which the dump's own 'gosem.cut.vars' lays the variable. In a bare row this is a premise. The card (YtnnknnaimabehaaDoorCards.lean) ties it to the program's text. -/
def laid_kilowatt_model_points {H : Type} : DataW H := .agg [.agg [.lit (.int .i64 1), .lit (.int .i64 1)], .agg [.lit (.int .i64 2), .lit (.int .i64 4)], .agg [.lit (.int .i64 2), .lit (.int .i64 4)], .agg [.lit (.int .i64 1), .lit (.int .i64 2)], .agg [.lit (.int .i64 1), .lit (.int .i64 2)], .agg [.lit (.int .i64 1), .lit (.int .i64 2)], .agg [.lit (.int .i64 1), .lit (.int .i64 2)], .agg [.lit (.int .i64 1), .lit (.int .i64 2)], .agg [.lit (.int .i64 1), .lit (.int .i64 4)], .agg [.lit (.int .i64 2), .lit (.int .i64 4)], .agg [.lit (.int .i64 2), .lit (.int .i64 4)], .agg [.lit (.int .i64 2), .lit (.int .i64 4)], .agg [.lit (.int .i64 2), .lit (.int .i64 4)], .agg [.lit (.int .i64 2), .lit (.int .i64 4)], .agg [.lit (.int .i64 2), .lit (.int .i64 4)], .agg [.lit (.int .i64 2), .lit (.int .i64 4)], .agg [.lit (.int .i64 2), .lit (.int .i64 4)]]
def laid_kilowatt_entry_words {H : Type} : DataW H := .agg [.lit (.string []), .lit (.string [105, 110, 116, 101, 114, 118, 97, 108]), .lit (.string [115, 117, 115, 112, 101, 99, 116]), .lit (.string [114, 101, 112, 108, 97, 99, 101]), .lit (.string [99, 111, 114, 114, 101, 99, 116]), .lit (.string [115, 101, 97, 108])]

/-- 'kilowattlaw26.ModelNames': WHATEVER THE INPUT: true; the input reads as it did. -/
def modelNamesSpec : ChangeSpec := { name := "modelNames", fn := fun _ => fun
  | [] => { results := [.lit (.bool true)], args := [] }
  | _ => none }
def modelNamesRow : OpenClaim := { program := "ytnnknnaimabehaadoor", sum := "e0bacb2ad0b09038ba51102ceba107b094f214125bf6416e5a022f2abe07f5fd", func := "kilowatt/kilowattlaw26.ModelNames", spec := "modelNames", unfollowed := true, recurses := true, named := ["kilowatt/model.points"], apart := false, laid := [("kilowatt/model.points", laid_kilowatt_model_points)] }
def ModelNamesSaid : Prop := modelNamesRow.holds Tryd.pinned (OpenSpec.ofChange modelNamesSpec)

/-- ITS FALSE NEIGHBOUR: 'it returns false'. Refute it at one input. -/
def modelNamesWrong : ChangeSpec := { name := "modelNames", fn := fun _ => fun
  | [] => { results := [.lit (.bool false)], args := [] }
  | _ => none }
def ModelNamesWrongFalsely : Prop := modelNamesRow.holds Tryd.pinned (OpenSpec.ofChange modelNamesWrong)

/-- 'kilowattlaw26.ModelBooks': WHATEVER THE INPUT: true; the input reads as it did. -/
def modelBooksSpec : ChangeSpec := { name := "modelBooks", fn := fun _ => fun
  | [d1, d2, d3] => { results := [.lit (.bool true)], args := [d1, d2, d3] }
  | _ => none }
def modelBooksRow : OpenClaim := { program := "ytnnknnaimabehaadoor", sum := "e0bacb2ad0b09038ba51102ceba107b094f214125bf6416e5a022f2abe07f5fd", func := "kilowatt/kilowattlaw26.ModelBooks", spec := "modelBooks", unfollowed := true, recurses := true, named := ["kilowatt/entry.words", "kilowatt/model.points"], apart := false, laid := [("kilowatt/entry.words", laid_kilowatt_entry_words), ("kilowatt/model.points", laid_kilowatt_model_points)] }
def ModelBooksSaid : Prop := modelBooksRow.holds Tryd.pinned (OpenSpec.ofChange modelBooksSpec)

/-- ITS FALSE NEIGHBOUR: 'it returns false'. Refute it at one input. -/
def modelBooksWrong : ChangeSpec := { name := "modelBooks", fn := fun _ => fun
  | [d1, d2, d3] => { results := [.lit (.bool false)], args := [d1, d2, d3] }
  | _ => none }
def ModelBooksWrongFalsely : Prop := modelBooksRow.holds Tryd.pinned (OpenSpec.ofChange modelBooksWrong)

/-- 'kilowattlaw26.ModelEnergy': WHATEVER THE INPUT: true; the input reads as it did. -/
def modelEnergySpec : ChangeSpec := { name := "modelEnergy", fn := fun _ => fun
  | [d1, d2] => { results := [.lit (.bool true)], args := [d1, d2] }
  | _ => none }
def modelEnergyRow : OpenClaim := { program := "ytnnknnaimabehaadoor", sum := "e0bacb2ad0b09038ba51102ceba107b094f214125bf6416e5a022f2abe07f5fd", func := "kilowatt/kilowattlaw26.ModelEnergy", spec := "modelEnergy", unfollowed := true, recurses := true, named := ["kilowatt/entry.words", "kilowatt/model.points"], apart := false, laid := [("kilowatt/entry.words", laid_kilowatt_entry_words), ("kilowatt/model.points", laid_kilowatt_model_points)] }
def ModelEnergySaid : Prop := modelEnergyRow.holds Tryd.pinned (OpenSpec.ofChange modelEnergySpec)

/-- ITS FALSE NEIGHBOUR: 'it returns false'. Refute it at one input. -/
def modelEnergyWrong : ChangeSpec := { name := "modelEnergy", fn := fun _ => fun
  | [d1, d2] => { results := [.lit (.bool false)], args := [d1, d2] }
  | _ => none }
def ModelEnergyWrongFalsely : Prop := modelEnergyRow.holds Tryd.pinned (OpenSpec.ofChange modelEnergyWrong)

/- THE SECOND FORM. 'bulk': how many values and letters a reading holds, each counted each time it is reached (what is shared counts as often as it is met; a slice's spare places count too). A statement '..UptoSaid' is the law's where the arguments, and the package variables that the reading takes, are together of bulk at most 1048576: NARROWER than '..Said'. Prove '..Said' where nothing that the law and all that it calls make is longer than what came in: it says more and counts as full. Else prove '..UptoSaid'. A law counts once. -/
mutual
def uptoBulk {H : Type} : DataW H → Nat
  | .lit (.string bytes) => bytes.length + 1
  | .lit _ => 1
  | .nil => 1
  | .ptr d => uptoBulk d + 1
  | .slice elems spare => uptoBulkAll elems + uptoBulkAll spare + 1
  | .agg parts => uptoBulkAll parts + 1
  | .iface _ d => uptoBulk d + 1
  | .map entries => uptoBulkEntries entries + 1
  | .held _ => 1
def uptoBulkAll {H : Type} : List (DataW H) → Nat
  | [] => 0
  | d :: r => uptoBulk d + uptoBulkAll r
def uptoBulkEntries {H : Type} : List (Lit × DataW H) → Nat
  | [] => 0
  | x :: r => uptoBulkEntry x + uptoBulkEntries r
def uptoBulkEntry {H : Type} : Lit × DataW H → Nat
  | (.string bytes, d) => bytes.length + uptoBulk d + 1
  | (_, d) => uptoBulk d + 1
 end
def uptoSmall : (H : Type) → List (DataW H) → Bool := fun _ ds => decide (uptoBulkAll ds ≤ 1048576)
def OpenSpec.upto (s : _root_.Go.ChangeSpec) : _root_.Go.OpenSpec := { _root_.Go.OpenSpec.ofChange s with cond := some uptoSmall }

/-- 'kilowattlaw26.ModelNames', WHERE WHAT IT READS IS OF BULK AT MOST 1048576: true; the input reads as it did. -/
def modelNamesUptoRow : OpenClaim := { program := "ytnnknnaimabehaadoor", sum := "e0bacb2ad0b09038ba51102ceba107b094f214125bf6416e5a022f2abe07f5fd", func := "kilowatt/kilowattlaw26.ModelNames", spec := "modelNames", unfollowed := true, recurses := true, named := ["kilowatt/model.points"], apart := false, laid := [("kilowatt/model.points", laid_kilowatt_model_points)], narrowed := true }
def ModelNamesUptoSaid : Prop := modelNamesUptoRow.holds Tryd.pinned (OpenSpec.upto modelNamesSpec)

/-- 'kilowattlaw26.ModelBooks', WHERE WHAT IT READS IS OF BULK AT MOST 1048576: true; the input reads as it did. -/
def modelBooksUptoRow : OpenClaim := { program := "ytnnknnaimabehaadoor", sum := "e0bacb2ad0b09038ba51102ceba107b094f214125bf6416e5a022f2abe07f5fd", func := "kilowatt/kilowattlaw26.ModelBooks", spec := "modelBooks", unfollowed := true, recurses := true, named := ["kilowatt/entry.words", "kilowatt/model.points"], apart := false, laid := [("kilowatt/entry.words", laid_kilowatt_entry_words), ("kilowatt/model.points", laid_kilowatt_model_points)], narrowed := true }
def ModelBooksUptoSaid : Prop := modelBooksUptoRow.holds Tryd.pinned (OpenSpec.upto modelBooksSpec)

/-- 'kilowattlaw26.ModelEnergy', WHERE WHAT IT READS IS OF BULK AT MOST 1048576: true; the input reads as it did. -/
def modelEnergyUptoRow : OpenClaim := { program := "ytnnknnaimabehaadoor", sum := "e0bacb2ad0b09038ba51102ceba107b094f214125bf6416e5a022f2abe07f5fd", func := "kilowatt/kilowattlaw26.ModelEnergy", spec := "modelEnergy", unfollowed := true, recurses := true, named := ["kilowatt/entry.words", "kilowatt/model.points"], apart := false, laid := [("kilowatt/entry.words", laid_kilowatt_entry_words), ("kilowatt/model.points", laid_kilowatt_model_points)], narrowed := true }
def ModelEnergyUptoSaid : Prop := modelEnergyUptoRow.holds Tryd.pinned (OpenSpec.upto modelEnergySpec)

end Rows
end Go.Proofs.YtnnknnaimabehaaDoor
