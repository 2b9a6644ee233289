/-
  NARROWER THAN 'FOR EVERY INPUT', by the rows' own cells (each row's printed sentence says how): PduApart: laid · PduAnswers: laid · PduReplies: laid · PduAsks: laid · PduBack: laid · PduNames: laid.
  DERIVED. THE GIVEN ROWS OF THIS SEAT. 6 by the template 'for every input the law returns true; each argument reads behind the call as it read before'; 0 by the template 'total and deterministic' (their statements: YtflbiichdjhaeaaDoorTotals.lean).
  GIVEN WITH THE SEED: the statements are not yours to turn. If you find one false, say at which input.
  Laid BY PROGRAM, IN A SANDBOX (cutbox-rows.mjs): the forced cells as the released guide's own fill.sh prints them over the translation abeefd7f8ebf1d01… (all of the seat's roots in one cut). By AI agents, Wed Nov 11 2026. No macro, syntax, notation, axiom, sorry.
-/
import Derived.Test.YtflbiichdjhaeaaDoorChecked
import GoSem.Claim
import GoSem.ClaimJoined
import GoSem.ClaimMapViews
import Derived.JoinedTies
import Derived.KernelRfl
namespace Go.Proofs.YtflbiichdjhaeaaDoor
/- THE CELL 'sum', in the pinned program and in every row, IS THE sha256 OF THE DUMP (.gsa) THAT YtflbiichdjhaeaaDoorProg.lean LOADS. Nothing in Lean hashes anything: it is a label: what it is worth is what the hold of that sum in a sandbox is worth. -/
noncomputable def Tryd.pinned : Pinned := { name := "ytflbiichdjhaeaadoor", sum := "abeefd7f8ebf1d01a6c91db6aef917203892840a1642a3e24628f3c7cc881cdc", checked := Tryd.checked }
namespace Rows
def none {H : Type} : Left H := { results := [], args := [] }

/- WHAT THE LISTED PACKAGE-LEVEL VARIABLES READ AS WHEN THE CALL BEGINS. Each datum BY PROGRAM (the guide's laid-datum.mjs) off the statement by which the dump's own 'gosem.cut.vars' lays the variable. In a bare row this is a premise. The card (YtflbiichdjhaeaaDoorCards.lean) ties it to the program's text. -/
def laid_kilowatt_pdu_limits {H : Type} : DataW H := .agg [.agg [.lit (.int .i64 1), .lit (.int .i64 2000), .lit (.int .i64 0), .lit (.int .i64 0)], .agg [.lit (.int .i64 2), .lit (.int .i64 2000), .lit (.int .i64 0), .lit (.int .i64 0)], .agg [.lit (.int .i64 3), .lit (.int .i64 125), .lit (.int .i64 0), .lit (.int .i64 0)], .agg [.lit (.int .i64 4), .lit (.int .i64 125), .lit (.int .i64 0), .lit (.int .i64 0)], .agg [.lit (.int .i64 5), .lit (.int .i64 0), .lit (.int .i64 1), .lit (.int .i64 0)], .agg [.lit (.int .i64 6), .lit (.int .i64 0), .lit (.int .i64 0), .lit (.int .i64 1)], .agg [.lit (.int .i64 15), .lit (.int .i64 0), .lit (.int .i64 1968), .lit (.int .i64 0)], .agg [.lit (.int .i64 16), .lit (.int .i64 0), .lit (.int .i64 0), .lit (.int .i64 123)], .agg [.lit (.int .i64 23), .lit (.int .i64 125), .lit (.int .i64 0), .lit (.int .i64 121)]]

/-- 'kilowattlaw19.PduApart': WHATEVER THE INPUT: true; the input reads as it did. -/
def pduApartSpec : ChangeSpec := { name := "pduApart", fn := fun _ => fun
  | [d1, d2] => { results := [.lit (.bool true)], args := [d1, d2] }
  | _ => none }
def pduApartRow : OpenClaim := { program := "ytflbiichdjhaeaadoor", sum := "abeefd7f8ebf1d01a6c91db6aef917203892840a1642a3e24628f3c7cc881cdc", func := "kilowatt/kilowattlaw19.PduApart", spec := "pduApart", unfollowed := true, recurses := true, named := ["kilowatt/pdu.limits"], apart := false, laid := [("kilowatt/pdu.limits", laid_kilowatt_pdu_limits)] }
def PduApartSaid : Prop := pduApartRow.holds Tryd.pinned (OpenSpec.ofChange pduApartSpec)

/-- ITS FALSE NEIGHBOUR: 'it returns false'. Refute it at one input. -/
def pduApartWrong : ChangeSpec := { name := "pduApart", fn := fun _ => fun
  | [d1, d2] => { results := [.lit (.bool false)], args := [d1, d2] }
  | _ => none }
def PduApartWrongFalsely : Prop := pduApartRow.holds Tryd.pinned (OpenSpec.ofChange pduApartWrong)

/-- 'kilowattlaw19.PduAnswers': WHATEVER THE INPUT: true; the input reads as it did. -/
def pduAnswersSpec : ChangeSpec := { name := "pduAnswers", fn := fun _ => fun
  | [d1, d2, d3] => { results := [.lit (.bool true)], args := [d1, d2, d3] }
  | _ => none }
def pduAnswersRow : OpenClaim := { program := "ytflbiichdjhaeaadoor", sum := "abeefd7f8ebf1d01a6c91db6aef917203892840a1642a3e24628f3c7cc881cdc", func := "kilowatt/kilowattlaw19.PduAnswers", spec := "pduAnswers", unfollowed := true, recurses := true, named := ["kilowatt/pdu.limits"], apart := false, laid := [("kilowatt/pdu.limits", laid_kilowatt_pdu_limits)] }
def PduAnswersSaid : Prop := pduAnswersRow.holds Tryd.pinned (OpenSpec.ofChange pduAnswersSpec)

/-- ITS FALSE NEIGHBOUR: 'it returns false'. Refute it at one input. -/
def pduAnswersWrong : ChangeSpec := { name := "pduAnswers", fn := fun _ => fun
  | [d1, d2, d3] => { results := [.lit (.bool false)], args := [d1, d2, d3] }
  | _ => none }
def PduAnswersWrongFalsely : Prop := pduAnswersRow.holds Tryd.pinned (OpenSpec.ofChange pduAnswersWrong)

/-- 'kilowattlaw19.PduReplies': WHATEVER THE INPUT: true; the input reads as it did. -/
def pduRepliesSpec : ChangeSpec := { name := "pduReplies", fn := fun _ => fun
  | [d1, d2, d3] => { results := [.lit (.bool true)], args := [d1, d2, d3] }
  | _ => none }
def pduRepliesRow : OpenClaim := { program := "ytflbiichdjhaeaadoor", sum := "abeefd7f8ebf1d01a6c91db6aef917203892840a1642a3e24628f3c7cc881cdc", func := "kilowatt/kilowattlaw19.PduReplies", spec := "pduReplies", unfollowed := true, recurses := true, named := ["kilowatt/pdu.limits"], apart := false, laid := [("kilowatt/pdu.limits", laid_kilowatt_pdu_limits)] }
def PduRepliesSaid : Prop := pduRepliesRow.holds Tryd.pinned (OpenSpec.ofChange pduRepliesSpec)

/-- ITS FALSE NEIGHBOUR: 'it returns false'. Refute it at one input. -/
def pduRepliesWrong : ChangeSpec := { name := "pduReplies", fn := fun _ => fun
  | [d1, d2, d3] => { results := [.lit (.bool false)], args := [d1, d2, d3] }
  | _ => none }
def PduRepliesWrongFalsely : Prop := pduRepliesRow.holds Tryd.pinned (OpenSpec.ofChange pduRepliesWrong)

/-- 'kilowattlaw19.PduAsks': WHATEVER THE INPUT: true; the input reads as it did. -/
def pduAsksSpec : ChangeSpec := { name := "pduAsks", fn := fun _ => fun
  | [d1, d2] => { results := [.lit (.bool true)], args := [d1, d2] }
  | _ => none }
def pduAsksRow : OpenClaim := { program := "ytflbiichdjhaeaadoor", sum := "abeefd7f8ebf1d01a6c91db6aef917203892840a1642a3e24628f3c7cc881cdc", func := "kilowatt/kilowattlaw19.PduAsks", spec := "pduAsks", unfollowed := true, recurses := true, named := ["kilowatt/pdu.limits"], apart := false, laid := [("kilowatt/pdu.limits", laid_kilowatt_pdu_limits)] }
def PduAsksSaid : Prop := pduAsksRow.holds Tryd.pinned (OpenSpec.ofChange pduAsksSpec)

/-- ITS FALSE NEIGHBOUR: 'it returns false'. Refute it at one input. -/
def pduAsksWrong : ChangeSpec := { name := "pduAsks", fn := fun _ => fun
  | [d1, d2] => { results := [.lit (.bool false)], args := [d1, d2] }
  | _ => none }
def PduAsksWrongFalsely : Prop := pduAsksRow.holds Tryd.pinned (OpenSpec.ofChange pduAsksWrong)

/-- 'kilowattlaw19.PduBack': WHATEVER THE INPUT: true; the input reads as it did. -/
def pduBackSpec : ChangeSpec := { name := "pduBack", fn := fun _ => fun
  | [d1, d2] => { results := [.lit (.bool true)], args := [d1, d2] }
  | _ => none }
def pduBackRow : OpenClaim := { program := "ytflbiichdjhaeaadoor", sum := "abeefd7f8ebf1d01a6c91db6aef917203892840a1642a3e24628f3c7cc881cdc", func := "kilowatt/kilowattlaw19.PduBack", spec := "pduBack", unfollowed := true, recurses := true, named := ["kilowatt/pdu.limits"], apart := false, laid := [("kilowatt/pdu.limits", laid_kilowatt_pdu_limits)] }
def PduBackSaid : Prop := pduBackRow.holds Tryd.pinned (OpenSpec.ofChange pduBackSpec)

/-- ITS FALSE NEIGHBOUR: 'it returns false'. Refute it at one input. -/
def pduBackWrong : ChangeSpec := { name := "pduBack", fn := fun _ => fun
  | [d1, d2] => { results := [.lit (.bool false)], args := [d1, d2] }
  | _ => none }
def PduBackWrongFalsely : Prop := pduBackRow.holds Tryd.pinned (OpenSpec.ofChange pduBackWrong)

/-- 'kilowattlaw19.PduNames': WHATEVER THE INPUT: true; the input reads as it did. -/
def pduNamesSpec : ChangeSpec := { name := "pduNames", fn := fun _ => fun
  | [] => { results := [.lit (.bool true)], args := [] }
  | _ => none }
def pduNamesRow : OpenClaim := { program := "ytflbiichdjhaeaadoor", sum := "abeefd7f8ebf1d01a6c91db6aef917203892840a1642a3e24628f3c7cc881cdc", func := "kilowatt/kilowattlaw19.PduNames", spec := "pduNames", unfollowed := true, recurses := true, named := ["kilowatt/pdu.limits"], apart := false, laid := [("kilowatt/pdu.limits", laid_kilowatt_pdu_limits)] }
def PduNamesSaid : Prop := pduNamesRow.holds Tryd.pinned (OpenSpec.ofChange pduNamesSpec)

/-- ITS FALSE NEIGHBOUR: 'it returns false'. Refute it at one input. -/
def pduNamesWrong : ChangeSpec := { name := "pduNames", fn := fun _ => fun
  | [] => { results := [.lit (.bool false)], args := [] }
  | _ => none }
def PduNamesWrongFalsely : Prop := pduNamesRow.holds Tryd.pinned (OpenSpec.ofChange pduNamesWrong)

/- THE SECOND FORM. 'bulk': how many values and letters a reading holds, each counted each time it is reached (what is shared counts as often as it is met; a slice's spare places count too). A statement '..UptoSaid' is the law's where the arguments, and the package variables that the reading takes, are together of bulk at most 1048576: NARROWER than '..Said'. Prove '..Said' where nothing that the law and all that it calls make is longer than what came in: it says more and counts as full. Else prove '..UptoSaid'. A law counts once. -/
mutual
def uptoBulk {H : Type} : DataW H → Nat
  | .lit (.string bytes) => bytes.length + 1
  | .lit _ => 1
  | .nil => 1
  | .ptr d => uptoBulk d + 1
  | .slice elems spare => uptoBulkAll elems + uptoBulkAll spare + 1
  | .agg parts => uptoBulkAll parts + 1
  | .iface _ d => uptoBulk d + 1
  | .map entries => uptoBulkEntries entries + 1
  | .held _ => 1
def uptoBulkAll {H : Type} : List (DataW H) → Nat
  | [] => 0
  | d :: r => uptoBulk d + uptoBulkAll r
def uptoBulkEntries {H : Type} : List (Lit × DataW H) → Nat
  | [] => 0
  | x :: r => uptoBulkEntry x + uptoBulkEntries r
def uptoBulkEntry {H : Type} : Lit × DataW H → Nat
  | (.string bytes, d) => bytes.length + uptoBulk d + 1
  | (_, d) => uptoBulk d + 1
 end
def uptoSmall : (H : Type) → List (DataW H) → Bool := fun _ ds => decide (uptoBulkAll ds ≤ 1048576)
def OpenSpec.upto (s : _root_.Go.ChangeSpec) : _root_.Go.OpenSpec := { _root_.Go.OpenSpec.ofChange s with cond := some uptoSmall }

/-- 'kilowattlaw19.PduApart', WHERE WHAT IT READS IS OF BULK AT MOST 1048576: true; the input reads as it did. -/
def pduApartUptoRow : OpenClaim := { program := "ytflbiichdjhaeaadoor", sum := "abeefd7f8ebf1d01a6c91db6aef917203892840a1642a3e24628f3c7cc881cdc", func := "kilowatt/kilowattlaw19.PduApart", spec := "pduApart", unfollowed := true, recurses := true, named := ["kilowatt/pdu.limits"], apart := false, laid := [("kilowatt/pdu.limits", laid_kilowatt_pdu_limits)], narrowed := true }
def PduApartUptoSaid : Prop := pduApartUptoRow.holds Tryd.pinned (OpenSpec.upto pduApartSpec)

/-- 'kilowattlaw19.PduAnswers', WHERE WHAT IT READS IS OF BULK AT MOST 1048576: true; the input reads as it did. -/
def pduAnswersUptoRow : OpenClaim := { program := "ytflbiichdjhaeaadoor", sum := "abeefd7f8ebf1d01a6c91db6aef917203892840a1642a3e24628f3c7cc881cdc", func := "kilowatt/kilowattlaw19.PduAnswers", spec := "pduAnswers", unfollowed := true, recurses := true, named := ["kilowatt/pdu.limits"], apart := false, laid := [("kilowatt/pdu.limits", laid_kilowatt_pdu_limits)], narrowed := true }
def PduAnswersUptoSaid : Prop := pduAnswersUptoRow.holds Tryd.pinned (OpenSpec.upto pduAnswersSpec)

/-- 'kilowattlaw19.PduReplies', WHERE WHAT IT READS IS OF BULK AT MOST 1048576: true; the input reads as it did. -/
def pduRepliesUptoRow : OpenClaim := { program := "ytflbiichdjhaeaadoor", sum := "abeefd7f8ebf1d01a6c91db6aef917203892840a1642a3e24628f3c7cc881cdc", func := "kilowatt/kilowattlaw19.PduReplies", spec := "pduReplies", unfollowed := true, recurses := true, named := ["kilowatt/pdu.limits"], apart := false, laid := [("kilowatt/pdu.limits", laid_kilowatt_pdu_limits)], narrowed := true }
def PduRepliesUptoSaid : Prop := pduRepliesUptoRow.holds Tryd.pinned (OpenSpec.upto pduRepliesSpec)

/-- 'kilowattlaw19.PduAsks', WHERE WHAT IT READS IS OF BULK AT MOST 1048576: true; the input reads as it did. -/
def pduAsksUptoRow : OpenClaim := { program := "ytflbiichdjhaeaadoor", sum := "abeefd7f8ebf1d01a6c91db6aef917203892840a1642a3e24628f3c7cc881cdc", func := "kilowatt/kilowattlaw19.PduAsks", spec := "pduAsks", unfollowed := true, recurses := true, named := ["kilowatt/pdu.limits"], apart := false, laid := [("kilowatt/pdu.limits", laid_kilowatt_pdu_limits)], narrowed := true }
def PduAsksUptoSaid : Prop := pduAsksUptoRow.holds Tryd.pinned (OpenSpec.upto pduAsksSpec)

/-- 'kilowattlaw19.PduBack', WHERE WHAT IT READS IS OF BULK AT MOST 1048576: true; the input reads as it did. -/
def pduBackUptoRow : OpenClaim := { program := "ytflbiichdjhaeaadoor", sum := "abeefd7f8ebf1d01a6c91db6aef917203892840a1642a3e24628f3c7cc881cdc", func := "kilowatt/kilowattlaw19.PduBack", spec := "pduBack", unfollowed := true, recurses := true, named := ["kilowatt/pdu.limits"], apart := false, laid := [("kilowatt/pdu.limits", laid_kilowatt_pdu_limits)], narrowed := true }
def PduBackUptoSaid : Prop := pduBackUptoRow.holds Tryd.pinned (OpenSpec.upto pduBackSpec)

/-- 'kilowattlaw19.PduNames', WHERE WHAT IT READS IS OF BULK AT MOST 1048576: true; the input reads as it did. -/
def pduNamesUptoRow : OpenClaim := { program := "ytflbiichdjhaeaadoor", sum := "abeefd7f8ebf1d01a6c91db6aef917203892840a1642a3e24628f3c7cc881cdc", func := "kilowatt/kilowattlaw19.PduNames", spec := "pduNames", unfollowed := true, recurses := true, named := ["kilowatt/pdu.limits"], apart := false, laid := [("kilowatt/pdu.limits", laid_kilowatt_pdu_limits)], narrowed := true }
def PduNamesUptoSaid : Prop := pduNamesUptoRow.holds Tryd.pinned (OpenSpec.upto pduNamesSpec)

end Rows
end Go.Proofs.YtflbiichdjhaeaaDoor
