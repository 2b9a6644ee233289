/-
  NARROWER THAN 'FOR EVERY INPUT', by the rows' own cells (each row's printed sentence says how): BusPlays: laid · BusNames: laid · BusPieces: laid · BusActs: laid · BusRight: laid · PollerTurns: laid · PollerSilent: laid.
  DERIVED. THE GIVEN ROWS OF THIS SEAT. 7 by the template 'for every input the law returns true; each argument reads behind the call as it read before'; 0 by the template 'total and deterministic' (their statements: YtcipleanckeoaaaDoorTotals.lean).
  GIVEN WITH THE SEED: the statements are not yours to turn. If you find one false, say at which input.
  Laid BY PROGRAM, IN A SANDBOX (cutbox-rows.mjs): the forced cells as the released guide's own fill.sh prints them over the translation 940252de3fc25c39… (all of the seat's roots in one cut). By AI agents, Wed Nov 11 2026. No macro, syntax, notation, axiom, sorry.
-/
import Derived.Test.YtcipleanckeoaaaDoorChecked
import GoSem.Claim
import GoSem.ClaimJoined
import GoSem.ClaimMapViews
import Derived.JoinedTies
import Derived.KernelRfl
namespace Go.Proofs.YtcipleanckeoaaaDoor
/- THE CELL 'sum', in the pinned program and in every row, IS THE sha256 OF THE DUMP (.gsa) THAT YtcipleanckeoaaaDoorProg.lean LOADS. Nothing in Lean hashes anything: it is a label: what it is worth is what the hold of that sum in a sandbox is worth. -/
noncomputable def Tryd.pinned : Pinned := { name := "ytcipleanckeoaaadoor", sum := "940252de3fc25c39079ad9884792a6784b2ee8c72df2e0dc2e2d9f4752784d20", checked := Tryd.checked }
namespace Rows
def none {H : Type} : Left H := { results := [], args := [] }

/- WHAT THE LISTED PACKAGE-LEVEL VARIABLES READ AS WHEN THE CALL BEGINS. Each datum BY PROGRAM (the guide's laid-datum.mjs) off the statement by which the dump's own 'gosem.cut.vars' lays the variable. In a bare row this is a premise. The card (YtcipleanckeoaaaDoorCards.lean) ties it to the program's text. -/
def laid_kilowatt_pdu_limits {H : Type} : DataW H := .agg [.agg [.lit (.int .i64 1), .lit (.int .i64 2000), .lit (.int .i64 0), .lit (.int .i64 0)], .agg [.lit (.int .i64 2), .lit (.int .i64 2000), .lit (.int .i64 0), .lit (.int .i64 0)], .agg [.lit (.int .i64 3), .lit (.int .i64 125), .lit (.int .i64 0), .lit (.int .i64 0)], .agg [.lit (.int .i64 4), .lit (.int .i64 125), .lit (.int .i64 0), .lit (.int .i64 0)], .agg [.lit (.int .i64 5), .lit (.int .i64 0), .lit (.int .i64 1), .lit (.int .i64 0)], .agg [.lit (.int .i64 6), .lit (.int .i64 0), .lit (.int .i64 0), .lit (.int .i64 1)], .agg [.lit (.int .i64 15), .lit (.int .i64 0), .lit (.int .i64 1968), .lit (.int .i64 0)], .agg [.lit (.int .i64 16), .lit (.int .i64 0), .lit (.int .i64 0), .lit (.int .i64 123)], .agg [.lit (.int .i64 23), .lit (.int .i64 125), .lit (.int .i64 0), .lit (.int .i64 121)]]
def laid_kilowatt_bus_names {H : Type} : DataW H := .agg [.lit (.string []), .lit (.string [114, 105, 103, 104, 116]), .lit (.string [114, 101, 102, 117, 115, 101]), .lit (.string [115, 105, 108, 101, 110, 116]), .lit (.string [99, 117, 116]), .lit (.string [115, 112, 111, 105, 108]), .lit (.string [111, 116, 104, 101, 114]), .lit (.string [110, 111, 105, 115, 101])]
def laid_math_bits_deBruijn32tab {H : Type} : DataW H := .agg [.lit (.int .u8 0), .lit (.int .u8 1), .lit (.int .u8 28), .lit (.int .u8 2), .lit (.int .u8 29), .lit (.int .u8 14), .lit (.int .u8 24), .lit (.int .u8 3), .lit (.int .u8 30), .lit (.int .u8 22), .lit (.int .u8 20), .lit (.int .u8 15), .lit (.int .u8 25), .lit (.int .u8 17), .lit (.int .u8 4), .lit (.int .u8 8), .lit (.int .u8 31), .lit (.int .u8 27), .lit (.int .u8 13), .lit (.int .u8 23), .lit (.int .u8 21), .lit (.int .u8 19), .lit (.int .u8 16), .lit (.int .u8 7), .lit (.int .u8 26), .lit (.int .u8 12), .lit (.int .u8 18), .lit (.int .u8 6), .lit (.int .u8 11), .lit (.int .u8 5), .lit (.int .u8 10), .lit (.int .u8 9)]
def laid_math_bits_deBruijn64tab {H : Type} : DataW H := .agg [.lit (.int .u8 0), .lit (.int .u8 1), .lit (.int .u8 56), .lit (.int .u8 2), .lit (.int .u8 57), .lit (.int .u8 49), .lit (.int .u8 28), .lit (.int .u8 3), .lit (.int .u8 61), .lit (.int .u8 58), .lit (.int .u8 42), .lit (.int .u8 50), .lit (.int .u8 38), .lit (.int .u8 29), .lit (.int .u8 17), .lit (.int .u8 4), .lit (.int .u8 62), .lit (.int .u8 47), .lit (.int .u8 59), .lit (.int .u8 36), .lit (.int .u8 45), .lit (.int .u8 43), .lit (.int .u8 51), .lit (.int .u8 22), .lit (.int .u8 53), .lit (.int .u8 39), .lit (.int .u8 33), .lit (.int .u8 30), .lit (.int .u8 24), .lit (.int .u8 18), .lit (.int .u8 12), .lit (.int .u8 5), .lit (.int .u8 63), .lit (.int .u8 55), .lit (.int .u8 48), .lit (.int .u8 27), .lit (.int .u8 60), .lit (.int .u8 41), .lit (.int .u8 37), .lit (.int .u8 16), .lit (.int .u8 46), .lit (.int .u8 35), .lit (.int .u8 44), .lit (.int .u8 21), .lit (.int .u8 52), .lit (.int .u8 32), .lit (.int .u8 23), .lit (.int .u8 11), .lit (.int .u8 54), .lit (.int .u8 26), .lit (.int .u8 40), .lit (.int .u8 15), .lit (.int .u8 34), .lit (.int .u8 20), .lit (.int .u8 31), .lit (.int .u8 10), .lit (.int .u8 25), .lit (.int .u8 14), .lit (.int .u8 19), .lit (.int .u8 9), .lit (.int .u8 13), .lit (.int .u8 8), .lit (.int .u8 7), .lit (.int .u8 6)]
def laid_internal_strconv_uint64pow10 {H : Type} : DataW H := .agg [.lit (.int .u64 1), .lit (.int .u64 10), .lit (.int .u64 100), .lit (.int .u64 1000), .lit (.int .u64 10000), .lit (.int .u64 100000), .lit (.int .u64 1000000), .lit (.int .u64 10000000), .lit (.int .u64 100000000), .lit (.int .u64 1000000000), .lit (.int .u64 10000000000), .lit (.int .u64 100000000000), .lit (.int .u64 1000000000000), .lit (.int .u64 10000000000000), .lit (.int .u64 100000000000000), .lit (.int .u64 1000000000000000), .lit (.int .u64 10000000000000000), .lit (.int .u64 100000000000000000), .lit (.int .u64 1000000000000000000), .lit (.int .u64 10000000000000000000)]

/-- 'kilowattlaw22.BusPlays': WHATEVER THE INPUT: true; the input reads as it did. -/
def busPlaysSpec : ChangeSpec := { name := "busPlays", fn := fun _ => fun
  | [d1, d2, d3] => { results := [.lit (.bool true)], args := [d1, d2, d3] }
  | _ => none }
def busPlaysRow : OpenClaim := { program := "ytcipleanckeoaaadoor", sum := "940252de3fc25c39079ad9884792a6784b2ee8c72df2e0dc2e2d9f4752784d20", func := "kilowatt/kilowattlaw22.BusPlays", spec := "busPlays", unfollowed := true, recurses := true, named := ["kilowatt/bus.names", "kilowatt/pdu.limits"], apart := false, laid := [("kilowatt/pdu.limits", laid_kilowatt_pdu_limits), ("kilowatt/bus.names", laid_kilowatt_bus_names)] }
def BusPlaysSaid : Prop := busPlaysRow.holds Tryd.pinned (OpenSpec.ofChange busPlaysSpec)

/-- ITS FALSE NEIGHBOUR: 'it returns false'. Refute it at one input. -/
def busPlaysWrong : ChangeSpec := { name := "busPlays", fn := fun _ => fun
  | [d1, d2, d3] => { results := [.lit (.bool false)], args := [d1, d2, d3] }
  | _ => none }
def BusPlaysWrongFalsely : Prop := busPlaysRow.holds Tryd.pinned (OpenSpec.ofChange busPlaysWrong)

/-- 'kilowattlaw22.BusNames': WHATEVER THE INPUT: true; the input reads as it did. -/
def busNamesSpec : ChangeSpec := { name := "busNames", fn := fun _ => fun
  | [] => { results := [.lit (.bool true)], args := [] }
  | _ => none }
def busNamesRow : OpenClaim := { program := "ytcipleanckeoaaadoor", sum := "940252de3fc25c39079ad9884792a6784b2ee8c72df2e0dc2e2d9f4752784d20", func := "kilowatt/kilowattlaw22.BusNames", spec := "busNames", unfollowed := true, recurses := true, named := ["kilowatt/pdu.limits", "kilowatt/bus.names", "internal/strconv.uint64pow10", "math/bits.deBruijn32tab", "math/bits.deBruijn64tab"], apart := false, laid := [("math/bits.deBruijn32tab", laid_math_bits_deBruijn32tab), ("math/bits.deBruijn64tab", laid_math_bits_deBruijn64tab), ("internal/strconv.uint64pow10", laid_internal_strconv_uint64pow10), ("kilowatt/pdu.limits", laid_kilowatt_pdu_limits), ("kilowatt/bus.names", laid_kilowatt_bus_names)] }
def BusNamesSaid : Prop := busNamesRow.holds Tryd.pinned (OpenSpec.ofChange busNamesSpec)

/-- ITS FALSE NEIGHBOUR: 'it returns false'. Refute it at one input. -/
def busNamesWrong : ChangeSpec := { name := "busNames", fn := fun _ => fun
  | [] => { results := [.lit (.bool false)], args := [] }
  | _ => none }
def BusNamesWrongFalsely : Prop := busNamesRow.holds Tryd.pinned (OpenSpec.ofChange busNamesWrong)

/-- 'kilowattlaw22.BusPieces': WHATEVER THE INPUT: true; the input reads as it did. -/
def busPiecesSpec : ChangeSpec := { name := "busPieces", fn := fun _ => fun
  | [d1, d2, d3] => { results := [.lit (.bool true)], args := [d1, d2, d3] }
  | _ => none }
def busPiecesRow : OpenClaim := { program := "ytcipleanckeoaaadoor", sum := "940252de3fc25c39079ad9884792a6784b2ee8c72df2e0dc2e2d9f4752784d20", func := "kilowatt/kilowattlaw22.BusPieces", spec := "busPieces", unfollowed := true, recurses := true, named := ["kilowatt/pdu.limits", "kilowatt/bus.names"], apart := false, laid := [("kilowatt/pdu.limits", laid_kilowatt_pdu_limits), ("kilowatt/bus.names", laid_kilowatt_bus_names)] }
def BusPiecesSaid : Prop := busPiecesRow.holds Tryd.pinned (OpenSpec.ofChange busPiecesSpec)

/-- ITS FALSE NEIGHBOUR: 'it returns false'. Refute it at one input. -/
def busPiecesWrong : ChangeSpec := { name := "busPieces", fn := fun _ => fun
  | [d1, d2, d3] => { results := [.lit (.bool false)], args := [d1, d2, d3] }
  | _ => none }
def BusPiecesWrongFalsely : Prop := busPiecesRow.holds Tryd.pinned (OpenSpec.ofChange busPiecesWrong)

/-- 'kilowattlaw22.BusActs': WHATEVER THE INPUT: true; the input reads as it did. -/
def busActsSpec : ChangeSpec := { name := "busActs", fn := fun _ => fun
  | [d1, d2, d3] => { results := [.lit (.bool true)], args := [d1, d2, d3] }
  | _ => none }
def busActsRow : OpenClaim := { program := "ytcipleanckeoaaadoor", sum := "940252de3fc25c39079ad9884792a6784b2ee8c72df2e0dc2e2d9f4752784d20", func := "kilowatt/kilowattlaw22.BusActs", spec := "busActs", unfollowed := true, recurses := true, named := ["kilowatt/bus.names", "internal/strconv.uint64pow10", "math/bits.deBruijn32tab", "math/bits.deBruijn64tab", "kilowatt/pdu.limits"], apart := false, laid := [("math/bits.deBruijn32tab", laid_math_bits_deBruijn32tab), ("math/bits.deBruijn64tab", laid_math_bits_deBruijn64tab), ("internal/strconv.uint64pow10", laid_internal_strconv_uint64pow10), ("kilowatt/pdu.limits", laid_kilowatt_pdu_limits), ("kilowatt/bus.names", laid_kilowatt_bus_names)] }
def BusActsSaid : Prop := busActsRow.holds Tryd.pinned (OpenSpec.ofChange busActsSpec)

/-- ITS FALSE NEIGHBOUR: 'it returns false'. Refute it at one input. -/
def busActsWrong : ChangeSpec := { name := "busActs", fn := fun _ => fun
  | [d1, d2, d3] => { results := [.lit (.bool false)], args := [d1, d2, d3] }
  | _ => none }
def BusActsWrongFalsely : Prop := busActsRow.holds Tryd.pinned (OpenSpec.ofChange busActsWrong)

/-- 'kilowattlaw22.BusRight': WHATEVER THE INPUT: true; the input reads as it did. -/
def busRightSpec : ChangeSpec := { name := "busRight", fn := fun _ => fun
  | [d1, d2, d3, d4, d5] => { results := [.lit (.bool true)], args := [d1, d2, d3, d4, d5] }
  | _ => none }
def busRightRow : OpenClaim := { program := "ytcipleanckeoaaadoor", sum := "940252de3fc25c39079ad9884792a6784b2ee8c72df2e0dc2e2d9f4752784d20", func := "kilowatt/kilowattlaw22.BusRight", spec := "busRight", unfollowed := true, recurses := true, named := ["kilowatt/pdu.limits", "kilowatt/bus.names"], apart := false, laid := [("kilowatt/pdu.limits", laid_kilowatt_pdu_limits), ("kilowatt/bus.names", laid_kilowatt_bus_names)] }
def BusRightSaid : Prop := busRightRow.holds Tryd.pinned (OpenSpec.ofChange busRightSpec)

/-- ITS FALSE NEIGHBOUR: 'it returns false'. Refute it at one input. -/
def busRightWrong : ChangeSpec := { name := "busRight", fn := fun _ => fun
  | [d1, d2, d3, d4, d5] => { results := [.lit (.bool false)], args := [d1, d2, d3, d4, d5] }
  | _ => none }
def BusRightWrongFalsely : Prop := busRightRow.holds Tryd.pinned (OpenSpec.ofChange busRightWrong)

/-- 'kilowattlaw23.PollerTurns': WHATEVER THE INPUT: true; the input reads as it did. -/
def pollerTurnsSpec : ChangeSpec := { name := "pollerTurns", fn := fun _ => fun
  | [d1, d2] => { results := [.lit (.bool true)], args := [d1, d2] }
  | _ => none }
def pollerTurnsRow : OpenClaim := { program := "ytcipleanckeoaaadoor", sum := "940252de3fc25c39079ad9884792a6784b2ee8c72df2e0dc2e2d9f4752784d20", func := "kilowatt/kilowattlaw23.PollerTurns", spec := "pollerTurns", unfollowed := true, recurses := true, named := ["kilowatt/pdu.limits"], apart := false, laid := [("kilowatt/pdu.limits", laid_kilowatt_pdu_limits)] }
def PollerTurnsSaid : Prop := pollerTurnsRow.holds Tryd.pinned (OpenSpec.ofChange pollerTurnsSpec)

/-- ITS FALSE NEIGHBOUR: 'it returns false'. Refute it at one input. -/
def pollerTurnsWrong : ChangeSpec := { name := "pollerTurns", fn := fun _ => fun
  | [d1, d2] => { results := [.lit (.bool false)], args := [d1, d2] }
  | _ => none }
def PollerTurnsWrongFalsely : Prop := pollerTurnsRow.holds Tryd.pinned (OpenSpec.ofChange pollerTurnsWrong)

/-- 'kilowattlaw23.PollerSilent': WHATEVER THE INPUT: true; the input reads as it did. -/
def pollerSilentSpec : ChangeSpec := { name := "pollerSilent", fn := fun _ => fun
  | [d1, d2] => { results := [.lit (.bool true)], args := [d1, d2] }
  | _ => none }
def pollerSilentRow : OpenClaim := { program := "ytcipleanckeoaaadoor", sum := "940252de3fc25c39079ad9884792a6784b2ee8c72df2e0dc2e2d9f4752784d20", func := "kilowatt/kilowattlaw23.PollerSilent", spec := "pollerSilent", unfollowed := true, recurses := true, named := ["kilowatt/pdu.limits"], apart := false, laid := [("kilowatt/pdu.limits", laid_kilowatt_pdu_limits)] }
def PollerSilentSaid : Prop := pollerSilentRow.holds Tryd.pinned (OpenSpec.ofChange pollerSilentSpec)

/-- ITS FALSE NEIGHBOUR: 'it returns false'. Refute it at one input. -/
def pollerSilentWrong : ChangeSpec := { name := "pollerSilent", fn := fun _ => fun
  | [d1, d2] => { results := [.lit (.bool false)], args := [d1, d2] }
  | _ => none }
def PollerSilentWrongFalsely : Prop := pollerSilentRow.holds Tryd.pinned (OpenSpec.ofChange pollerSilentWrong)

/- THE SECOND FORM. 'bulk': how many values and letters a reading holds, each counted each time it is reached (what is shared counts as often as it is met; a slice's spare places count too). A statement '..UptoSaid' is the law's where the arguments, and the package variables that the reading takes, are together of bulk at most 1048576: NARROWER than '..Said'. Prove '..Said' where nothing that the law and all that it calls make is longer than what came in: it says more and counts as full. Else prove '..UptoSaid'. A law counts once. -/
mutual
def uptoBulk {H : Type} : DataW H → Nat
  | .lit (.string bytes) => bytes.length + 1
  | .lit _ => 1
  | .nil => 1
  | .ptr d => uptoBulk d + 1
  | .slice elems spare => uptoBulkAll elems + uptoBulkAll spare + 1
  | .agg parts => uptoBulkAll parts + 1
  | .iface _ d => uptoBulk d + 1
  | .map entries => uptoBulkEntries entries + 1
  | .held _ => 1
def uptoBulkAll {H : Type} : List (DataW H) → Nat
  | [] => 0
  | d :: r => uptoBulk d + uptoBulkAll r
def uptoBulkEntries {H : Type} : List (Lit × DataW H) → Nat
  | [] => 0
  | x :: r => uptoBulkEntry x + uptoBulkEntries r
def uptoBulkEntry {H : Type} : Lit × DataW H → Nat
  | (.string bytes, d) => bytes.length + uptoBulk d + 1
  | (_, d) => uptoBulk d + 1
 end
def uptoSmall : (H : Type) → List (DataW H) → Bool := fun _ ds => decide (uptoBulkAll ds ≤ 1048576)
def OpenSpec.upto (s : _root_.Go.ChangeSpec) : _root_.Go.OpenSpec := { _root_.Go.OpenSpec.ofChange s with cond := some uptoSmall }

/-- 'kilowattlaw22.BusPlays', WHERE WHAT IT READS IS OF BULK AT MOST 1048576: true; the input reads as it did. -/
def busPlaysUptoRow : OpenClaim := { program := "ytcipleanckeoaaadoor", sum := "940252de3fc25c39079ad9884792a6784b2ee8c72df2e0dc2e2d9f4752784d20", func := "kilowatt/kilowattlaw22.BusPlays", spec := "busPlays", unfollowed := true, recurses := true, named := ["kilowatt/bus.names", "kilowatt/pdu.limits"], apart := false, laid := [("kilowatt/pdu.limits", laid_kilowatt_pdu_limits), ("kilowatt/bus.names", laid_kilowatt_bus_names)], narrowed := true }
def BusPlaysUptoSaid : Prop := busPlaysUptoRow.holds Tryd.pinned (OpenSpec.upto busPlaysSpec)

/-- 'kilowattlaw22.BusNames', WHERE WHAT IT READS IS OF BULK AT MOST 1048576: true; the input reads as it did. -/
def busNamesUptoRow : OpenClaim := { program := "ytcipleanckeoaaadoor", sum := "940252de3fc25c39079ad9884792a6784b2ee8c72df2e0dc2e2d9f4752784d20", func := "kilowatt/kilowattlaw22.BusNames", spec := "busNames", unfollowed := true, recurses := true, named := ["kilowatt/pdu.limits", "kilowatt/bus.names", "internal/strconv.uint64pow10", "math/bits.deBruijn32tab", "math/bits.deBruijn64tab"], apart := false, laid := [("math/bits.deBruijn32tab", laid_math_bits_deBruijn32tab), ("math/bits.deBruijn64tab", laid_math_bits_deBruijn64tab), ("internal/strconv.uint64pow10", laid_internal_strconv_uint64pow10), ("kilowatt/pdu.limits", laid_kilowatt_pdu_limits), ("kilowatt/bus.names", laid_kilowatt_bus_names)], narrowed := true }
def BusNamesUptoSaid : Prop := busNamesUptoRow.holds Tryd.pinned (OpenSpec.upto busNamesSpec)

/-- 'kilowattlaw22.BusPieces', WHERE WHAT IT READS IS OF BULK AT MOST 1048576: true; the input reads as it did. -/
def busPiecesUptoRow : OpenClaim := { program := "ytcipleanckeoaaadoor", sum := "940252de3fc25c39079ad9884792a6784b2ee8c72df2e0dc2e2d9f4752784d20", func := "kilowatt/kilowattlaw22.BusPieces", spec := "busPieces", unfollowed := true, recurses := true, named := ["kilowatt/pdu.limits", "kilowatt/bus.names"], apart := false, laid := [("kilowatt/pdu.limits", laid_kilowatt_pdu_limits), ("kilowatt/bus.names", laid_kilowatt_bus_names)], narrowed := true }
def BusPiecesUptoSaid : Prop := busPiecesUptoRow.holds Tryd.pinned (OpenSpec.upto busPiecesSpec)

/-- 'kilowattlaw22.BusActs', WHERE WHAT IT READS IS OF BULK AT MOST 1048576: true; the input reads as it did. -/
def busActsUptoRow : OpenClaim := { program := "ytcipleanckeoaaadoor", sum := "940252de3fc25c39079ad9884792a6784b2ee8c72df2e0dc2e2d9f4752784d20", func := "kilowatt/kilowattlaw22.BusActs", spec := "busActs", unfollowed := true, recurses := true, named := ["kilowatt/bus.names", "internal/strconv.uint64pow10", "math/bits.deBruijn32tab", "math/bits.deBruijn64tab", "kilowatt/pdu.limits"], apart := false, laid := [("math/bits.deBruijn32tab", laid_math_bits_deBruijn32tab), ("math/bits.deBruijn64tab", laid_math_bits_deBruijn64tab), ("internal/strconv.uint64pow10", laid_internal_strconv_uint64pow10), ("kilowatt/pdu.limits", laid_kilowatt_pdu_limits), ("kilowatt/bus.names", laid_kilowatt_bus_names)], narrowed := true }
def BusActsUptoSaid : Prop := busActsUptoRow.holds Tryd.pinned (OpenSpec.upto busActsSpec)

/-- 'kilowattlaw22.BusRight', WHERE WHAT IT READS IS OF BULK AT MOST 1048576: true; the input reads as it did. -/
def busRightUptoRow : OpenClaim := { program := "ytcipleanckeoaaadoor", sum := "940252de3fc25c39079ad9884792a6784b2ee8c72df2e0dc2e2d9f4752784d20", func := "kilowatt/kilowattlaw22.BusRight", spec := "busRight", unfollowed := true, recurses := true, named := ["kilowatt/pdu.limits", "kilowatt/bus.names"], apart := false, laid := [("kilowatt/pdu.limits", laid_kilowatt_pdu_limits), ("kilowatt/bus.names", laid_kilowatt_bus_names)], narrowed := true }
def BusRightUptoSaid : Prop := busRightUptoRow.holds Tryd.pinned (OpenSpec.upto busRightSpec)

/-- 'kilowattlaw23.PollerTurns', WHERE WHAT IT READS IS OF BULK AT MOST 1048576: true; the input reads as it did. -/
def pollerTurnsUptoRow : OpenClaim := { program := "ytcipleanckeoaaadoor", sum := "940252de3fc25c39079ad9884792a6784b2ee8c72df2e0dc2e2d9f4752784d20", func := "kilowatt/kilowattlaw23.PollerTurns", spec := "pollerTurns", unfollowed := true, recurses := true, named := ["kilowatt/pdu.limits"], apart := false, laid := [("kilowatt/pdu.limits", laid_kilowatt_pdu_limits)], narrowed := true }
def PollerTurnsUptoSaid : Prop := pollerTurnsUptoRow.holds Tryd.pinned (OpenSpec.upto pollerTurnsSpec)

/-- 'kilowattlaw23.PollerSilent', WHERE WHAT IT READS IS OF BULK AT MOST 1048576: true; the input reads as it did. -/
def pollerSilentUptoRow : OpenClaim := { program := "ytcipleanckeoaaadoor", sum := "940252de3fc25c39079ad9884792a6784b2ee8c72df2e0dc2e2d9f4752784d20", func := "kilowatt/kilowattlaw23.PollerSilent", spec := "pollerSilent", unfollowed := true, recurses := true, named := ["kilowatt/pdu.limits"], apart := false, laid := [("kilowatt/pdu.limits", laid_kilowatt_pdu_limits)], narrowed := true }
def PollerSilentUptoSaid : Prop := pollerSilentUptoRow.holds Tryd.pinned (OpenSpec.upto pollerSilentSpec)

end Rows
end Go.Proofs.YtcipleanckeoaaaDoor
