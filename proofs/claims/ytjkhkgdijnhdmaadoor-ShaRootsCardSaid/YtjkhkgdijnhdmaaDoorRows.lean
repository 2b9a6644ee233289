/-
  NARROWER THAN 'FOR EVERY INPUT', by the rows' own cells (each row's printed sentence says how): ShaPlays: laid · ShaRoots: laid · ShaPieces: laid · ShaCopies: laid · ShaBack: laid · ShaNames: laid · MacTags: laid · MacKeys: laid · MacPieces: laid · MacNames: laid.
  DERIVED. THE GIVEN ROWS OF THIS SEAT. 10 by the template 'for every input the law returns true; each argument reads behind the call as it read before'; 0 by the template 'total and deterministic' (their statements: YtjkhkgdijnhdmaaDoorTotals.lean).
  GIVEN WITH THE SEED: the statements are not yours to turn. If you find one false, say at which input.
  Laid BY PROGRAM, IN A SANDBOX (cutbox-rows.mjs): the forced cells as the released guide's own fill.sh prints them over the translation 13a4bd92ab3cdf90… (all of the seat's roots in one cut). By AI agents, Wed Nov 11 2026. No macro, syntax, notation, axiom, sorry.
-/
import Derived.Test.YtjkhkgdijnhdmaaDoorChecked
import GoSem.Claim
import GoSem.ClaimJoined
import GoSem.ClaimMapViews
import Derived.JoinedTies
import Derived.KernelRfl
namespace Go.Proofs.YtjkhkgdijnhdmaaDoor
/- THE CELL 'sum', in the pinned program and in every row, IS THE sha256 OF THE DUMP (.gsa) THAT YtjkhkgdijnhdmaaDoorProg.lean LOADS. Nothing in Lean hashes anything: it is a label: what it is worth is what the hold of that sum in a sandbox is worth. -/
noncomputable def Tryd.pinned : Pinned := { name := "ytjkhkgdijnhdmaadoor", sum := "13a4bd92ab3cdf903e3168e63f78649e962733171f219df20547ab46d5e062ae", checked := Tryd.checked }
namespace Rows
def none {H : Type} : Left H := { results := [], args := [] }

/- WHAT THE LISTED PACKAGE-LEVEL VARIABLES READ AS WHEN THE CALL BEGINS. Each datum BY PROGRAM (the guide's laid-datum.mjs) off the statement by which the dump's own 'gosem.cut.vars' lays the variable. In a bare row this is a premise. The card (YtjkhkgdijnhdmaaDoorCards.lean) ties it to the program's text. -/
def laid_kilowatt_sha_k {H : Type} : DataW H := .agg [.lit (.int .u32 1116352408), .lit (.int .u32 1899447441), .lit (.int .u32 3049323471), .lit (.int .u32 3921009573), .lit (.int .u32 961987163), .lit (.int .u32 1508970993), .lit (.int .u32 2453635748), .lit (.int .u32 2870763221), .lit (.int .u32 3624381080), .lit (.int .u32 310598401), .lit (.int .u32 607225278), .lit (.int .u32 1426881987), .lit (.int .u32 1925078388), .lit (.int .u32 2162078206), .lit (.int .u32 2614888103), .lit (.int .u32 3248222580), .lit (.int .u32 3835390401), .lit (.int .u32 4022224774), .lit (.int .u32 264347078), .lit (.int .u32 604807628), .lit (.int .u32 770255983), .lit (.int .u32 1249150122), .lit (.int .u32 1555081692), .lit (.int .u32 1996064986), .lit (.int .u32 2554220882), .lit (.int .u32 2821834349), .lit (.int .u32 2952996808), .lit (.int .u32 3210313671), .lit (.int .u32 3336571891), .lit (.int .u32 3584528711), .lit (.int .u32 113926993), .lit (.int .u32 338241895), .lit (.int .u32 666307205), .lit (.int .u32 773529912), .lit (.int .u32 1294757372), .lit (.int .u32 1396182291), .lit (.int .u32 1695183700), .lit (.int .u32 1986661051), .lit (.int .u32 2177026350), .lit (.int .u32 2456956037), .lit (.int .u32 2730485921), .lit (.int .u32 2820302411), .lit (.int .u32 3259730800), .lit (.int .u32 3345764771), .lit (.int .u32 3516065817), .lit (.int .u32 3600352804), .lit (.int .u32 4094571909), .lit (.int .u32 275423344), .lit (.int .u32 430227734), .lit (.int .u32 506948616), .lit (.int .u32 659060556), .lit (.int .u32 883997877), .lit (.int .u32 958139571), .lit (.int .u32 1322822218), .lit (.int .u32 1537002063), .lit (.int .u32 1747873779), .lit (.int .u32 1955562222), .lit (.int .u32 2024104815), .lit (.int .u32 2227730452), .lit (.int .u32 2361852424), .lit (.int .u32 2428436474), .lit (.int .u32 2756734187), .lit (.int .u32 3204031479), .lit (.int .u32 3329325298)]
def laid_kilowatt_sha_first {H : Type} : DataW H := .agg [.lit (.int .u32 1779033703), .lit (.int .u32 3144134277), .lit (.int .u32 1013904242), .lit (.int .u32 2773480762), .lit (.int .u32 1359893119), .lit (.int .u32 2600822924), .lit (.int .u32 528734635), .lit (.int .u32 1541459225)]

/-- 'kilowattlaw04.ShaPlays': WHATEVER THE INPUT: true; the input reads as it did. -/
def shaPlaysSpec : ChangeSpec := { name := "shaPlays", fn := fun _ => fun
  | [d] => { results := [.lit (.bool true)], args := [d] }
  | _ => none }
def shaPlaysRow : OpenClaim := { program := "ytjkhkgdijnhdmaadoor", sum := "13a4bd92ab3cdf903e3168e63f78649e962733171f219df20547ab46d5e062ae", func := "kilowatt/kilowattlaw04.ShaPlays", spec := "shaPlays", unfollowed := true, recurses := true, named := ["kilowatt/sha.first", "kilowatt/sha.k"], apart := false, laid := [("kilowatt/sha.k", laid_kilowatt_sha_k), ("kilowatt/sha.first", laid_kilowatt_sha_first)] }
def ShaPlaysSaid : Prop := shaPlaysRow.holds Tryd.pinned (OpenSpec.ofChange shaPlaysSpec)

/-- ITS FALSE NEIGHBOUR: 'it returns false'. Refute it at one input. -/
def shaPlaysWrong : ChangeSpec := { name := "shaPlays", fn := fun _ => fun
  | [d] => { results := [.lit (.bool false)], args := [d] }
  | _ => none }
def ShaPlaysWrongFalsely : Prop := shaPlaysRow.holds Tryd.pinned (OpenSpec.ofChange shaPlaysWrong)

/-- 'kilowattlaw04.ShaRoots': WHATEVER THE INPUT: true; the input reads as it did. -/
def shaRootsSpec : ChangeSpec := { name := "shaRoots", fn := fun _ => fun
  | [] => { results := [.lit (.bool true)], args := [] }
  | _ => none }
def shaRootsRow : OpenClaim := { program := "ytjkhkgdijnhdmaadoor", sum := "13a4bd92ab3cdf903e3168e63f78649e962733171f219df20547ab46d5e062ae", func := "kilowatt/kilowattlaw04.ShaRoots", spec := "shaRoots", inPlace := ["internal/abi.NoEscape"], unfollowed := true, recurses := true, named := ["kilowatt/sha.first", "kilowatt/sha.k"], apart := false, laid := [("kilowatt/sha.k", laid_kilowatt_sha_k), ("kilowatt/sha.first", laid_kilowatt_sha_first)] }
def ShaRootsSaid : Prop := shaRootsRow.holds Tryd.pinned (OpenSpec.ofChange shaRootsSpec)

/-- ITS FALSE NEIGHBOUR: 'it returns false'. Refute it at one input. -/
def shaRootsWrong : ChangeSpec := { name := "shaRoots", fn := fun _ => fun
  | [] => { results := [.lit (.bool false)], args := [] }
  | _ => none }
def ShaRootsWrongFalsely : Prop := shaRootsRow.holds Tryd.pinned (OpenSpec.ofChange shaRootsWrong)

/-- 'kilowattlaw04.ShaPieces': WHATEVER THE INPUT: true; the input reads as it did. -/
def shaPiecesSpec : ChangeSpec := { name := "shaPieces", fn := fun _ => fun
  | [d1, d2] => { results := [.lit (.bool true)], args := [d1, d2] }
  | _ => none }
def shaPiecesRow : OpenClaim := { program := "ytjkhkgdijnhdmaadoor", sum := "13a4bd92ab3cdf903e3168e63f78649e962733171f219df20547ab46d5e062ae", func := "kilowatt/kilowattlaw04.ShaPieces", spec := "shaPieces", inPlace := ["internal/abi.NoEscape"], unfollowed := true, recurses := true, named := ["kilowatt/sha.first", "kilowatt/sha.k"], apart := false, laid := [("kilowatt/sha.k", laid_kilowatt_sha_k), ("kilowatt/sha.first", laid_kilowatt_sha_first)] }
def ShaPiecesSaid : Prop := shaPiecesRow.holds Tryd.pinned (OpenSpec.ofChange shaPiecesSpec)

/-- ITS FALSE NEIGHBOUR: 'it returns false'. Refute it at one input. -/
def shaPiecesWrong : ChangeSpec := { name := "shaPieces", fn := fun _ => fun
  | [d1, d2] => { results := [.lit (.bool false)], args := [d1, d2] }
  | _ => none }
def ShaPiecesWrongFalsely : Prop := shaPiecesRow.holds Tryd.pinned (OpenSpec.ofChange shaPiecesWrong)

/-- 'kilowattlaw04.ShaCopies': WHATEVER THE INPUT: true; the input reads as it did. -/
def shaCopiesSpec : ChangeSpec := { name := "shaCopies", fn := fun _ => fun
  | [d1, d2, d3] => { results := [.lit (.bool true)], args := [d1, d2, d3] }
  | _ => none }
def shaCopiesRow : OpenClaim := { program := "ytjkhkgdijnhdmaadoor", sum := "13a4bd92ab3cdf903e3168e63f78649e962733171f219df20547ab46d5e062ae", func := "kilowatt/kilowattlaw04.ShaCopies", spec := "shaCopies", inPlace := ["internal/abi.NoEscape"], unfollowed := true, recurses := true, named := ["kilowatt/sha.first", "kilowatt/sha.k"], apart := false, laid := [("kilowatt/sha.k", laid_kilowatt_sha_k), ("kilowatt/sha.first", laid_kilowatt_sha_first)] }
def ShaCopiesSaid : Prop := shaCopiesRow.holds Tryd.pinned (OpenSpec.ofChange shaCopiesSpec)

/-- ITS FALSE NEIGHBOUR: 'it returns false'. Refute it at one input. -/
def shaCopiesWrong : ChangeSpec := { name := "shaCopies", fn := fun _ => fun
  | [d1, d2, d3] => { results := [.lit (.bool false)], args := [d1, d2, d3] }
  | _ => none }
def ShaCopiesWrongFalsely : Prop := shaCopiesRow.holds Tryd.pinned (OpenSpec.ofChange shaCopiesWrong)

/-- 'kilowattlaw04.ShaBack': WHATEVER THE INPUT: true; the input reads as it did. -/
def shaBackSpec : ChangeSpec := { name := "shaBack", fn := fun _ => fun
  | [d1, d2] => { results := [.lit (.bool true)], args := [d1, d2] }
  | _ => none }
def shaBackRow : OpenClaim := { program := "ytjkhkgdijnhdmaadoor", sum := "13a4bd92ab3cdf903e3168e63f78649e962733171f219df20547ab46d5e062ae", func := "kilowatt/kilowattlaw04.ShaBack", spec := "shaBack", inPlace := ["internal/abi.NoEscape", "internal/bytealg.IndexByteString"], unfollowed := true, recurses := true, named := ["kilowatt/sha.first", "kilowatt/sha.k"], apart := false, laid := [("kilowatt/sha.k", laid_kilowatt_sha_k), ("kilowatt/sha.first", laid_kilowatt_sha_first)] }
def ShaBackSaid : Prop := shaBackRow.holds Tryd.pinned (OpenSpec.ofChange shaBackSpec)

/-- ITS FALSE NEIGHBOUR: 'it returns false'. Refute it at one input. -/
def shaBackWrong : ChangeSpec := { name := "shaBack", fn := fun _ => fun
  | [d1, d2] => { results := [.lit (.bool false)], args := [d1, d2] }
  | _ => none }
def ShaBackWrongFalsely : Prop := shaBackRow.holds Tryd.pinned (OpenSpec.ofChange shaBackWrong)

/-- 'kilowattlaw04.ShaNames': WHATEVER THE INPUT: true; the input reads as it did. -/
def shaNamesSpec : ChangeSpec := { name := "shaNames", fn := fun _ => fun
  | [] => { results := [.lit (.bool true)], args := [] }
  | _ => none }
def shaNamesRow : OpenClaim := { program := "ytjkhkgdijnhdmaadoor", sum := "13a4bd92ab3cdf903e3168e63f78649e962733171f219df20547ab46d5e062ae", func := "kilowatt/kilowattlaw04.ShaNames", spec := "shaNames", inPlace := ["internal/bytealg.IndexByteString", "internal/abi.NoEscape"], unfollowed := true, recurses := true, named := ["kilowatt/sha.first", "kilowatt/sha.k"], apart := false, laid := [("kilowatt/sha.k", laid_kilowatt_sha_k), ("kilowatt/sha.first", laid_kilowatt_sha_first)] }
def ShaNamesSaid : Prop := shaNamesRow.holds Tryd.pinned (OpenSpec.ofChange shaNamesSpec)

/-- ITS FALSE NEIGHBOUR: 'it returns false'. Refute it at one input. -/
def shaNamesWrong : ChangeSpec := { name := "shaNames", fn := fun _ => fun
  | [] => { results := [.lit (.bool false)], args := [] }
  | _ => none }
def ShaNamesWrongFalsely : Prop := shaNamesRow.holds Tryd.pinned (OpenSpec.ofChange shaNamesWrong)

/-- 'kilowattlaw05.MacTags': WHATEVER THE INPUT: true; the input reads as it did. -/
def macTagsSpec : ChangeSpec := { name := "macTags", fn := fun _ => fun
  | [d1, d2, d3, d4] => { results := [.lit (.bool true)], args := [d1, d2, d3, d4] }
  | _ => none }
def macTagsRow : OpenClaim := { program := "ytjkhkgdijnhdmaadoor", sum := "13a4bd92ab3cdf903e3168e63f78649e962733171f219df20547ab46d5e062ae", func := "kilowatt/kilowattlaw05.MacTags", spec := "macTags", unfollowed := true, recurses := true, named := ["kilowatt/sha.first", "kilowatt/sha.k"], apart := false, laid := [("kilowatt/sha.k", laid_kilowatt_sha_k), ("kilowatt/sha.first", laid_kilowatt_sha_first)] }
def MacTagsSaid : Prop := macTagsRow.holds Tryd.pinned (OpenSpec.ofChange macTagsSpec)

/-- ITS FALSE NEIGHBOUR: 'it returns false'. Refute it at one input. -/
def macTagsWrong : ChangeSpec := { name := "macTags", fn := fun _ => fun
  | [d1, d2, d3, d4] => { results := [.lit (.bool false)], args := [d1, d2, d3, d4] }
  | _ => none }
def MacTagsWrongFalsely : Prop := macTagsRow.holds Tryd.pinned (OpenSpec.ofChange macTagsWrong)

/-- 'kilowattlaw05.MacKeys': WHATEVER THE INPUT: true; the input reads as it did. -/
def macKeysSpec : ChangeSpec := { name := "macKeys", fn := fun _ => fun
  | [d1, d2, d3] => { results := [.lit (.bool true)], args := [d1, d2, d3] }
  | _ => none }
def macKeysRow : OpenClaim := { program := "ytjkhkgdijnhdmaadoor", sum := "13a4bd92ab3cdf903e3168e63f78649e962733171f219df20547ab46d5e062ae", func := "kilowatt/kilowattlaw05.MacKeys", spec := "macKeys", inPlace := ["internal/abi.NoEscape"], unfollowed := true, recurses := true, named := ["kilowatt/sha.first", "kilowatt/sha.k"], apart := false, laid := [("kilowatt/sha.k", laid_kilowatt_sha_k), ("kilowatt/sha.first", laid_kilowatt_sha_first)] }
def MacKeysSaid : Prop := macKeysRow.holds Tryd.pinned (OpenSpec.ofChange macKeysSpec)

/-- ITS FALSE NEIGHBOUR: 'it returns false'. Refute it at one input. -/
def macKeysWrong : ChangeSpec := { name := "macKeys", fn := fun _ => fun
  | [d1, d2, d3] => { results := [.lit (.bool false)], args := [d1, d2, d3] }
  | _ => none }
def MacKeysWrongFalsely : Prop := macKeysRow.holds Tryd.pinned (OpenSpec.ofChange macKeysWrong)

/-- 'kilowattlaw05.MacPieces': WHATEVER THE INPUT: true; the input reads as it did. -/
def macPiecesSpec : ChangeSpec := { name := "macPieces", fn := fun _ => fun
  | [d1, d2, d3] => { results := [.lit (.bool true)], args := [d1, d2, d3] }
  | _ => none }
def macPiecesRow : OpenClaim := { program := "ytjkhkgdijnhdmaadoor", sum := "13a4bd92ab3cdf903e3168e63f78649e962733171f219df20547ab46d5e062ae", func := "kilowatt/kilowattlaw05.MacPieces", spec := "macPieces", inPlace := ["internal/abi.NoEscape"], unfollowed := true, recurses := true, named := ["kilowatt/sha.first", "kilowatt/sha.k"], apart := false, laid := [("kilowatt/sha.k", laid_kilowatt_sha_k), ("kilowatt/sha.first", laid_kilowatt_sha_first)] }
def MacPiecesSaid : Prop := macPiecesRow.holds Tryd.pinned (OpenSpec.ofChange macPiecesSpec)

/-- ITS FALSE NEIGHBOUR: 'it returns false'. Refute it at one input. -/
def macPiecesWrong : ChangeSpec := { name := "macPieces", fn := fun _ => fun
  | [d1, d2, d3] => { results := [.lit (.bool false)], args := [d1, d2, d3] }
  | _ => none }
def MacPiecesWrongFalsely : Prop := macPiecesRow.holds Tryd.pinned (OpenSpec.ofChange macPiecesWrong)

/-- 'kilowattlaw05.MacNames': WHATEVER THE INPUT: true; the input reads as it did. -/
def macNamesSpec : ChangeSpec := { name := "macNames", fn := fun _ => fun
  | [] => { results := [.lit (.bool true)], args := [] }
  | _ => none }
def macNamesRow : OpenClaim := { program := "ytjkhkgdijnhdmaadoor", sum := "13a4bd92ab3cdf903e3168e63f78649e962733171f219df20547ab46d5e062ae", func := "kilowatt/kilowattlaw05.MacNames", spec := "macNames", inPlace := ["internal/abi.NoEscape"], unfollowed := true, recurses := true, named := ["kilowatt/sha.first", "kilowatt/sha.k"], apart := false, laid := [("kilowatt/sha.k", laid_kilowatt_sha_k), ("kilowatt/sha.first", laid_kilowatt_sha_first)] }
def MacNamesSaid : Prop := macNamesRow.holds Tryd.pinned (OpenSpec.ofChange macNamesSpec)

/-- ITS FALSE NEIGHBOUR: 'it returns false'. Refute it at one input. -/
def macNamesWrong : ChangeSpec := { name := "macNames", fn := fun _ => fun
  | [] => { results := [.lit (.bool false)], args := [] }
  | _ => none }
def MacNamesWrongFalsely : Prop := macNamesRow.holds Tryd.pinned (OpenSpec.ofChange macNamesWrong)

/- THE SECOND FORM. 'bulk': how many values and letters a reading holds, each counted each time it is reached (what is shared counts as often as it is met; a slice's spare places count too). A statement '..UptoSaid' is the law's where the arguments, and the package variables that the reading takes, are together of bulk at most 1048576: NARROWER than '..Said'. Prove '..Said' where nothing that the law and all that it calls make is longer than what came in: it says more and counts as full. Else prove '..UptoSaid'. A law counts once. -/
mutual
def uptoBulk {H : Type} : DataW H → Nat
  | .lit (.string bytes) => bytes.length + 1
  | .lit _ => 1
  | .nil => 1
  | .ptr d => uptoBulk d + 1
  | .slice elems spare => uptoBulkAll elems + uptoBulkAll spare + 1
  | .agg parts => uptoBulkAll parts + 1
  | .iface _ d => uptoBulk d + 1
  | .map entries => uptoBulkEntries entries + 1
  | .held _ => 1
def uptoBulkAll {H : Type} : List (DataW H) → Nat
  | [] => 0
  | d :: r => uptoBulk d + uptoBulkAll r
def uptoBulkEntries {H : Type} : List (Lit × DataW H) → Nat
  | [] => 0
  | x :: r => uptoBulkEntry x + uptoBulkEntries r
def uptoBulkEntry {H : Type} : Lit × DataW H → Nat
  | (.string bytes, d) => bytes.length + uptoBulk d + 1
  | (_, d) => uptoBulk d + 1
 end
def uptoSmall : (H : Type) → List (DataW H) → Bool := fun _ ds => decide (uptoBulkAll ds ≤ 1048576)
def OpenSpec.upto (s : _root_.Go.ChangeSpec) : _root_.Go.OpenSpec := { _root_.Go.OpenSpec.ofChange s with cond := some uptoSmall }

/-- 'kilowattlaw04.ShaPlays', WHERE WHAT IT READS IS OF BULK AT MOST 1048576: true; the input reads as it did. -/
def shaPlaysUptoRow : OpenClaim := { program := "ytjkhkgdijnhdmaadoor", sum := "13a4bd92ab3cdf903e3168e63f78649e962733171f219df20547ab46d5e062ae", func := "kilowatt/kilowattlaw04.ShaPlays", spec := "shaPlays", unfollowed := true, recurses := true, named := ["kilowatt/sha.first", "kilowatt/sha.k"], apart := false, laid := [("kilowatt/sha.k", laid_kilowatt_sha_k), ("kilowatt/sha.first", laid_kilowatt_sha_first)], narrowed := true }
def ShaPlaysUptoSaid : Prop := shaPlaysUptoRow.holds Tryd.pinned (OpenSpec.upto shaPlaysSpec)

/-- 'kilowattlaw04.ShaRoots', WHERE WHAT IT READS IS OF BULK AT MOST 1048576: true; the input reads as it did. -/
def shaRootsUptoRow : OpenClaim := { program := "ytjkhkgdijnhdmaadoor", sum := "13a4bd92ab3cdf903e3168e63f78649e962733171f219df20547ab46d5e062ae", func := "kilowatt/kilowattlaw04.ShaRoots", spec := "shaRoots", inPlace := ["internal/abi.NoEscape"], unfollowed := true, recurses := true, named := ["kilowatt/sha.first", "kilowatt/sha.k"], apart := false, laid := [("kilowatt/sha.k", laid_kilowatt_sha_k), ("kilowatt/sha.first", laid_kilowatt_sha_first)], narrowed := true }
def ShaRootsUptoSaid : Prop := shaRootsUptoRow.holds Tryd.pinned (OpenSpec.upto shaRootsSpec)

/-- 'kilowattlaw04.ShaPieces', WHERE WHAT IT READS IS OF BULK AT MOST 1048576: true; the input reads as it did. -/
def shaPiecesUptoRow : OpenClaim := { program := "ytjkhkgdijnhdmaadoor", sum := "13a4bd92ab3cdf903e3168e63f78649e962733171f219df20547ab46d5e062ae", func := "kilowatt/kilowattlaw04.ShaPieces", spec := "shaPieces", inPlace := ["internal/abi.NoEscape"], unfollowed := true, recurses := true, named := ["kilowatt/sha.first", "kilowatt/sha.k"], apart := false, laid := [("kilowatt/sha.k", laid_kilowatt_sha_k), ("kilowatt/sha.first", laid_kilowatt_sha_first)], narrowed := true }
def ShaPiecesUptoSaid : Prop := shaPiecesUptoRow.holds Tryd.pinned (OpenSpec.upto shaPiecesSpec)

/-- 'kilowattlaw04.ShaCopies', WHERE WHAT IT READS IS OF BULK AT MOST 1048576: true; the input reads as it did. -/
def shaCopiesUptoRow : OpenClaim := { program := "ytjkhkgdijnhdmaadoor", sum := "13a4bd92ab3cdf903e3168e63f78649e962733171f219df20547ab46d5e062ae", func := "kilowatt/kilowattlaw04.ShaCopies", spec := "shaCopies", inPlace := ["internal/abi.NoEscape"], unfollowed := true, recurses := true, named := ["kilowatt/sha.first", "kilowatt/sha.k"], apart := false, laid := [("kilowatt/sha.k", laid_kilowatt_sha_k), ("kilowatt/sha.first", laid_kilowatt_sha_first)], narrowed := true }
def ShaCopiesUptoSaid : Prop := shaCopiesUptoRow.holds Tryd.pinned (OpenSpec.upto shaCopiesSpec)

/-- 'kilowattlaw04.ShaBack', WHERE WHAT IT READS IS OF BULK AT MOST 1048576: true; the input reads as it did. -/
def shaBackUptoRow : OpenClaim := { program := "ytjkhkgdijnhdmaadoor", sum := "13a4bd92ab3cdf903e3168e63f78649e962733171f219df20547ab46d5e062ae", func := "kilowatt/kilowattlaw04.ShaBack", spec := "shaBack", inPlace := ["internal/abi.NoEscape", "internal/bytealg.IndexByteString"], unfollowed := true, recurses := true, named := ["kilowatt/sha.first", "kilowatt/sha.k"], apart := false, laid := [("kilowatt/sha.k", laid_kilowatt_sha_k), ("kilowatt/sha.first", laid_kilowatt_sha_first)], narrowed := true }
def ShaBackUptoSaid : Prop := shaBackUptoRow.holds Tryd.pinned (OpenSpec.upto shaBackSpec)

/-- 'kilowattlaw04.ShaNames', WHERE WHAT IT READS IS OF BULK AT MOST 1048576: true; the input reads as it did. -/
def shaNamesUptoRow : OpenClaim := { program := "ytjkhkgdijnhdmaadoor", sum := "13a4bd92ab3cdf903e3168e63f78649e962733171f219df20547ab46d5e062ae", func := "kilowatt/kilowattlaw04.ShaNames", spec := "shaNames", inPlace := ["internal/bytealg.IndexByteString", "internal/abi.NoEscape"], unfollowed := true, recurses := true, named := ["kilowatt/sha.first", "kilowatt/sha.k"], apart := false, laid := [("kilowatt/sha.k", laid_kilowatt_sha_k), ("kilowatt/sha.first", laid_kilowatt_sha_first)], narrowed := true }
def ShaNamesUptoSaid : Prop := shaNamesUptoRow.holds Tryd.pinned (OpenSpec.upto shaNamesSpec)

/-- 'kilowattlaw05.MacTags', WHERE WHAT IT READS IS OF BULK AT MOST 1048576: true; the input reads as it did. -/
def macTagsUptoRow : OpenClaim := { program := "ytjkhkgdijnhdmaadoor", sum := "13a4bd92ab3cdf903e3168e63f78649e962733171f219df20547ab46d5e062ae", func := "kilowatt/kilowattlaw05.MacTags", spec := "macTags", unfollowed := true, recurses := true, named := ["kilowatt/sha.first", "kilowatt/sha.k"], apart := false, laid := [("kilowatt/sha.k", laid_kilowatt_sha_k), ("kilowatt/sha.first", laid_kilowatt_sha_first)], narrowed := true }
def MacTagsUptoSaid : Prop := macTagsUptoRow.holds Tryd.pinned (OpenSpec.upto macTagsSpec)

/-- 'kilowattlaw05.MacKeys', WHERE WHAT IT READS IS OF BULK AT MOST 1048576: true; the input reads as it did. -/
def macKeysUptoRow : OpenClaim := { program := "ytjkhkgdijnhdmaadoor", sum := "13a4bd92ab3cdf903e3168e63f78649e962733171f219df20547ab46d5e062ae", func := "kilowatt/kilowattlaw05.MacKeys", spec := "macKeys", inPlace := ["internal/abi.NoEscape"], unfollowed := true, recurses := true, named := ["kilowatt/sha.first", "kilowatt/sha.k"], apart := false, laid := [("kilowatt/sha.k", laid_kilowatt_sha_k), ("kilowatt/sha.first", laid_kilowatt_sha_first)], narrowed := true }
def MacKeysUptoSaid : Prop := macKeysUptoRow.holds Tryd.pinned (OpenSpec.upto macKeysSpec)

/-- 'kilowattlaw05.MacPieces', WHERE WHAT IT READS IS OF BULK AT MOST 1048576: true; the input reads as it did. -/
def macPiecesUptoRow : OpenClaim := { program := "ytjkhkgdijnhdmaadoor", sum := "13a4bd92ab3cdf903e3168e63f78649e962733171f219df20547ab46d5e062ae", func := "kilowatt/kilowattlaw05.MacPieces", spec := "macPieces", inPlace := ["internal/abi.NoEscape"], unfollowed := true, recurses := true, named := ["kilowatt/sha.first", "kilowatt/sha.k"], apart := false, laid := [("kilowatt/sha.k", laid_kilowatt_sha_k), ("kilowatt/sha.first", laid_kilowatt_sha_first)], narrowed := true }
def MacPiecesUptoSaid : Prop := macPiecesUptoRow.holds Tryd.pinned (OpenSpec.upto macPiecesSpec)

/-- 'kilowattlaw05.MacNames', WHERE WHAT IT READS IS OF BULK AT MOST 1048576: true; the input reads as it did. -/
def macNamesUptoRow : OpenClaim := { program := "ytjkhkgdijnhdmaadoor", sum := "13a4bd92ab3cdf903e3168e63f78649e962733171f219df20547ab46d5e062ae", func := "kilowatt/kilowattlaw05.MacNames", spec := "macNames", inPlace := ["internal/abi.NoEscape"], unfollowed := true, recurses := true, named := ["kilowatt/sha.first", "kilowatt/sha.k"], apart := false, laid := [("kilowatt/sha.k", laid_kilowatt_sha_k), ("kilowatt/sha.first", laid_kilowatt_sha_first)], narrowed := true }
def MacNamesUptoSaid : Prop := macNamesUptoRow.holds Tryd.pinned (OpenSpec.upto macNamesSpec)

end Rows
end Go.Proofs.YtjkhkgdijnhdmaaDoor
