/-
  No cell of these rows narrows 'for every input' (looked for: loops, veiled, ifaces, maps, wideKeys, modest, calm, conditions, laid).
  DERIVED. THE GIVEN ROWS OF THIS SEAT. 7 by the template 'for every input the law returns true; each argument reads behind the call as it read before'; 0 by the template 'total and deterministic' (their statements: YtnglajpmkjgbaaaTotals.lean).
  GIVEN WITH THE SEED: the statements are not yours to turn. If you find one false, say at which input.
  Laid BY PROGRAM, IN A SANDBOX (cutbox-rows.mjs): the forced cells as the released guide's own fill.sh prints them over the translation 6dab767bab7126b0… (all of the seat's roots in one cut). By AI agents, Wed Nov 11 2026. No macro, syntax, notation, axiom, sorry.
-/
import Derived.Test.YtnglajpmkjgbaaaChecked
import GoSem.Claim
import GoSem.ClaimJoined
import GoSem.ClaimMapViews
import Derived.JoinedTies
import Derived.KernelRfl
namespace Go.Proofs.Ytnglajpmkjgbaaa
/- THE CELL 'sum', in the pinned program and in every row, IS THE sha256 OF THE DUMP (.gsa) THAT YtnglajpmkjgbaaaProg.lean LOADS. Nothing in Lean hashes anything: it is a label: what it is worth is what the hold of that sum in a sandbox is worth. -/
noncomputable def Try.pinned : Pinned := { name := "ytnglajpmkjgbaaa", sum := "6dab767bab7126b0870f68c827075ab3091a1d00f28d6dbb2df88f13d5c3d05b", checked := Try.checked }
namespace Rows
def none {H : Type} : Left H := { results := [], args := [] }

/-- 'kilowattlaw02.RegsSigns': WHATEVER THE INPUT: true; the input reads as it did. -/
def regsSignsSpec : ChangeSpec := { name := "regsSigns", fn := fun _ => fun
  | [d1, d2, d3] => { results := [.lit (.bool true)], args := [d1, d2, d3] }
  | _ => none }
def regsSignsRow : OpenClaim := { program := "ytnglajpmkjgbaaa", sum := "6dab767bab7126b0870f68c827075ab3091a1d00f28d6dbb2df88f13d5c3d05b", func := "kilowatt/kilowattlaw02.RegsSigns", spec := "regsSigns", apart := false }
def RegsSignsSaid : Prop := regsSignsRow.holds Try.pinned (OpenSpec.ofChange regsSignsSpec)

/-- ITS FALSE NEIGHBOUR: 'it returns false'. Refute it at one input. -/
def regsSignsWrong : ChangeSpec := { name := "regsSigns", fn := fun _ => fun
  | [d1, d2, d3] => { results := [.lit (.bool false)], args := [d1, d2, d3] }
  | _ => none }
def RegsSignsWrongFalsely : Prop := regsSignsRow.holds Try.pinned (OpenSpec.ofChange regsSignsWrong)

/-- 'kilowattlaw02.RegsWords': WHATEVER THE INPUT: true; the input reads as it did. -/
def regsWordsSpec : ChangeSpec := { name := "regsWords", fn := fun _ => fun
  | [d1, d2, d3, d4] => { results := [.lit (.bool true)], args := [d1, d2, d3, d4] }
  | _ => none }
def regsWordsRow : OpenClaim := { program := "ytnglajpmkjgbaaa", sum := "6dab767bab7126b0870f68c827075ab3091a1d00f28d6dbb2df88f13d5c3d05b", func := "kilowatt/kilowattlaw02.RegsWords", spec := "regsWords", apart := false }
def RegsWordsSaid : Prop := regsWordsRow.holds Try.pinned (OpenSpec.ofChange regsWordsSpec)

/-- ITS FALSE NEIGHBOUR: 'it returns false'. Refute it at one input. -/
def regsWordsWrong : ChangeSpec := { name := "regsWords", fn := fun _ => fun
  | [d1, d2, d3, d4] => { results := [.lit (.bool false)], args := [d1, d2, d3, d4] }
  | _ => none }
def RegsWordsWrongFalsely : Prop := regsWordsRow.holds Try.pinned (OpenSpec.ofChange regsWordsWrong)

/-- 'kilowattlaw02.RegsHalves': WHATEVER THE INPUT: true; the input reads as it did. -/
def regsHalvesSpec : ChangeSpec := { name := "regsHalves", fn := fun _ => fun
  | [d] => { results := [.lit (.bool true)], args := [d] }
  | _ => none }
def regsHalvesRow : OpenClaim := { program := "ytnglajpmkjgbaaa", sum := "6dab767bab7126b0870f68c827075ab3091a1d00f28d6dbb2df88f13d5c3d05b", func := "kilowatt/kilowattlaw02.RegsHalves", spec := "regsHalves", apart := false }
def RegsHalvesSaid : Prop := regsHalvesRow.holds Try.pinned (OpenSpec.ofChange regsHalvesSpec)

/-- ITS FALSE NEIGHBOUR: 'it returns false'. Refute it at one input. -/
def regsHalvesWrong : ChangeSpec := { name := "regsHalves", fn := fun _ => fun
  | [d] => { results := [.lit (.bool false)], args := [d] }
  | _ => none }
def RegsHalvesWrongFalsely : Prop := regsHalvesRow.holds Try.pinned (OpenSpec.ofChange regsHalvesWrong)

/-- 'kilowattlaw02.RegsTexts': WHATEVER THE INPUT: true; the input reads as it did. -/
def regsTextsSpec : ChangeSpec := { name := "regsTexts", fn := fun _ => fun
  | [d1, d2, d3, d4] => { results := [.lit (.bool true)], args := [d1, d2, d3, d4] }
  | _ => none }
def regsTextsRow : OpenClaim := { program := "ytnglajpmkjgbaaa", sum := "6dab767bab7126b0870f68c827075ab3091a1d00f28d6dbb2df88f13d5c3d05b", func := "kilowatt/kilowattlaw02.RegsTexts", spec := "regsTexts", inPlace := ["internal/bytealg.IndexByteString", "internal/bytealg.IndexByte"], unfollowed := true, recurses := true, apart := false }
def RegsTextsSaid : Prop := regsTextsRow.holds Try.pinned (OpenSpec.ofChange regsTextsSpec)

/-- ITS FALSE NEIGHBOUR: 'it returns false'. Refute it at one input. -/
def regsTextsWrong : ChangeSpec := { name := "regsTexts", fn := fun _ => fun
  | [d1, d2, d3, d4] => { results := [.lit (.bool false)], args := [d1, d2, d3, d4] }
  | _ => none }
def RegsTextsWrongFalsely : Prop := regsTextsRow.holds Try.pinned (OpenSpec.ofChange regsTextsWrong)

/-- 'kilowattlaw02.RegsBack': WHATEVER THE INPUT: true; the input reads as it did. -/
def regsBackSpec : ChangeSpec := { name := "regsBack", fn := fun _ => fun
  | [d1, d2, d3, d4] => { results := [.lit (.bool true)], args := [d1, d2, d3, d4] }
  | _ => none }
def regsBackRow : OpenClaim := { program := "ytnglajpmkjgbaaa", sum := "6dab767bab7126b0870f68c827075ab3091a1d00f28d6dbb2df88f13d5c3d05b", func := "kilowatt/kilowattlaw02.RegsBack", spec := "regsBack", unfollowed := true, recurses := true, apart := false }
def RegsBackSaid : Prop := regsBackRow.holds Try.pinned (OpenSpec.ofChange regsBackSpec)

/-- ITS FALSE NEIGHBOUR: 'it returns false'. Refute it at one input. -/
def regsBackWrong : ChangeSpec := { name := "regsBack", fn := fun _ => fun
  | [d1, d2, d3, d4] => { results := [.lit (.bool false)], args := [d1, d2, d3, d4] }
  | _ => none }
def RegsBackWrongFalsely : Prop := regsBackRow.holds Try.pinned (OpenSpec.ofChange regsBackWrong)

/-- 'kilowattlaw02.RegsUndone': WHATEVER THE INPUT: true; the input reads as it did. -/
def regsUndoneSpec : ChangeSpec := { name := "regsUndone", fn := fun _ => fun
  | [d1, d2, d3, d4, d5] => { results := [.lit (.bool true)], args := [d1, d2, d3, d4, d5] }
  | _ => none }
def regsUndoneRow : OpenClaim := { program := "ytnglajpmkjgbaaa", sum := "6dab767bab7126b0870f68c827075ab3091a1d00f28d6dbb2df88f13d5c3d05b", func := "kilowatt/kilowattlaw02.RegsUndone", spec := "regsUndone", inPlace := ["internal/bytealg.IndexByteString", "internal/bytealg.IndexByte"], unfollowed := true, recurses := true, apart := false }
def RegsUndoneSaid : Prop := regsUndoneRow.holds Try.pinned (OpenSpec.ofChange regsUndoneSpec)

/-- ITS FALSE NEIGHBOUR: 'it returns false'. Refute it at one input. -/
def regsUndoneWrong : ChangeSpec := { name := "regsUndone", fn := fun _ => fun
  | [d1, d2, d3, d4, d5] => { results := [.lit (.bool false)], args := [d1, d2, d3, d4, d5] }
  | _ => none }
def RegsUndoneWrongFalsely : Prop := regsUndoneRow.holds Try.pinned (OpenSpec.ofChange regsUndoneWrong)

/-- 'kilowattlaw02.RegsNames': WHATEVER THE INPUT: true; the input reads as it did. -/
def regsNamesSpec : ChangeSpec := { name := "regsNames", fn := fun _ => fun
  | [] => { results := [.lit (.bool true)], args := [] }
  | _ => none }
def regsNamesRow : OpenClaim := { program := "ytnglajpmkjgbaaa", sum := "6dab767bab7126b0870f68c827075ab3091a1d00f28d6dbb2df88f13d5c3d05b", func := "kilowatt/kilowattlaw02.RegsNames", spec := "regsNames", inPlace := ["internal/bytealg.IndexByteString", "internal/bytealg.IndexByte"], unfollowed := true, recurses := true, apart := false }
def RegsNamesSaid : Prop := regsNamesRow.holds Try.pinned (OpenSpec.ofChange regsNamesSpec)

/-- ITS FALSE NEIGHBOUR: 'it returns false'. Refute it at one input. -/
def regsNamesWrong : ChangeSpec := { name := "regsNames", fn := fun _ => fun
  | [] => { results := [.lit (.bool false)], args := [] }
  | _ => none }
def RegsNamesWrongFalsely : Prop := regsNamesRow.holds Try.pinned (OpenSpec.ofChange regsNamesWrong)

/- THE SECOND FORM. 'bulk': how many values and letters a reading holds, each counted each time it is reached (what is shared counts as often as it is met; a slice's spare places count too). A statement '..UptoSaid' is the law's where the arguments, and the package variables that the reading takes, are together of bulk at most 1048576: NARROWER than '..Said'. Prove '..Said' where nothing that the law and all that it calls make is longer than what came in: it says more and counts as full. Else prove '..UptoSaid'. A law counts once. -/
mutual
def uptoBulk {H : Type} : DataW H → Nat
  | .lit (.string bytes) => bytes.length + 1
  | .lit _ => 1
  | .nil => 1
  | .ptr d => uptoBulk d + 1
  | .slice elems spare => uptoBulkAll elems + uptoBulkAll spare + 1
  | .agg parts => uptoBulkAll parts + 1
  | .iface _ d => uptoBulk d + 1
  | .map entries => uptoBulkEntries entries + 1
  | .held _ => 1
def uptoBulkAll {H : Type} : List (DataW H) → Nat
  | [] => 0
  | d :: r => uptoBulk d + uptoBulkAll r
def uptoBulkEntries {H : Type} : List (Lit × DataW H) → Nat
  | [] => 0
  | x :: r => uptoBulkEntry x + uptoBulkEntries r
def uptoBulkEntry {H : Type} : Lit × DataW H → Nat
  | (.string bytes, d) => bytes.length + uptoBulk d + 1
  | (_, d) => uptoBulk d + 1
 end
def uptoSmall : (H : Type) → List (DataW H) → Bool := fun _ ds => decide (uptoBulkAll ds ≤ 1048576)
def OpenSpec.upto (s : _root_.Go.ChangeSpec) : _root_.Go.OpenSpec := { _root_.Go.OpenSpec.ofChange s with cond := some uptoSmall }

/-- 'kilowattlaw02.RegsSigns', WHERE WHAT IT READS IS OF BULK AT MOST 1048576: true; the input reads as it did. -/
def regsSignsUptoRow : OpenClaim := { program := "ytnglajpmkjgbaaa", sum := "6dab767bab7126b0870f68c827075ab3091a1d00f28d6dbb2df88f13d5c3d05b", func := "kilowatt/kilowattlaw02.RegsSigns", spec := "regsSigns", apart := false, narrowed := true }
def RegsSignsUptoSaid : Prop := regsSignsUptoRow.holds Try.pinned (OpenSpec.upto regsSignsSpec)

/-- 'kilowattlaw02.RegsWords', WHERE WHAT IT READS IS OF BULK AT MOST 1048576: true; the input reads as it did. -/
def regsWordsUptoRow : OpenClaim := { program := "ytnglajpmkjgbaaa", sum := "6dab767bab7126b0870f68c827075ab3091a1d00f28d6dbb2df88f13d5c3d05b", func := "kilowatt/kilowattlaw02.RegsWords", spec := "regsWords", apart := false, narrowed := true }
def RegsWordsUptoSaid : Prop := regsWordsUptoRow.holds Try.pinned (OpenSpec.upto regsWordsSpec)

/-- 'kilowattlaw02.RegsHalves', WHERE WHAT IT READS IS OF BULK AT MOST 1048576: true; the input reads as it did. -/
def regsHalvesUptoRow : OpenClaim := { program := "ytnglajpmkjgbaaa", sum := "6dab767bab7126b0870f68c827075ab3091a1d00f28d6dbb2df88f13d5c3d05b", func := "kilowatt/kilowattlaw02.RegsHalves", spec := "regsHalves", apart := false, narrowed := true }
def RegsHalvesUptoSaid : Prop := regsHalvesUptoRow.holds Try.pinned (OpenSpec.upto regsHalvesSpec)

/-- 'kilowattlaw02.RegsTexts', WHERE WHAT IT READS IS OF BULK AT MOST 1048576: true; the input reads as it did. -/
def regsTextsUptoRow : OpenClaim := { program := "ytnglajpmkjgbaaa", sum := "6dab767bab7126b0870f68c827075ab3091a1d00f28d6dbb2df88f13d5c3d05b", func := "kilowatt/kilowattlaw02.RegsTexts", spec := "regsTexts", inPlace := ["internal/bytealg.IndexByteString", "internal/bytealg.IndexByte"], unfollowed := true, recurses := true, apart := false, narrowed := true }
def RegsTextsUptoSaid : Prop := regsTextsUptoRow.holds Try.pinned (OpenSpec.upto regsTextsSpec)

/-- 'kilowattlaw02.RegsBack', WHERE WHAT IT READS IS OF BULK AT MOST 1048576: true; the input reads as it did. -/
def regsBackUptoRow : OpenClaim := { program := "ytnglajpmkjgbaaa", sum := "6dab767bab7126b0870f68c827075ab3091a1d00f28d6dbb2df88f13d5c3d05b", func := "kilowatt/kilowattlaw02.RegsBack", spec := "regsBack", unfollowed := true, recurses := true, apart := false, narrowed := true }
def RegsBackUptoSaid : Prop := regsBackUptoRow.holds Try.pinned (OpenSpec.upto regsBackSpec)

/-- 'kilowattlaw02.RegsUndone', WHERE WHAT IT READS IS OF BULK AT MOST 1048576: true; the input reads as it did. -/
def regsUndoneUptoRow : OpenClaim := { program := "ytnglajpmkjgbaaa", sum := "6dab767bab7126b0870f68c827075ab3091a1d00f28d6dbb2df88f13d5c3d05b", func := "kilowatt/kilowattlaw02.RegsUndone", spec := "regsUndone", inPlace := ["internal/bytealg.IndexByteString", "internal/bytealg.IndexByte"], unfollowed := true, recurses := true, apart := false, narrowed := true }
def RegsUndoneUptoSaid : Prop := regsUndoneUptoRow.holds Try.pinned (OpenSpec.upto regsUndoneSpec)

/-- 'kilowattlaw02.RegsNames', WHERE WHAT IT READS IS OF BULK AT MOST 1048576: true; the input reads as it did. -/
def regsNamesUptoRow : OpenClaim := { program := "ytnglajpmkjgbaaa", sum := "6dab767bab7126b0870f68c827075ab3091a1d00f28d6dbb2df88f13d5c3d05b", func := "kilowatt/kilowattlaw02.RegsNames", spec := "regsNames", inPlace := ["internal/bytealg.IndexByteString", "internal/bytealg.IndexByte"], unfollowed := true, recurses := true, apart := false, narrowed := true }
def RegsNamesUptoSaid : Prop := regsNamesUptoRow.holds Try.pinned (OpenSpec.upto regsNamesSpec)

end Rows
end Go.Proofs.Ytnglajpmkjgbaaa
