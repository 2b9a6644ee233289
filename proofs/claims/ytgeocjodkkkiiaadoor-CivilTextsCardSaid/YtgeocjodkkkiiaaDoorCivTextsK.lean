/- The law CivilTexts, its lemmas. -/
import Derived.Test.YtgeocjodkkkiiaaDoorCivSame
import Derived.Test.YtgeocjodkkkiiaaDoorCivRefNth
namespace Go.Proofs.YtgeocjodkkkiiaaDoor
open Go.RowKit

theorem keep3i (i j k : Nat) {B z : Nat} {W W' : World} {x y u : Value} (hB : Below B W W') (hz : z < B) (d0 : W.cell? ⟨z, i, none⟩ = some x) (d1 : W.cell? ⟨z, j, none⟩ = some y) (d2 : W.cell? ⟨z, k, none⟩ = some u) :
    W'.cell? ⟨z, i, none⟩ = some x ∧ W'.cell? ⟨z, j, none⟩ = some y ∧ W'.cell? ⟨z, k, none⟩ = some u :=
  ⟨(hB.cell (p := ⟨z, i, none⟩) hz).trans d0, (hB.cell (p := ⟨z, j, none⟩) hz).trans d1, (hB.cell (p := ⟨z, k, none⟩) hz).trans d2⟩
theorem par_any (s : ByteArray) : ∃ a b c e : Int, parV s = .tuple #[.agg #[.int .i64 a, .int .i64 b, .int .i64 c], .int .i64 e] ∧ refV s = .tuple #[.int .i64 a, .int .i64 b, .int .i64 c, .int .i64 e] := by
  cases h : parB s with
  | true => exact ⟨_, _, _, _, (par_yes s h).1, by rw [refV, if_pos (by rw [par_same]; exact h)]⟩
  | false => exact ⟨_, _, _, _, par_no s h, refV_no (by rw [par_same]; exact h)⟩
theorem clkV_any (s : ByteArray) : ∃ a b c e : Int, clkV s = .tuple #[.int .i64 a, .int .i64 b, .int .i64 c, .int .i64 e] := by
  cases h : clkB s with
  | true => exact ⟨_, _, _, _, by rw [clkV, if_pos h]⟩
  | false => exact ⟨_, _, _, _, clkV_no h⟩
end Go.Proofs.YtgeocjodkkkiiaaDoor
