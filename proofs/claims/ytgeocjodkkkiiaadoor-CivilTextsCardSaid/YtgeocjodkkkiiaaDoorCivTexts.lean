/- The law CivilTexts, its three ways joined. -/
import Derived.Test.YtgeocjodkkkiiaaDoorCivTextsA
import Derived.Test.YtgeocjodkkkiiaaDoorCivTextsB
import Derived.Test.YtgeocjodkkkiiaaDoorCivTextsC
namespace Go.Proofs.YtgeocjodkkkiiaaDoor
open Go.RowKit

set_option maxRecDepth 100000 in
set_option maxHeartbeats 40000000 in
theorem law_texts (y m d h mi sec : Int) (s : ByteArray) (k n : Int) (w : World) (T : Lens w) (hP : P10 w) : Calls Tryd.prog 7 #[.agg #[.int .i64 y, .int .i64 m, .int .i64 d, .int .i64 h, .int .i64 mi, .int .i64 sec], .string s, .int .i64 k, .int .i64 n] w fun e w' => e = .returned (.bool true) ∧ Below w.heap.size w w' := by
  by_cases hl : s.size ≤ 100
  case neg =>
    have g2 : (100 : Int) < (s.size : Int) := by omega
    go_in
    go_wp2
    go_ret
    exact ⟨rfl, below_alloc (Below.refl _ _) _⟩
  cases hm : mayB y m d with
  | false => exact law_textsA y m d h mi sec s k n w T hP hl hm
  | true =>
    cases hc : clockB h mi sec with
    | false => exact law_textsB y m d h mi sec s k n w T hP hl hm hc
    | true => exact law_textsC y m d h mi sec s k n w T hP hl hm hc
end Go.Proofs.YtgeocjodkkkiiaaDoor
