/- A slice of entries opened, with its capacity. -/
import Derived.Test.YtjcpgnachkhjaaaDoorLedRow
namespace Go.Proofs.YtjcpgnachkhjaaaDoor
open Go.RowKit Go.ChangeShapes Go.WideShapes Go.ChangeAt
theorem open_entsC {H : Type} {enc : TypeId × Value → H} {W : World} {m : Nat} {cs : List Value} {x : DataW H × List MemPlace} (h : DataW.trod enc Tryd.prog W 0 (fun _ => true) true m 22 cs = some x) :
    ∃ (A : Option Addr) (n c : Nat) (es : List Ent), cs = [.slice A n c] ∧ EnI W A n es ∧ n ≤ maxLen ∧ n ≤ c := by
  obtain ⟨A, n, c, es, e, h1, h2⟩ := open_ents h
  refine ⟨A, n, c, es, e, h1, h2, ?_⟩
  rcases Go.Deep.open_slice Tryd.underlying22 h with ⟨hcs, _⟩ | ⟨ad, len, cap, m', n', D, Pl, hcs, _, hl, _⟩
  · rw [e] at hcs
    simp at hcs
    omega
  · rw [e] at hcs
    simp at hcs
    omega
end Go.Proofs.YtjcpgnachkhjaaaDoor
