/- Bytes as a string; a struct read whole. -/
import Derived.Test.YtflbiichdjhaeaaDoorPduSame
import Derived.Test.YtflbiichdjhaeaaDoorPduBit
import Derived.Test.YtflbiichdjhaeaaDoorPduRefPack
import Derived.Laws.BytesArg
import Derived.Test.YtflbiichdjhaeaaDoorRowl
namespace Go.Proofs.YtflbiichdjhaeaaDoor
open Go.RowKit

theorem own_same {w w' : World} {base : Nat} {e : TypeId} {size n : Nat} {v : Value} {xs : List Value} (h : w.ownsRow base e size v n xs) (hb : ∀ b, v.ownBlock = some b → w'.heap[b]? = w.heap[b]?) : w'.ownsRow base e size v n xs := by
  refine ⟨h.1, ?_⟩
  rcases h.2 with h2 | ⟨g, cap, cur, hv, hg, hh, r⟩
  · exact .inl h2
  · exact .inr ⟨g, cap, cur, hv, hg, (hb g (by rw [hv]; rfl)).trans hh, r⟩
theorem own_up {w w' : World} {base : Nat} {e : TypeId} {size n : Nat} {v : Value} {xs : List Value} (h : w.ownsRow base e size v n xs) (hb : Below w.heap.size w w') : w'.ownsRow base e size v n xs :=
  own_same h fun b e => hb.block b (h.lt b e).2
theorem conv_own {W : World} {base n : Nat} {v : Value} {L : List Int} (h : W.ownsRow base 5 1 v n (L.map (Value.int .u8))) : (convert 28 9 v).run Tryd.prog W = .ok (.string (strOfNums L)) W := by
  have hl := own_len h
  rcases h.2 with ⟨rfl, h0⟩ | ⟨g, cap, cur, rfl, _⟩
  · obtain rfl : L = [] := List.length_eq_zero_iff.1 (by omega)
    exact run_convert_bytes_nil (P := Tryd.prog) W 28 5 Tryd.underlying28 Tryd.underlying5 0 0 9 Tryd.underlying9
  · exact run_convert_bytes_arg (P := Tryd.prog) W 28 5 Tryd.underlying28 Tryd.underlying5 g 0 n cap L hl (fun i hi => by
      obtain ⟨y, hy, hc, _⟩ := own_at h (i := i) (by omega)
      simpa [List.getD, hy] using hc) 9 Tryd.underlying9
end Go.Proofs.YtflbiichdjhaeaaDoor
