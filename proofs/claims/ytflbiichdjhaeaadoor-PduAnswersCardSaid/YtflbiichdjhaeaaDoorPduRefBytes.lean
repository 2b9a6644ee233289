/- kilowattref19.Bytes. -/
import Derived.Test.YtflbiichdjhaeaaDoorPduRefBytesB
import Derived.Test.YtflbiichdjhaeaaDoorPduRefBytesC
import Derived.Test.YtflbiichdjhaeaaDoorPduRefBytesD
import Derived.Test.YtflbiichdjhaeaaDoorPduRefBytesE
import Derived.Test.YtflbiichdjhaeaaDoorPduRefBytesF
namespace Go.Proofs.YtflbiichdjhaeaaDoor
open Go.RowKit
set_option linter.unusedVariables false

theorem bytes_ref (u : Value) (p : AskP) (w : World) (hu : AskAt w u p) (hy : Reg16 p.regs) : Calls Tryd.prog 20 #[u] w (BytesPost w p) := by
  obtain ⟨A, nb, cb, R, nr, cr, rfl, hA, hR⟩ := hu
  obtain ⟨fn, addr, count, to, bits, regs⟩ := p
  dsimp only at hA hR hy ⊢
  cases hm : mayP ⟨fn, addr, count, to, bits, regs⟩ with
  | false => exact rb_no fn addr count to bits regs A nb cb R nr cr w hA hR hm
  | true =>
    obtain ⟨⟨ha, ht⟩, hc⟩ := may_cases _ hm
    have la := hA.1
    have lr := hR.1
    simp only at hc ha ht
    rcases hc with ⟨e, hn, _⟩ | ⟨e, hn, _⟩ | ⟨e, _, ⟨b, hb⟩, _⟩ | ⟨e, _, _, ⟨r, hr⟩, _⟩ | ⟨e, _, hn, _⟩ | ⟨e, _, _, hn, _⟩ | ⟨e, hn, _, hk⟩
    · exact rb_rd fn addr count to bits regs A nb cb R nr cr w hA hR hm hy ha (by omega) (by omega)
    · exact rb_rd fn addr count to bits regs A nb cb R nr cr w hA hR hm hy ha (by omega) (by omega)
    · cases b with
      | true => exact rb_5t fn addr count to bits regs A nb cb R nr cr w hA hR hm hy ha e hb
      | false => exact rb_5f fn addr count to bits regs A nb cb R nr cr w hA hR hm hy ha e hb
    · exact rb_6 fn addr count to bits regs A nb cb R nr cr w hA hR hm hy ha e r hr
    · exact rb_15 fn addr count to bits regs A nb cb R nr cr w hA hR hm hy ha e (by omega)
    · exact rb_16 fn addr count to bits regs A nb cb R nr cr w hA hR hm hy ha e (by omega)
    · exact rb_23 fn addr count to bits regs A nb cb R nr cr w hA hR hm hy ha e (by omega) (by omega) ht
end Go.Proofs.YtflbiichdjhaeaaDoor
