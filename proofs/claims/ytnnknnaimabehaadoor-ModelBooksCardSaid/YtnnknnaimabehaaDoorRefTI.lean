/- Totals and sums of the empty book, by whole numbers. -/
import Derived.Test.YtnnknnaimabehaaDoorLedRefT
namespace Go.Proofs.YtnnknnaimabehaaDoor
open Go.RowKit
theorem totI_nat (b : Bk) (m k : Nat) (hm : m < 64) (hk : k < 8) : b.totI m k = b.totAt m k := by
  unfold Bk.totI
  rw [if_pos ⟨by omega, by omega⟩]; simp
theorem sumI_nat (b : Bk) (m : Nat) (hm : m < 64) : b.sumI m = b.sumAt m := by
  unfold Bk.sumI
  rw [if_pos (by omega)]; simp
end Go.Proofs.YtnnknnaimabehaaDoor
