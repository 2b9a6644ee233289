/- Bytes as a string. -/
import Derived.Test.YtflbiichdjhaeaaDoorPduBytes
namespace Go.Proofs.YtflbiichdjhaeaaDoor
open Go.RowKit

theorem conv_sli {W : World} {A : Option Addr} {n c : Nat} {L : List Int} (h : SlI W W.heap.size .u8 A n c L) : (convert 28 9 (.slice A n c)).run Tryd.prog W = .ok (.string (strOfNums L)) W := by
  by_cases h0 : n = 0
  · subst h0
    obtain rfl : L = [] := List.length_eq_zero_iff.1 h.1
    rw [run_convert_bytes_string W 28 9 5 _ 0 c Tryd.underlying28 Tryd.underlying5 Tryd.underlying9]
    cases A <;> simp [Conv.bytesToString, loadCells] <;> rfl
  · obtain ⟨g, off, rfl, _, hc⟩ := h.2.2.2.2 (by rw [h.1]; omega)
    exact run_convert_bytes_arg (P := Tryd.prog) W 28 5 Tryd.underlying28 Tryd.underlying5 g off n c L h.1 (fun i hi => by
      have h1 : L[i]? = some (L[i]'(by rw [h.1]; exact hi)) := List.getElem?_eq_getElem _
      rw [hc i _ h1, List.getD, h1]; rfl) 9 Tryd.underlying9
/-- Two texts of bytes are the same just if the bytes are. -/
theorem str_eq (a b : List Int) (ha : Byte8 a) (hb : Byte8 b) : ((strOfNums a).toList == (strOfNums b).toList) = decide (a = b) := by
  have hinj : ∀ (a b : List Int), Byte8 a → Byte8 b → (a.map fun n => UInt8.ofNat n.toNat) = (b.map fun n => UInt8.ofNat n.toNat) → a = b := by
    intro a
    induction a with
    | nil => intro b _ _ h; cases b with
      | nil => rfl
      | cons _ _ => cases h
    | cons x t ih =>
      intro b ha hb h
      cases b with
      | nil => cases h
      | cons y u =>
        obtain ⟨hx, ht⟩ := ha.cons
        obtain ⟨hy, hu⟩ := hb.cons
        simp only [List.map_cons, List.cons.injEq] at h
        have h1 := congrArg UInt8.toNat h.1
        simp only [UInt8.toNat_ofNat'] at h1
        rw [ih u ht hu h.2]
        congr 1
        omega
  rw [Bool.eq_iff_iff, beq_iff_eq, decide_eq_true_eq, ByteArray.toList_eq, ByteArray.toList_eq, strOfNums_data, strOfNums_data]
  exact ⟨fun h => hinj a b ha hb h, fun h => by rw [h]⟩
end Go.Proofs.YtflbiichdjhaeaaDoor
