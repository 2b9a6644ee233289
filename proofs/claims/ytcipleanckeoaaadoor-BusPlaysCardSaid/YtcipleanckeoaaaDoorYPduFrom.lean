/- Bytes as a string. -/
import Derived.Test.YtcipleanckeoaaaDoorYPduBytes
import Derived.Test.YtcipleanckeoaaaDoorYPduBase
set_option maxRecDepth 100000
set_option maxHeartbeats 40000000
namespace Go.Proofs.YtcipleanckeoaaaDoor
open Go.RowKit
theorem conv_sli {W : World} {A : Option Addr} {n c : Nat} {L : List Int} (h : SlI W W.heap.size .u8 A n c L) : (convert 22 9 (.slice A n c)).run Tryd.prog W = .ok (.string (strOfNums L)) W := by
 by_cases h0 : n = 0
 ·subst h0
  obtain rfl : L = [] := List.length_eq_zero_iff.1 h.1
  rw [run_convert_bytes_string W 22 9 5 _ 0 c Tryd.underlying22 Tryd.underlying5 Tryd.underlying9]
  cases A <;> simp [Conv.bytesToString, loadCells] <;> rfl
 ·obtain ⟨g, off, rfl, _, hc⟩ := h.2.2.2.2 (by rw [h.1]; omega)
  exact run_convert_bytes_arg (P := Tryd.prog) W 22 5 Tryd.underlying22 Tryd.underlying5 g off n c L h.1 (fun i hi => by
   have h1 : L[i]? = some (L[i]'(by rw [h.1]; exact hi)) := List.getElem?_eq_getElem _
   rw [hc i _ h1, List.getD, h1]; rfl) 9 Tryd.underlying9
theorem str_eq (a b : List Int) (ha : Byte8 a) (hb : Byte8 b) : ((strOfNums a).toList == (strOfNums b).toList) = decide (a = b) := by
 have hinj : ∀ (a b : List Int), Byte8 a → Byte8 b → (a.map fun n => UInt8.ofNat n.toNat) = (b.map fun n => UInt8.ofNat n.toNat) → a = b := by
  intro a
  induction a with
  | nil => intro b _ _ h; cases b with
   | nil => rfl
   | cons _ _ => cases h
  | cons x t ih =>
   intro b ha hb h
   cases b with
   | nil => cases h
   | cons y u =>
    obtain ⟨hx, ht⟩ := ha.cons
    obtain ⟨hy, hu⟩ := hb.cons
    simp only [List.map_cons, List.cons.injEq] at h
    have h1 := congrArg UInt8.toNat h.1
    simp only [UInt8.toNat_ofNat'] at h1
    rw [ih u ht hu h.2]
    congr 1
    omega
 rw [Bool.eq_iff_iff, beq_iff_eq, decide_eq_true_eq, ByteArray.toList_eq, ByteArray.toList_eq, strOfNums_data, strOfNums_data]
 exact ⟨fun h => hinj a b ha hb h, fun h => by rw [h]⟩
theorem wordsK_P (xs : List Int) (m : Nat) (h : xs.length = 2 * m) : wordsK xs (List.finRange m) = wordsP xs := by
 apply List.ext_getElem
 ·simp [wordsK, wordsP, h]
 ·intro i h1 h2
  simp [wordsK, wordsP, wordK, wordP]
def fromP (xs : List Int) : List Int := if xs.length % 2 = 0 then wordsP xs else []
theorem from_any (A : Option Addr) (n c : Nat) (xs : List Int) (hn : n ≤ 1000000) (w : World) (h : SlI w w.heap.size .u8 A n c xs) (hx : Byte8 xs) :
  Calls Tryd.prog 69 #[.slice A n c] w fun e w' => ∃ A' n' c' q, e = .returned (.tuple #[.slice A' n' c', .int .i64 q]) ∧ SlI w' w'.heap.size .u16 A' n' c' (fromP xs) ∧ Below w.heap.size w w' := by
 by_cases he : n % 2 = 0
 ·obtain ⟨m, rfl⟩ : ∃ m, n = 2 * m := ⟨n / 2, by omega⟩
  refine ((callsIn_wide (n := 5)).1 (frombytes_in A (2 * m) c m xs hn rfl h.2.1 h.1 hx w h.2.2.2.2)).mono ?_
  rintro e w' ⟨v, rfl, ho, hb⟩
  obtain ⟨A', c', rfl, hs⟩ := SlI.of_own ho
  refine ⟨A', m, c', 0, rfl, ?_, hb⟩
  unfold fromP
  rw [if_pos (by rw [h.1]; exact he), ← wordsK_P xs m h.1]
  exact hs
 ·have h1 : ((n : Int).tmod 2 != 0) = true := by rw [Int.tmod_eq_emod_of_nonneg (by omega)]; simp; omega
  have h2 : ((n : Int) % 2 != 0) = true := by simp; omega
  have HE : Hid (fromP xs = []) := Lib.hid (by unfold fromP; rw [if_neg (by rw [h.1]; exact he)])
  clear h hx he
  go_in
  go_wp2
  go_ret2
  exact ⟨none, 0, 0, _, rfl, by rw [HE.out]; exact SlI.nil _ _ _, Below.refl _ _⟩
end Go.Proofs.YtcipleanckeoaaaDoor
