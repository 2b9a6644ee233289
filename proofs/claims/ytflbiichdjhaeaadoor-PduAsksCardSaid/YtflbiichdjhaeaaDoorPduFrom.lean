/- regs.FromBytes at whatever bytes; bytes.Equal. -/
import Derived.Test.YtflbiichdjhaeaaDoorPduConv
import Derived.Test.YtflbiichdjhaeaaDoorPduGuess
namespace Go.Proofs.YtflbiichdjhaeaaDoor
open Go.RowKit

theorem wordsK_P (xs : List Int) (m : Nat) (h : xs.length = 2 * m) : wordsK xs (List.finRange m) = wordsP xs := by
  apply List.ext_getElem
  · simp [wordsK, wordsP, h]
  · intro i h1 h2
    simp [wordsK, wordsP, wordK, wordP]
/-- The registers that bytes are. -/
def fromP (xs : List Int) : List Int := if xs.length % 2 = 0 then wordsP xs else []
set_option maxHeartbeats 1000000 in
theorem from_any (A : Option Addr) (n c : Nat) (xs : List Int) (hn : n ≤ 1000000) (w : World) (h : SlI w w.heap.size .u8 A n c xs) (hx : Byte8 xs) :
    Calls Tryd.prog 37 #[.slice A n c] w fun e w' => ∃ A' n' c' q, e = .returned (.tuple #[.slice A' n' c', .int .i64 q]) ∧ SlI w' w'.heap.size .u16 A' n' c' (fromP xs) ∧ Below w.heap.size w w' := by
  by_cases he : n % 2 = 0
  · obtain ⟨m, rfl⟩ : ∃ m, n = 2 * m := ⟨n / 2, by omega⟩
    refine ((callsIn_wide (n := 5)).1 (frombytes_in A (2 * m) c m xs hn rfl h.2.1 h.1 hx w h.2.2.2.2)).mono ?_
    rintro e w' ⟨v, rfl, ho, hb⟩
    obtain ⟨A', c', rfl, hs⟩ := SlI.of_own ho
    refine ⟨A', m, c', 0, rfl, ?_, hb⟩
    unfold fromP
    rw [if_pos (by rw [h.1]; exact he), ← wordsK_P xs m h.1]
    exact hs
  · have h1 : ((n : Int).tmod 2 != 0) = true := by rw [Int.tmod_eq_emod_of_nonneg (by omega)]; simp; omega
    have h2 : ((n : Int) % 2 != 0) = true := by simp; omega
    have HE : Hid (fromP xs = []) := Lib.hid (by unfold fromP; rw [if_neg (by rw [h.1]; exact he)])
    clear h hx he
    go_in
    go_wp2
    go_ret2
    exact ⟨none, 0, 0, _, rfl, by rw [HE.out]; exact SlI.nil _ _ _, Below.refl _ _⟩
set_option maxHeartbeats 1000000 in
theorem equal_bytes (A B : Option Addr) (n c m d : Nat) (xs ys : List Int) (w : World) (h1 : SlI w w.heap.size .u8 A n c xs) (h2 : SlI w w.heap.size .u8 B m d ys) (b1 : Byte8 xs) (b2 : Byte8 ys) :
    Calls Tryd.prog 38 #[.slice A n c, .slice B m d] w fun e w' => e = .returned (.bool (decide (xs = ys))) ∧ w = w' := by
  have k1 := conv_sli h1
  have k2 := conv_sli h2
  have hs := str_eq xs ys b1 b2
  obtain ⟨S1, hS1⟩ : ∃ S, strOfNums xs = S := ⟨_, rfl⟩
  obtain ⟨S2, hS2⟩ : ∃ S, strOfNums ys = S := ⟨_, rfl⟩
  obtain ⟨q, hq⟩ : ∃ q, decide (xs = ys) = q := ⟨_, rfl⟩
  rw [hS1] at k1
  rw [hS2] at k2
  rw [hS1, hS2, hq] at hs
  rw [hq]
  clear h1 h2 b1 b2 hS1 hS2 hq
  go_in
  go_wp2
  go_ret
  exact ⟨rfl, rfl⟩
end Go.Proofs.YtflbiichdjhaeaaDoor
