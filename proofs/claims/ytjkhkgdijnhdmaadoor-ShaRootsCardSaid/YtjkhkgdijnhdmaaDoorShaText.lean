/- The text of a hash. -/
import Derived.Test.YtjkhkgdijnhdmaaDoorShaPlain
import Derived.Test.YtjkhkgdijnhdmaaDoorShaBuild
import Derived.WalkSpells
import Derived.WalkLawsBesides
import Derived.BigQuiet
import Derived.Deep.QuietTactic
import Derived.Lib.Hide
import Derived.Laws.IdiomArrays
import Derived.Laws.ByValue
namespace Go.Proofs.YtjkhkgdijnhdmaaDoor
open Go.RowKit

/-- A hash, as a value. -/
def cellsU (h : List Int) : Array Value := (h.map (Value.int .u8)).toArray

theorem cellsU_size (h : List Int) : (cellsU h).size = h.length := by simp [cellsU]
theorem hashInfo : (Tryd.prog.info? 35).map (fun i => (i.zero, i.size)) = some (some (.agg (cellsU (List.replicate 32 0))), 32) := by kernel_rfl
theorem hashSize : (Tryd.prog.info? 35).map (·.size) = some 32 := by kernel_rfl

theorem index_hash (h : List Int) (j : Nat) (x : Int) (hx : h[j]? = some x) (hj : j < 32) (w : World) : (Instr.index 35 (.agg (cellsU h)) (.int .i64 j)).run Tryd.prog w = .ok (.int .u8 x) w := by
  have hc : (cellsU h)[j]? = some (.int .u8 x) := by simp [cellsU, hx]
  have e1 : (0 : Int) ≤ j ∧ (j : Int) < ((32 : Nat) : Int) := by omega
  have e2 := Tryd.sizeOf5
  have e3 := Tryd.isAgg5
  have e4 := run_underlying Tryd.underlying35
  simp [Instr.index, e4, asIntOf, e2, part, e3, hc, go_sem]
  omega

theorem digit_at (n : Int) (h0 : 0 ≤ n) (h1 : n < 16) (hp : n.toNat < (⟨#[48, 49, 50, 51, 52, 53, 54, 55, 56, 57, 97, 98, 99, 100, 101, 102]⟩ : ByteArray).size) :
    (((⟨#[48, 49, 50, 51, 52, 53, 54, 55, 56, 57, 97, 98, 99, 100, 101, 102]⟩ : ByteArray)[n.toNat]'hp).toNat : Int) = nib n := by
  have : n = 0 ∨ n = 1 ∨ n = 2 ∨ n = 3 ∨ n = 4 ∨ n = 5 ∨ n = 6 ∨ n = 7 ∨ n = 8 ∨ n = 9 ∨ n = 10 ∨ n = 11 ∨ n = 12 ∨ n = 13 ∨ n = 14 ∨ n = 15 := by omega
  rcases this with rfl | rfl | rfl | rfl | rfl | rfl | rfl | rfl | rfl | rfl | rfl | rfl | rfl | rfl | rfl | rfl <;> rfl
theorem byteCells_of (l : List Int) (h : ∀ x ∈ l, 0 ≤ x ∧ x < 256) : Lib.byteCells (bytesOf l) = l.map (Value.int .u8) := by
  unfold Lib.byteCells bytesOf
  rw [List.map_map]
  refine List.map_congr_left fun x hx => ?_
  have := h x hx
  simp
  omega

theorem text_any (h : List Int) (hl : h.length = 32) (hi : ∀ x ∈ h, 0 ≤ x ∧ x < 256) (w : World) :
    Calls Tryd.prog 25 #[.agg (cellsU h)] w fun e w' => e = .returned (.string ⟨(bytesOf (hexL h)).toArray⟩) ∧ Below w.heap.size w w' := by
  have hs : (Tryd.prog.info? 35).map (·.size) = some (cellsU h).size := by rw [cellsU_size, hl]; exact hashSize
  go_in
  go_wp2_with (refine wpList_load_row rfl 35 (.tmp 1) rfl w.heap.size rfl 35 (cellsU h) (0, 0) _ (heap_alloc2_old w _ _) Tryd.underlying35 rfl hs ?_)
  go_loopw [5, 7] (fun u i wr => ∃ (j : Nat), j ≤ 32 ∧ i = .int .i64 j ∧ Lib.IsBuilder 83 5 (w.heap.size + 1) (w.heap.size + 1) ((hexL (h.take j)).map (Value.int .u8)) wr ∧ Below w.heap.size w wr) (fun _ i _ => 32 - (intOf i).toNat)
  case atStart =>
    refine ⟨0, by omega, rfl, ?_, ((Below.refl _ w).alloc (Nat.le_refl _) _).alloc (by simp) _⟩
    have := Lib.fresh_isBuilder 83 5 (w.alloc (.cells (cellsU h) 35))
    have e : (w.alloc (.cells (cellsU h) 35)).heap.size = w.heap.size + 1 := by show (w.heap.push _).size = _; exact Array.size_push _
    rw [e] at this
    exact this
  case round =>
    obtain ⟨j, hj, rfl, hb, hbel⟩ := hrel
    by_cases hlt : j < 32
    · obtain ⟨x, hx⟩ : ∃ x, h[j]? = some x := ⟨_, List.getElem?_eq_getElem (by omega)⟩
      have hix := index_hash h j x hx hlt
      obtain ⟨b1, b2⟩ := hi x (List.mem_of_getElem? hx)
      have HX := Lib.hid hx
      clear hx
      have hlt0 : w.heap.size + 1 < wr.heap.size := by rcases hb with h | h <;> exact h.lt
      go_wp2_with fail
      go_at_call 48
      refine (write_byte (w.heap.size + 1) (w.heap.size + 1) _ _ _ hb (by simp [hexL_len]; omega) (by omega)).mono ?_
      rintro e w1 ⟨rfl, hb1, hbel1⟩
      go_wp2_with fail
      go_at_call 48
      refine (write_byte (w.heap.size + 1) (w.heap.size + 1) _ _ _ (Or.inr hb1) (by simp [hexL_len]; omega) (by have := hbel1.size; omega)).mono ?_
      rintro e w2 ⟨rfl, hb2, hbel2⟩
      go_wp2
      go_roundw
      case rel =>
        refine ⟨j + 1, by omega, rfl, Or.inr ?_, ?_⟩
        · rw [hexL_take _ _ _ HX.out]
          rw [digit_at _ (by omega) (by omega), digit_at _ (by omega) (by omega)] at hb2
          simpa [List.append_assoc] using hb2
        · exact hbel.trans ((hbel1.trans hbel2).mono (by omega))
      case measure => simp [intOf]; omega
    · obtain rfl : j = 32 := by omega
      have hL : hexL (h.take 32) = hexL h := by rw [List.take_of_length_le (by omega)]
      rw [hL, ← byteCells_of _ (hexL_in h hi)] at hb
      have hlt0 : w.heap.size + 1 < wr.heap.size := by rcases hb with h | h <;> exact h.lt
      go_wp2_with fail
      refine (Tryd.Builder_String_any (w.heap.size + 1) (w.heap.size + 1) (bytesOf (hexL h)) _ hb (by omega)).mono ?_
      rintro e w1 ⟨rfl, hbel1⟩
      go_wp2
      go_ret
      exact ⟨rfl, hbel.trans (hbel1.mono (by omega))⟩

end Go.Proofs.YtjkhkgdijnhdmaaDoor
