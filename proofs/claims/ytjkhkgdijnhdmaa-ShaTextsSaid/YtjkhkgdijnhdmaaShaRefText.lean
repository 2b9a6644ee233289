/- kilowattref04.Text. -/
import Derived.Test.YtjkhkgdijnhdmaaShaText
import Derived.Deep.RegionHeld3
import Derived.Deep.AppendLies
import Derived.Laws.BytesArg
namespace Go.Proofs.Ytjkhkgdijnhdmaa
open Go.RowKit

theorem infoU8 : (Try.prog.info? 5).map (fun i => (i.zero, i.size, i.bytes)) = some (some (.int .u8 0), 1, 1) := by kernel_rfl

theorem nibble_at (n m : Int) (h0 : 0 ≤ n) (h1 : n < 16) (hm : nib n = m) (w : World) : Calls Try.prog 9 #[.int .u8 n] w fun e w' => e = .returned (.int .u8 m) ∧ w' = w := by
  subst hm
  exact (nibble_any n h0 h1 w).mono fun _ _ ⟨h, h'⟩ => ⟨h, h'.symm⟩

theorem reftext_any (h : List Int) (hl : h.length = 32) (hi : ∀ x ∈ h, 0 ≤ x ∧ x < 256) (w : World) :
    Calls Try.prog 7 #[.agg (cellsU h)] w fun e w' => e = .returned (.string ⟨(bytesOf (hexL h)).toArray⟩) ∧ Below w.heap.size w w' := by
  obtain ⟨i0, hj0, hz0, hz1, hz2⟩ := info_parts infoU8
  have HI := Lib.hid hi
  clear hi
  go_in
  go_wp2
  go_loopw [3, 4] (fun u i wr => ∃ (j : Nat), j ≤ 32 ∧ i = .int .i64 j ∧ wr.heap[w.heap.size]? = some (.cells (cellsU h) 23 (0, 0)) ∧ wr.ownsRow (w.heap.size + 1) 5 1 u (2 * j) ((hexL (h.take j)).map (Value.int .u8)) ∧ Below w.heap.size w wr) (fun _ i _ => 32 - (intOf i).toNat)
  case atStart => exact ⟨0, by omega, rfl, heap_alloc_new _ _, World.ownsRow_nil _ _ _ _, (Below.refl _ w).alloc (Nat.le_refl _) _⟩
  case round =>
    obtain ⟨j, hj, rfl, hblk, hown, hbel⟩ := hrel
    by_cases hlt : j < 32
    · obtain ⟨x, hx⟩ : ∃ x, h[j]? = some x := ⟨_, List.getElem?_eq_getElem (by omega)⟩
      have hc : wr.cell? ⟨w.heap.size, j, none⟩ = some (.int .u8 x) := by rw [cell_of_row _ _ _ _ _ _ hblk]; simp [cellsU, hx]
      obtain ⟨b1, b2⟩ := HI.out x (List.mem_of_getElem? hx)
      have HX := Lib.hid hx
      have hsz0 : w.heap.size < wr.heap.size := by
        rcases Nat.lt_or_ge w.heap.size wr.heap.size with h' | h'
        · exact h'
        · simp [Array.getElem?_eq_none h'] at hblk
      have HBLK := Lib.hid hblk
      have e1 : IntKind.u8.wrap (x.tdiv 16) = x / 16 := by rw [Int.tdiv_eq_ediv_of_nonneg b1]; exact IntWalk.u8_in _ (by omega)
      have e2 : x.tmod 16 = x % 16 := Int.tmod_eq_emod_of_nonneg b1
      have hlen : (hexL (h.take j)).length = 2 * j := by rw [hexL_len]; simp; omega
      have HN := Lib.hid (And.intro (nib_in (x / 16) (by omega) (by omega)) (nib_in (x % 16) (by omega) (by omega)))
      generalize hA : nib (x / 16) = na at HN
      generalize hB : nib (x % 16) = nb at HN
      have c1 := fun W => nibble_at (IntKind.u8.wrap (x.tdiv 16)) na (by rw [e1]; omega) (by rw [e1]; omega) (by rw [e1]; exact hA) W
      have c2 := fun W => nibble_at (x.tmod 16) nb (by rw [e2]; omega) (by rw [e2]; omega) (by rw [e2]; exact hB) W
      have C1 := Lib.hid c1
      have C2 := Lib.hid c2
      have HA := Lib.hid hA
      have HB := Lib.hid hB
      clear hx hblk c1 c2 hA hB e1 e2
      go_wp2
      go_region_held3 (fun w' => w'.cell? ⟨w.heap.size, j, none⟩ = some (.int .u8 x))
        (first
          | go_keep
          | (rw [hgrow.cell_far _ (by simp; omega) (fun e => by have := (hown.lt _ e.symm).1; simp at this; omega)]; assumption))
        (first
          | (go_at_call 9; (with_reducible refine (C1.out _).mono ?_); rintro e w' ⟨rfl, rfl⟩)
          | (go_at_call 9; (with_reducible refine (C2.out _).mono ?_); rintro e w' ⟨rfl, rfl⟩)
          | (refine step_append_lies _ (by rfl) _ _ _ (by rfl) (w.heap.size + 1) 5 i0 (.int .u8 0) 1 1 Try.underlying35 hj0 hz0 hz1 hz2 rfl (by decide) u3 (2 * j) _ (by rfl) ((hown.alloc _).drew)
              ⟨wr.heap.size, 0, none⟩ 2 2 [.int .u8 na, .int .u8 nb] (by rfl) (by rfl) (World.news_of_block (cs := #[.int .u8 na, .int .u8 nb]) (t := 5) (fr := (0, 0)) (heap_alloc_new wr _)) (by simp [Value.oneCell'])
              (by omega) (by unfold maxLen; omega) (by omega) (by simp; omega) (wr.heap.size + 1) (by simp) ?_; intro gg cap w1 hown' hgrow hat hlt2))
      go_wp2
      go_roundw
      case rel =>
        refine ⟨j + 1, by omega, by go_num, ?_, ?_, ?_⟩
        · rw [hgrow.block _ (by simp; omega) (fun e => by have := (hown.lt _ e.symm).1; omega)]
          exact (Lib.alloc_old wr _ _ hsz0).trans HBLK.out
        · rw [hexL_take _ _ _ HX.out, HA.out, HB.out]
          simpa [Nat.mul_add] using hown'
        · exact ((hbel.alloc (by have := hbel.size; omega) _).drew).grown hgrow (by have := hbel.size; simp; omega) (fun k hk => by have := (hown.lt k hk).1; omega)
      case measure => simp [intOf]; omega
    · obtain rfl : j = 32 := by omega
      have hL : hexL (h.take 32) = hexL h := by rw [List.take_of_length_le (by omega)]
      have hlen : (hexL h).length = 64 := by rw [hexL_len]; omega
      rw [hL] at hown
      obtain ⟨g, cap, rfl, _⟩ := own_pos hown (by omega)
      have hcv := run_convert_bytes_arg (P := Try.prog) wr 35 5 Try.underlying35 Try.underlying5 g 0 (2 * 32) cap (hexL h) hlen (fun i hi => by
        obtain ⟨y, hy, hc, _⟩ := own_at hown (i := i) (by omega)
        simpa [List.getD, hy] using hc) 9 Try.underlying9
      go_wp2
      go_ret
      exact ⟨rfl, hbel⟩

end Go.Proofs.Ytjkhkgdijnhdmaa
