/- regs.Text. -/
import Derived.Test.YtnnknnaimabehaaRegsRefText
import Derived.Test.YtnnknnaimabehaaPrFromBytes
import Derived.Test.YtnnknnaimabehaaShelf
import Derived.Lib.BufferWrite
namespace Go.Proofs.Ytnnknnaimabehaa
open Go.RowKit
set_option maxRecDepth 100000

theorem index_at (s : ByteArray) (n : Int) (h : Lib.indexByte s.data.toList 0 = n) (w : World) : Calls Try.prog 76 #[.string s, .int .u8 0] w fun e w' => e = .returned (.int .i64 n) ∧ w = w' := by
  subst h
  exact (Try.strings_IndexByte s 0 w).mono fun _ _ ⟨h, h'⟩ => ⟨h, h'.symm⟩

/-- The bytes of a text, and noughts. -/
def padL (s : ByteArray) (k : Nat) : List Int := (List.range k).map (chr s)
theorem padL_len (s : ByteArray) (k : Nat) : (padL s k).length = k := by simp [padL]
theorem padL_words (s : ByteArray) (m : Nat) : wordsK (padL s (2 * m)) (List.finRange m) = txtL s m s.size := by
  rw [txtL_full]
  apply List.ext_getElem?
  intro k
  by_cases h : k < m
  · rw [wordsK, List.getElem?_map, List.getElem?_eq_getElem (by rw [List.length_finRange]; exact h), List.getElem_finRange, List.getElem?_map, List.getElem?_range h]
    simp only [Option.map_some, wordK]
    have h1 : (padL s (2 * m))[2 * k]? = some (chr s (2 * k)) := by rw [padL, List.getElem?_map, List.getElem?_range (by omega)]; rfl
    have h2 : (padL s (2 * m))[2 * k + 1]? = some (chr s (2 * k + 1)) := by rw [padL, List.getElem?_map, List.getElem?_range (by omega)]; rfl
    simp [List.getD, h1, h2]
  · rw [List.getElem?_eq_none (by simp [wordsK]; omega), List.getElem?_eq_none (by simp; omega)]

theorem text_any (s : ByteArray) (many : Int) (w : World) :
    Calls Try.prog 73 #[.string s, .int .i64 many] w fun e w' => TextPost s many w e w' := by
  obtain ⟨i0, hi, hz0, hz1, hz2⟩ := info_parts infoB
  by_cases h0 : many < 0
  · have hno : ¬ txtOk s many := fun h => by have := h.1; omega
    go_in; go_wp2; go_ret2; exact Or.inr ⟨hno, rfl, Below.refl _ _⟩
  by_cases h1 : 125 < many
  · have hno : ¬ txtOk s many := fun h => by have := h.2.1; omega
    go_in; go_wp2; go_ret2; exact Or.inr ⟨hno, rfl, Below.refl _ _⟩
  obtain ⟨m, rfl⟩ := Int.eq_ofNat_of_zero_le (show 0 ≤ many by omega)
  by_cases h2 : 2 * m < s.size
  · have hno : ¬ txtOk s m := fun h => by have := h.2.2.1; omega
    go_in; go_wp2; go_ret2; exact Or.inr ⟨hno, rfl, Below.refl _ _⟩
  have hm : m ≤ 125 := by omega
  have hsz : s.size ≤ 2 * m := by omega
  obtain ⟨n, hn⟩ : ∃ n, Lib.indexByte s.data.toList 0 = n := ⟨_, rfl⟩
  have C := Lib.hid fun W => index_at s n hn W
  have hz := noZero_iff s
  rw [hn] at hz
  clear hn
  by_cases h3 : 0 ≤ n
  · have hno : ¬ txtOk s m := fun h => hz.1 h.2.2.2 h3
    have HNO := Lib.hid hno
    clear hno hz
    go_in
    go_wp2_with (go_at_call 76; refine (C.out _).mono ?_; rintro e w' ⟨rfl, rfl⟩)
    go_ret2
    exact Or.inr ⟨HNO.out, rfl, Below.refl _ _⟩
  · have hok : txtOk s m := ⟨by omega, by omega, by omega, hz.2 h3⟩
    have HOK := Lib.hid hok
    have k3 : decide (0 ≤ n) = false := by simpa using h3
    clear hok hz h0 h1 h2 h3
    have hm2 : 2 * m ≤ 250 := by omega
    go_in
    go_wp2_with (first
      | (go_at_call 76; refine (C.out _).mono ?_; rintro e w' ⟨rfl, rfl⟩)
      | (at_make; (refine wpList_make_full _ rfl _ _ 94 rfl w.heap.size 5 i0 (.int .u8 0) 1 Try.underlying94 hi hz0 hz1 _ _ _ _ (2 * m) rfl rfl (by omega) (by omega) (by rw [hz2]; omega) (by unfold maxLen; omega) (Nat.le_refl _) ?_); intro w1 hown1 hgrow1))
    have hown1 : w1.ownsRow w.heap.size 5 1 (.slice (some ⟨w.heap.size, 0, none⟩) (2 * m) (2 * m)) (2 * m) ((List.replicate (2 * m) 0).map (.int .u8)) := by
      simpa [toList_madeCells_one, Value.cells] using hown1
    have hb1 : Below w.heap.size w w1 := (Below.refl _ _).grown hgrow1 (Nat.le_refl _) (fun k hk => by cases hk)
    obtain ⟨cur, hblk, hcs, hcz⟩ : ∃ cur : Array Value, w1.heap[w.heap.size]? = some (.cells cur 5 (0, 0)) ∧ cur.size = 2 * m ∧ cur.toList = (List.replicate (2 * m) 0).map (Value.int .u8) := by
      rcases hown1.2 with ⟨h, _⟩ | ⟨g, cap, cur, hv, _, hh, h1, h2, h3, h4⟩
      · cases h
      · cases hv
        refine ⟨cur, hh, by omega, ?_⟩
        rw [← h4, List.take_of_length_le (by rw [Array.length_toList]; omega)]
    have hcopy := Lib.run_copy_row_string (P := Try.prog) w1 94 9 3 5 w.heap.size 0 (2 * m) (2 * m) s cur 5 Try.underlying94 (by kernel_rfl) hblk hsz (by omega)
    generalize hcells : ((cur.toList.take 0 ++ Lib.byteCells s.data.toList ++ cur.toList.drop (0 + s.size)).toArray) = cells at hcopy
    have hcl : cells.toList = (padL s (2 * m)).map (Value.int .u8) := by
      rw [← hcells, hcz]
      apply List.ext_getElem?
      intro k
      have hbl : (Lib.byteCells s.data.toList).length = s.size := by rw [Lib.byteCells_length, Array.length_toList]; rfl
      simp only [List.take_zero, List.nil_append, Nat.zero_add, List.drop_replicate, List.map_replicate]
      rcases Nat.lt_or_ge k s.size with h | h
      · rw [List.getElem?_append_left (by rw [hbl]; exact h)]
        have h1 : (padL s (2 * m))[k]? = some (chr s k) := by rw [padL, List.getElem?_map, List.getElem?_range (by omega)]; rfl
        have h2 : s.data.toList[k]? = some (s.data.toList.getD k 0) := by
          have : k < s.data.toList.length := by rw [Array.length_toList]; exact h
          rw [List.getD, List.getElem?_eq_getElem this]; rfl
        rw [List.getElem?_map, h1, Lib.byteCells, List.getElem?_map, h2]
        rfl
      · rw [List.getElem?_append_right (by rw [hbl]; exact h), hbl]
        rcases Nat.lt_or_ge k (2 * m) with h3 | h3
        · have h1 : (padL s (2 * m))[k]? = some (chr s k) := by rw [padL, List.getElem?_map, List.getElem?_range (by omega)]; rfl
          rw [List.getElem?_map, h1, chr_out s k h, List.getElem?_replicate, if_pos (by omega)]
          rfl
        · rw [List.getElem?_eq_none (by simp; omega), List.getElem?_eq_none (by simp [padL_len]; omega)]
    have hb2 : Below w.heap.size w (w1.setRow w.heap.size cells) := hb1.trans ⟨rfl, rfl, rfl, by simp, fun k hk => setRow_other w1 w.heap.size k cells (by omega)⟩
    have hblk2 := setRow_heap w1 w.heap.size cur cells 5 (0, 0) hblk
    have hR : RdI (w1.setRow w.heap.size cells) (w1.setRow w.heap.size cells).heap.size .u8 (some ⟨w.heap.size, 0, none⟩) (padL s (2 * m)) := fun _ => ⟨w.heap.size, 0, rfl, by have := (Array.getElem?_eq_some_iff.1 hblk2).1; omega, fun k x hk => by
      rw [Nat.zero_add, cell_of_row _ _ _ _ _ _ hblk2]
      have : cells.toList[k]? = some (.int .u8 x) := by rw [hcl, List.getElem?_map, hk]; rfl
      simpa using this⟩
    generalize w1.setRow w.heap.size cells = w2 at hcopy hb2 hblk2 hR
    have F := Lib.hid ((callsIn_wide (n := 5)).1 (frombytes_in (some ⟨w.heap.size, 0, none⟩) (2 * m) (2 * m) m (padL s (2 * m)) (by omega) rfl (Nat.le_refl _) (padL_len _ _) (fun x hx => by
      simp only [padL, List.mem_map] at hx
      obtain ⟨k, _, rfl⟩ := hx
      exact chr_in s k) w2 hR))
    clear hcells hcl hblk2 hR hblk hcz hcs hown1 hgrow1
    rw [hcopy]
    simp only [Result.andThen]
    rw [Oper.upon_value]
    go_wp2_with (go_at_call 77; refine F.out.mono ?_; rintro e w3 ⟨v, rfl, hown, hb3⟩)
    go_ret2
    rw [padL_words] at hown
    exact Or.inl ⟨HOK.out, v, m, rfl, rfl, own_base hown hb2.size, hb2.trans (hb3.mono hb2.size)⟩
end Go.Proofs.Ytnnknnaimabehaa
