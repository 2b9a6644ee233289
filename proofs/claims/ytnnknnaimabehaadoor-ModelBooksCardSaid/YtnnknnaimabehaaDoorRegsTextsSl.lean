/- kilowattref02.Text. -/
import Derived.Test.YtnnknnaimabehaaDoorRegsLaws
import Derived.Test.YtnnknnaimabehaaDoorPrFromBytes
import Derived.Test.YtnnknnaimabehaaDoorShelf
import Derived.Lib.BufferWrite
import Derived.Laws.BytesArg
import Derived.ProofKit
import Derived.Lib.Bytealg
import Derived.Test.YtnnknnaimabehaaDoorScope
namespace Go.Proofs.YtnnknnaimabehaaDoor
open Go.RowKit
set_option maxRecDepth 100000

theorem index_str (s : ByteArray) (i : Nat) (hi : i < s.size) (w : World) : (Instr.index 9 (.string s) (.int .i64 i)).run Tryd.prog w = .ok (.int .u8 (chr s i)) w := by
  rw [run_index_string w _ _ _ _ Tryd.underlying9, dif_pos (by omega)]
  have e : s.data[i]? = some s[i] := Array.getElem?_eq_getElem hi
  simp [chr, List.getD, e]

/-- What Text answers. -/
def TextPost (s : ByteArray) (many : Int) (w : World) (e : Ending) (w' : World) : Prop :=
  (txtOk s many ∧ ∃ (u : Value) (k : Nat), (k : Int) = many ∧ e = .returned (.tuple #[u, .int .i64 0]) ∧ w'.ownsRow w.heap.size 77 1 u k ((txtL s k s.size).map (.int .u16)) ∧ Below w.heap.size w w') ∨
  (¬ txtOk s many ∧ e = .returned (.tuple #[.slice none 0 0, .int .i64 20]) ∧ Below w.heap.size w w')

theorem reftext_any (s : ByteArray) (many : Int) (w : World) :
    Calls Tryd.prog 17 #[.string s, .int .i64 many] w fun e w' => TextPost s many w e w' := by
  obtain ⟨i0, hi, hz0, hz1, hz2⟩ := info_parts infoU16
  by_cases h0 : many < 0
  · have hno : ¬ txtOk s many := fun h => by have := h.1; omega
    go_in; go_wp2; go_ret2; exact Or.inr ⟨hno, rfl, Below.refl _ _⟩
  by_cases h1 : 125 < many
  · have hno : ¬ txtOk s many := fun h => by have := h.2.1; omega
    go_in; go_wp2; go_ret2; exact Or.inr ⟨hno, rfl, Below.refl _ _⟩
  obtain ⟨m, rfl⟩ := Int.eq_ofNat_of_zero_le (show 0 ≤ many by omega)
  by_cases h2 : 2 * m < s.size
  · have hno : ¬ txtOk s m := fun h => by have := h.2.2.1; omega
    go_in; go_wp2; go_ret2; exact Or.inr ⟨hno, rfl, Below.refl _ _⟩
  have hm : m ≤ 125 := by omega
  have hsz : s.size ≤ 2 * m := by omega
  clear h0 h1 h2
  go_in
  go_wp2
  go_loopw [6] (fun i wr => ∃ j : Nat, j ≤ s.size ∧ i = .int .i64 j ∧ (∀ k, k < j → chr s k ≠ 0) ∧ wr = w) (fun i _ => s.size - (intOf i).toNat)
  case atStart => exact ⟨0, by omega, rfl, fun k hk => by omega, rfl⟩
  case round =>
    obtain ⟨j, hj, rfl, hnz, rfl⟩ := hrel
    by_cases hlt : j < s.size
    · have hix := index_str s j hlt
      by_cases hz : chr s j = 0
      · have hno : ¬ txtOk s m := fun h => h.2.2.2 j hlt hz
        have HNO := Lib.hid hno
        clear hno hnz
        rw [hz] at hix
        go_wp2
        go_ret2
        exact Or.inr ⟨HNO.out, rfl, Below.refl _ _⟩
      · have k1 : (chr s j == 0) = false := by simpa using hz
        have HNZ := Lib.hid hnz
        have HZ := Lib.hid hz
        clear hnz hz
        go_wp2
        go_roundw
        case rel =>
          refine ⟨j + 1, by omega, by go_num, fun k hk => ?_, by first | rfl | trivial⟩
          rcases Nat.lt_or_ge k j with h | h
          · exact HNZ.out k h
          · rw [show k = j by omega]; exact HZ.out
        case measure => simp [intOf]; omega
    · obtain rfl : j = s.size := by omega
      have hok : txtOk s m := ⟨by omega, by omega, by omega, hnz⟩
      have HOK := Lib.hid hok
      clear hok hnz
      obtain ⟨wo, rfl⟩ : ∃ wo : World, wo = wr := ⟨_, rfl⟩
      go_wp2_with (at_make; refine wpList_make_full _ rfl _ _ 22 rfl wo.heap.size 77 i0 (.int .u16 0) 1 Tryd.underlying22 hi hz0 hz1 _ _ _ _ m rfl rfl (by omega) (by omega) (by rw [hz2]; omega) (by unfold maxLen; omega) (Nat.le_refl _) ?_; intro w1 hown1 hgrow1)
      have hown1 : w1.ownsRow wo.heap.size 77 1 (.slice (some ⟨wo.heap.size, 0, none⟩) m m) m ((txtL s m 0).map (.int .u16)) := by
        rw [txtL_zero]
        simpa [toList_madeCells_one, Value.cells] using hown1
      go_loopw [8] (fun i wr => ∃ j : Nat, j ≤ s.size ∧ i = .int .i64 j ∧ wr.ownsRow wo.heap.size 77 1 (.slice (some ⟨wo.heap.size, 0, none⟩) m m) m ((txtL s m j).map (.int .u16)) ∧ Below wo.heap.size wo wr) (fun i _ => s.size - (intOf i).toNat)
      case atStart => exact ⟨0, by omega, rfl, hown1, (Below.refl _ _).grown hgrow1 (Nat.le_refl _) (fun k hk => by cases hk)⟩
      case round =>
        obtain ⟨j, hj, rfl, hown, hb⟩ := hrel
        by_cases hlt : j < s.size
        · have hix := index_str s j hlt
          have hjm : j / 2 < m := by omega
          obtain ⟨y, hy, hc, hf⟩ := own_at hown (i := j / 2) (by rw [txtL_len]; exact hjm)
          rw [txtL_get _ _ _ _ hjm] at hy
          injection hy with hy
          have hcin := chr_in s j
          have hfit := addC_fits s j
          have HST := Lib.hid (txtL_step s m j)
          rw [hy] at hfit HST
          have hyin := txtAt_in s j (j / 2)
          rw [hy] at hyin
          have HY := Lib.hid hy
          have hadd : addC s j = if j % 2 = 0 then chr s j * 256 else chr s j := rfl
          generalize hcc : chr s j = c at hix hcin hadd
          clear hy hcc
          by_cases hpar : j % 2 = 0
          · have hp2 : ((j : Int) % 2 == 0) = true := by simp; omega
            rw [if_pos hpar] at hadd
            generalize addC s j = ac at hadd hfit HST
            subst hadd
            go_wp2
            go_roundw
            case rel =>
              refine ⟨j + 1, by omega, by go_num, ?_, hb.setCell (p := ⟨wo.heap.size, j / 2, none⟩) (Nat.le_refl _) _⟩
              rw [← HST.out]
              exact own_set hown (j / 2) _
            case measure => simp [intOf]; omega
          · have hp2 : ((j : Int) % 2 == 0) = false := by simp; omega
            rw [if_neg hpar] at hadd
            generalize addC s j = ac at hadd hfit HST
            subst hadd
            go_wp2
            go_roundw
            case rel =>
              refine ⟨j + 1, by omega, by go_num, ?_, hb.setCell (p := ⟨wo.heap.size, j / 2, none⟩) (Nat.le_refl _) _⟩
              rw [← HST.out]
              exact own_set hown (j / 2) _
            case measure => simp [intOf]; omega
        · obtain rfl : j = s.size := by omega
          go_wp2
          go_ret2
          exact Or.inl ⟨HOK.out, _, m, rfl, rfl, hown, hb⟩
end Go.Proofs.YtnnknnaimabehaaDoor
namespace Go.Proofs.YtnnknnaimabehaaDoor
open Go.RowKit
set_option maxRecDepth 100000

theorem index_at (s : ByteArray) (n : Int) (h : Lib.indexByte s.data.toList 0 = n) (w : World) : Calls Tryd.prog 75 #[.string s, .int .u8 0] w fun e w' => e = .returned (.int .i64 n) ∧ w = w' := by
  subst h
  exact (Tryd.strings_IndexByte s 0 w).mono fun _ _ ⟨h, h'⟩ => ⟨h, h'.symm⟩

/-- The bytes of a text, and noughts. -/
def padL (s : ByteArray) (k : Nat) : List Int := (List.range k).map (chr s)
theorem padL_len (s : ByteArray) (k : Nat) : (padL s k).length = k := by simp [padL]
theorem padL_words (s : ByteArray) (m : Nat) : wordsK (padL s (2 * m)) (List.finRange m) = txtL s m s.size := by
  rw [txtL_full]
  apply List.ext_getElem?
  intro k
  by_cases h : k < m
  · rw [wordsK, List.getElem?_map, List.getElem?_eq_getElem (by rw [List.length_finRange]; exact h), List.getElem_finRange, List.getElem?_map, List.getElem?_range h]
    simp only [Option.map_some, wordK]
    have h1 : (padL s (2 * m))[2 * k]? = some (chr s (2 * k)) := by rw [padL, List.getElem?_map, List.getElem?_range (by omega)]; rfl
    have h2 : (padL s (2 * m))[2 * k + 1]? = some (chr s (2 * k + 1)) := by rw [padL, List.getElem?_map, List.getElem?_range (by omega)]; rfl
    simp [List.getD, h1, h2]
  · rw [List.getElem?_eq_none (by simp [wordsK]; omega), List.getElem?_eq_none (by simp; omega)]

theorem text_any (s : ByteArray) (many : Int) (w : World) :
    Calls Tryd.prog 72 #[.string s, .int .i64 many] w fun e w' => TextPost s many w e w' := by
  obtain ⟨i0, hi, hz0, hz1, hz2⟩ := info_parts infoB
  by_cases h0 : many < 0
  · have hno : ¬ txtOk s many := fun h => by have := h.1; omega
    go_in; go_wp2; go_ret2; exact Or.inr ⟨hno, rfl, Below.refl _ _⟩
  by_cases h1 : 125 < many
  · have hno : ¬ txtOk s many := fun h => by have := h.2.1; omega
    go_in; go_wp2; go_ret2; exact Or.inr ⟨hno, rfl, Below.refl _ _⟩
  obtain ⟨m, rfl⟩ := Int.eq_ofNat_of_zero_le (show 0 ≤ many by omega)
  by_cases h2 : 2 * m < s.size
  · have hno : ¬ txtOk s m := fun h => by have := h.2.2.1; omega
    go_in; go_wp2; go_ret2; exact Or.inr ⟨hno, rfl, Below.refl _ _⟩
  have hm : m ≤ 125 := by omega
  have hsz : s.size ≤ 2 * m := by omega
  obtain ⟨n, hn⟩ : ∃ n, Lib.indexByte s.data.toList 0 = n := ⟨_, rfl⟩
  have C := Lib.hid fun W => index_at s n hn W
  have hz := noZero_iff s
  rw [hn] at hz
  clear hn
  by_cases h3 : 0 ≤ n
  · have hno : ¬ txtOk s m := fun h => hz.1 h.2.2.2 h3
    have HNO := Lib.hid hno
    clear hno hz
    go_in
    go_wp2_with (go_at_call 75; refine (C.out _).mono ?_; rintro e w' ⟨rfl, rfl⟩)
    go_ret2
    exact Or.inr ⟨HNO.out, rfl, Below.refl _ _⟩
  · have hok : txtOk s m := ⟨by omega, by omega, by omega, hz.2 h3⟩
    have HOK := Lib.hid hok
    have k3 : decide (0 ≤ n) = false := by simpa using h3
    clear hok hz h0 h1 h2 h3
    have hm2 : 2 * m ≤ 250 := by omega
    go_in
    go_wp2_with (first
      | (go_at_call 75; refine (C.out _).mono ?_; rintro e w' ⟨rfl, rfl⟩)
      | (at_make; (refine wpList_make_full _ rfl _ _ 141 rfl w.heap.size 5 i0 (.int .u8 0) 1 Tryd.underlying141 hi hz0 hz1 _ _ _ _ (2 * m) rfl rfl (by omega) (by omega) (by rw [hz2]; omega) (by unfold maxLen; omega) (Nat.le_refl _) ?_); intro w1 hown1 hgrow1))
    have hown1 : w1.ownsRow w.heap.size 5 1 (.slice (some ⟨w.heap.size, 0, none⟩) (2 * m) (2 * m)) (2 * m) ((List.replicate (2 * m) 0).map (.int .u8)) := by
      simpa [toList_madeCells_one, Value.cells] using hown1
    have hb1 : Below w.heap.size w w1 := (Below.refl _ _).grown hgrow1 (Nat.le_refl _) (fun k hk => by cases hk)
    obtain ⟨cur, hblk, hcs, hcz⟩ : ∃ cur : Array Value, w1.heap[w.heap.size]? = some (.cells cur 5 (0, 0)) ∧ cur.size = 2 * m ∧ cur.toList = (List.replicate (2 * m) 0).map (Value.int .u8) := by
      rcases hown1.2 with ⟨h, _⟩ | ⟨g, cap, cur, hv, _, hh, h1, h2, h3, h4⟩
      · cases h
      · cases hv
        refine ⟨cur, hh, by omega, ?_⟩
        rw [← h4, List.take_of_length_le (by rw [Array.length_toList]; omega)]
    have hcopy := Lib.run_copy_row_string (P := Tryd.prog) w1 141 9 3 5 w.heap.size 0 (2 * m) (2 * m) s cur 5 Tryd.underlying141 (by kernel_rfl) hblk hsz (by omega)
    generalize hcells : ((cur.toList.take 0 ++ Lib.byteCells s.data.toList ++ cur.toList.drop (0 + s.size)).toArray) = cells at hcopy
    have hcl : cells.toList = (padL s (2 * m)).map (Value.int .u8) := by
      rw [← hcells, hcz]
      apply List.ext_getElem?
      intro k
      have hbl : (Lib.byteCells s.data.toList).length = s.size := by rw [Lib.byteCells_length, Array.length_toList]; rfl
      simp only [List.take_zero, List.nil_append, Nat.zero_add, List.drop_replicate, List.map_replicate]
      rcases Nat.lt_or_ge k s.size with h | h
      · rw [List.getElem?_append_left (by rw [hbl]; exact h)]
        have h1 : (padL s (2 * m))[k]? = some (chr s k) := by rw [padL, List.getElem?_map, List.getElem?_range (by omega)]; rfl
        have h2 : s.data.toList[k]? = some (s.data.toList.getD k 0) := by
          have : k < s.data.toList.length := by rw [Array.length_toList]; exact h
          rw [List.getD, List.getElem?_eq_getElem this]; rfl
        rw [List.getElem?_map, h1, Lib.byteCells, List.getElem?_map, h2]
        rfl
      · rw [List.getElem?_append_right (by rw [hbl]; exact h), hbl]
        rcases Nat.lt_or_ge k (2 * m) with h3 | h3
        · have h1 : (padL s (2 * m))[k]? = some (chr s k) := by rw [padL, List.getElem?_map, List.getElem?_range (by omega)]; rfl
          rw [List.getElem?_map, h1, chr_out s k h, List.getElem?_replicate, if_pos (by omega)]
          rfl
        · rw [List.getElem?_eq_none (by simp; omega), List.getElem?_eq_none (by simp [padL_len]; omega)]
    have hb2 : Below w.heap.size w (w1.setRow w.heap.size cells) := hb1.trans ⟨rfl, rfl, rfl, by simp, fun k hk => setRow_other w1 w.heap.size k cells (by omega)⟩
    have hblk2 := setRow_heap w1 w.heap.size cur cells 5 (0, 0) hblk
    have hR : RdI (w1.setRow w.heap.size cells) (w1.setRow w.heap.size cells).heap.size .u8 (some ⟨w.heap.size, 0, none⟩) (padL s (2 * m)) := fun _ => ⟨w.heap.size, 0, rfl, by have := (Array.getElem?_eq_some_iff.1 hblk2).1; omega, fun k x hk => by
      rw [Nat.zero_add, cell_of_row _ _ _ _ _ _ hblk2]
      have : cells.toList[k]? = some (.int .u8 x) := by rw [hcl, List.getElem?_map, hk]; rfl
      simpa using this⟩
    generalize w1.setRow w.heap.size cells = w2 at hcopy hb2 hblk2 hR
    have F := Lib.hid ((callsIn_wide (n := 5)).1 (frombytes_in (some ⟨w.heap.size, 0, none⟩) (2 * m) (2 * m) m (padL s (2 * m)) (by omega) rfl (Nat.le_refl _) (padL_len _ _) (fun x hx => by
      simp only [padL, List.mem_map] at hx
      obtain ⟨k, _, rfl⟩ := hx
      exact chr_in s k) w2 hR))
    clear hcells hcl hblk2 hR hblk hcz hcs hown1 hgrow1
    rw [hcopy]
    simp only [Result.andThen]
    rw [Oper.upon_value]
    go_wp2_with (go_at_call 76; refine F.out.mono ?_; rintro e w3 ⟨v, rfl, hown, hb3⟩)
    go_ret2
    rw [padL_words] at hown
    exact Or.inl ⟨HOK.out, v, m, rfl, rfl, own_base hown hb2.size, hb2.trans (hb3.mono hb2.size)⟩
end Go.Proofs.YtnnknnaimabehaaDoor
namespace Go.Proofs.YtnnknnaimabehaaDoor
open Go.RowKit
set_option maxRecDepth 100000

def strU (l : List Int) : ByteArray := ⟨(l.map fun x => UInt8.ofNat x.toNat).toArray⟩
theorem strU_size (l : List Int) : (strU l).size = l.length := by simp [strU, ByteArray.size]
theorem strU_append (l m : List Int) : strU l ++ strU m = strU (l ++ m) := by
  apply ByteArray.ext
  simp [strU]
theorem one_conv (y : Int) (wr : World) : (convert 141 9 (.slice (some ⟨wr.heap.size, 0, none⟩) 1 1)).run Tryd.prog (wr.alloc (.cells #[.int .u8 y] 5)) = .ok (.string (strU [y])) (wr.alloc (.cells #[.int .u8 y] 5)) :=
  run_convert_bytes_arg (P := Tryd.prog) _ 141 5 Tryd.underlying141 Tryd.underlying5 wr.heap.size 0 1 1 [y] rfl (fun i hi => by
    obtain rfl : i = 0 := by omega
    rw [Nat.zero_add, cell_of_row _ wr.heap.size 0 _ _ _ (heap_alloc_new wr _)]; rfl) 9 Tryd.underlying9

/-- The i-th byte of registers. -/
def rbyte (xs : List Int) (i : Nat) : Int := if i % 2 = 0 then xs.getD (i / 2) 0 / 256 else xs.getD (i / 2) 0 % 256
def rbytes (xs : List Int) (k : Nat) : List Int := (List.range k).map (rbyte xs)
theorem rbytes_succ (xs : List Int) (k : Nat) : rbytes xs (k + 1) = rbytes xs k ++ [rbyte xs k] := by simp [rbytes, List.range_succ]
/-- What FromText answers: the bytes ahead of the first nought. -/
def FromPost (xs : List Int) (w : World) (e : Ending) (w' : World) : Prop :=
  (∃ k, k ≤ 2 * xs.length ∧ (∀ i, i < k → rbyte xs i ≠ 0) ∧ (k = 2 * xs.length ∨ rbyte xs k = 0) ∧ e = .returned (.string (strU (rbytes xs k)))) ∧ Below w.heap.size w w'

end Go.Proofs.YtnnknnaimabehaaDoor
namespace Go.Proofs.YtnnknnaimabehaaDoor
theorem index_spec (l : List UInt8) (c : UInt8) : (Lib.indexByte l c = -1 ∧ ∀ y ∈ l, y ≠ c) ∨ ∃ k : Nat, Lib.indexByte l c = k ∧ l[k]? = some c ∧ ∀ i, i < k → l[i]? ≠ some c := by
  induction l with
  | nil => exact Or.inl ⟨rfl, by simp⟩
  | cons b l ih =>
    unfold Lib.indexByte
    by_cases hb : b = c
    · subst hb
      exact Or.inr ⟨0, by simp, by simp, fun i hi => by omega⟩
    · have h1 : (b == c) = false := by simpa using hb
      rw [h1]
      rcases ih with ⟨h2, h3⟩ | ⟨k, h2, h3, h4⟩
      · rw [h2]
        exact Or.inl ⟨rfl, fun y hy => by
          rcases List.mem_cons.1 hy with rfl | hy
          · exact hb
          · exact h3 y hy⟩
      · rw [h2]
        have h5 : (((k : Nat) : Int) == -1) = false := by simp
        refine Or.inr ⟨k + 1, by simp [h5], by simpa using h3, fun i hi => ?_⟩
        cases i with
        | zero => simpa using hb
        | succ i => simpa using h4 i (by omega)
theorem index_ints (L : List Int) (hL : ∀ y ∈ L, 0 ≤ y ∧ y < 256) : (Lib.indexByte (Lib.bytesOf L) 0 = -1 ∧ ∀ y ∈ L, y ≠ 0) ∨ ∃ k : Nat, Lib.indexByte (Lib.bytesOf L) 0 = k ∧ k < L.length ∧ L[k]? = some 0 ∧ ∀ i, i < k → L[i]? ≠ some 0 := by
  have hz : ∀ y ∈ L, (UInt8.ofNat y.toNat = 0 ↔ y = 0) := fun y hy => by
    have := hL y hy
    constructor
    · intro h
      have h1 := congrArg UInt8.toNat h
      simp at h1
      omega
    · rintro rfl; rfl
  have hm : Lib.bytesOf L = L.map fun y => UInt8.ofNat y.toNat := rfl
  rw [hm]
  rcases index_spec (L.map fun y => UInt8.ofNat y.toNat) 0 with ⟨h1, h2⟩ | ⟨k, h1, h2, h3⟩
  · exact Or.inl ⟨h1, fun y hy h0 => h2 _ (List.mem_map_of_mem hy) ((hz y hy).2 h0)⟩
  · rw [List.getElem?_map, Option.map_eq_some_iff] at h2
    obtain ⟨y, hy, hy0⟩ := h2
    have := (hz y (List.mem_of_getElem? hy)).1 hy0
    subst this
    refine Or.inr ⟨k, h1, (List.getElem?_eq_some_iff.1 hy).1, hy, fun i hi h0 => h3 i hi ?_⟩
    rw [List.getElem?_map, h0]
    rfl
theorem indexb_at (b n c : Nat) (xs : List Int) (w : World) (q : Int) (hx : xs.length = n) (hc : ∀ i, i < n → w.cell? ⟨b, i, none⟩ = some (.int .u8 (xs.getD i 0))) (hq : Lib.indexByte (Lib.bytesOf xs) 0 = q) :
    Calls Tryd.prog 74 #[.slice (some ⟨b, 0, none⟩) n c, .int .u8 0] w fun e w' => e = .returned (.int .i64 q) ∧ w = w' := by
  subst hq
  exact (Tryd.bytes_IndexByte b 0 n c xs 0 w hx (fun i hi => by rw [Nat.zero_add]; exact hc i hi)).mono fun _ _ ⟨h, h'⟩ => ⟨h, h'.symm⟩
end Go.Proofs.YtnnknnaimabehaaDoor
namespace Go.Proofs.YtnnknnaimabehaaDoor
open Go.RowKit Go.Shelf
attribute [local go_sem] Oper.semAt_some

theorem bytesOf_in (zs : List Reg) : ∀ y ∈ bytesOf zs, 0 ≤ y ∧ y < 256 := by
  intro y hy
  simp only [bytesOf, List.mem_flatMap] at hy
  obtain ⟨⟨x, h0, h1⟩, _, hy⟩ := hy
  simp at hy
  omega
/-- No byte of these registers is nought. -/
def noNought (zs : List Reg) : Prop := ∀ y ∈ bytesOf zs, y ≠ 0
theorem own_take {w : World} {base : Nat} {e : TypeId} {g n c : Nat} {xs : List Value} (h : w.ownsRow base e 1 (.slice (some ⟨g, 0, none⟩) n c) n xs) {k : Nat} (hk : k ≤ n) : w.ownsRow base e 1 (.slice (some ⟨g, 0, none⟩) k c) k (xs.take k) := by
  obtain ⟨hl, h2⟩ := h
  refine ⟨by rw [List.length_take]; omega, ?_⟩
  rcases h2 with ⟨h3, _⟩ | ⟨g', cap, cur, hv, hb, hh, h4, h5, h6, h7⟩
  · cases h3
  · cases hv
    refine Or.inr ⟨g, c, cur, rfl, hb, hh, by omega, h5, h6, ?_⟩
    rw [← h7, List.take_take]
    congr 1
    omega

theorem conv_own {W : World} {base n : Nat} {v : Value} {L : List Int} (h : W.ownsRow base 5 1 v n (L.map (Value.int .u8))) : (convert 141 9 v).run Tryd.prog W = .ok (.string (strU L)) W := by
  have hl := own_len h
  rcases h.2 with ⟨rfl, h0⟩ | ⟨g, cap, cur, rfl, _⟩
  · obtain rfl : L = [] := List.length_eq_zero_iff.1 (by omega)
    exact run_convert_bytes_nil (P := Tryd.prog) W 141 5 Tryd.underlying141 Tryd.underlying5 0 0 9 Tryd.underlying9
  · exact run_convert_bytes_arg (P := Tryd.prog) W 141 5 Tryd.underlying141 Tryd.underlying5 g 0 n cap L hl (fun i hi => by
      obtain ⟨y, hy, hc, _⟩ := own_at h (i := i) (by omega)
      simpa [List.getD, hy] using hc) 9 Tryd.underlying9
theorem bytesOf_append (a b : List Reg) : bytesOf (a ++ b) = bytesOf a ++ bytesOf b := by simp [bytesOf]

set_option maxRecDepth 100000 in
set_option maxHeartbeats 4000000 in
theorem fromtext_in (A : Option Addr) (len cap : Nat) (zs : List Reg) (hreach : len ≤ 1000000) (hl : zs.length = len) (w : World) (hR : RdI w w.heap.size .u16 A (zs.map (·.1))) :
    CallsIn Fence.wide 5 Tryd.prog 71 #[.slice A len cap] w fun e W' => (∃ k, k ≤ 2 * len ∧ (∀ i, i < k → (bytesOf zs)[i]? ≠ some 0) ∧ (k = 2 * len ∨ (bytesOf zs)[k]? = some 0) ∧ e = .returned (.string (strU ((bytesOf zs).take k)))) ∧ Below w.heap.size w W' := by
  have h2F : Fence.wide.fn 73 := trivial
  have h3F : Fence.wide.fn 77 := trivial
  have h4F : Fence.wide.fn 74 := trivial
  have hro : Fence.wide.round = none := rfl
  have HR := Lib.hid hR
  have HL := Lib.hid hl
  clear hR hl
  obtain ⟨i0, hi, hz0, hz1, hz2⟩ := info_parts infoB
  refine callsIn_of_wp_marks Tryd.func71 rfl trivial ?_ rfl
  simp only [Tryd.ntmps71, List.size_toArray, List.length_cons, List.length_nil, Nat.reduceAdd, Nat.reduceSub, Array.replicate_succ, Array.replicate_zero, List.push_toArray, List.append_toArray, List.nil_append, List.cons_append]
  gi_wp2
  refine wpIn_scope ?_
  gi_wp2
  refine wpIn_label ?_
  gi_wp2_with (gi_at_call 73; refine (pairs_in Fence.wide 4 h2F hro A len cap _).mono ?_; rintro e w' ⟨rfl, rfl⟩)
  have bO := Boxed.new w 141 (.slice none 0 0)
  have bN := Boxed.new (w.alloc (.cells #[.slice none 0 0] 141)) 22 (.slice A len cap)
  rw [World.size_alloc] at bN
  have hB0 : Below w.heap.size w ((w.alloc (.cells #[.slice none 0 0] 141)).alloc (.cells #[.slice A len cap] 22)) := ((Below.refl _ w).alloc (Nat.le_refl _) _).alloc (by simp) _
  refine wpIn_rangeFunc_ownH hro (by omega) (gf := 77) (lb := #[.pointer (some ⟨w.heap.size + 1, 0, none⟩)]) rfl h3F (enters_of Tryd.func77 (by kernel_rfl) rfl)
    (pairs_stops Fence.wide 4 h3F hro (by omega) (w.heap.size + 1) w.heap.size A len cap zs hreach HL.out _ (by simp) (by simp; omega) bN.cell (HR.out.below hB0)) belowK_t (belowK_b (by simp; omega)) (Below.refl _ _) (fun _ => rfl)
    (fun pre W => (∃ v, Boxed W w.heap.size 141 v ∧ W.ownsRow w.heap.size 5 1 v (bytesOf pre).length ((bytesOf pre).map (Value.int .u8)) ∧ noNought pre) ∧ Below w.heap.size w W)
    (fun c pre W => c = .exit 0 ∧ ∃ k, k < (bytesOf pre).length ∧ (∀ i, i < k → (bytesOf pre)[i]? ≠ some 0) ∧ (bytesOf pre)[k]? = some 0 ∧ (∃ v, Boxed W w.heap.size 141 v ∧ W.ownsRow w.heap.size 5 1 v k (((bytesOf pre).take k).map (Value.int .u8)) ∧ True) ∧ Below w.heap.size w W)
    ?own ?ownx
    ⟨⟨_, bO.alloc _, World.ownsRow_nil _ _ _ _, fun y hy => by simp [bytesOf] at hy⟩, hB0⟩
    (fun x a' W => ∃ Bx, w.heap.size < Bx ∧ Held W Bx 145 #[.int .u8 (x.1 / 256), .int .u8 (x.1 % 256)] ∧
      a' = { tmps := #[.slice A len cap, undef, .string ⟨#[]⟩, .pointer (some ⟨w.heap.size, 0, none⟩), .pointer (some ⟨Bx, 0, none⟩), undef, .slice A len cap, .func (.func 77) #[] #[.pointer (some ⟨w.heap.size + 1, 0, none⟩)], .agg #[.int .u8 (x.1 / 256), .int .u8 (x.1 % 256)], undef, undef, undef, undef, undef, undef, undef, undef, undef, undef, undef, undef], defers := [] })
    (fun x a' _ X Y row hs hg hr => by obtain ⟨Bx, e1, e2, e3⟩ := hs; exact ⟨Bx, e1, held_ownFrom () X Y row e2 hg hr, e3⟩) ?assign ?body ?done ?stop
  case own => exact OwnFrom.and (Own.from (holdsRow_own w.heap.size w.heap.size 141 5 1 (fun pre => (bytesOf pre).length) (fun pre => (bytesOf pre).map (Value.int .u8)) (fun pre _ => noNought pre)) _) (ownFrom_below (Nat.le_refl _) (by simp; omega))
  case ownx =>
    exact fun c pre X Y row ⟨h0, k, h1, h2, h3, h4, h5⟩ hg hr => ⟨h0, k, h1, h2, h3, (Own.from (holdsRow_own w.heap.size w.heap.size 141 5 1 (fun _ => k) (fun pre => ((bytesOf pre).take k).map (Value.int .u8)) (fun _ _ => True)) _) pre X Y row h4 hg hr, ownFrom_below (Nat.le_refl _) (by simp; omega) pre X Y row h5 hg hr⟩
  case assign =>
    rintro l pre x W K ⟨⟨v, hv, hrow, hnn⟩, hB⟩ hK
    have hlt := hv.lt
    unfold pairV
    gi_wp2
    exact hK _ _ ((KeepsOthers.alloc _ _).from _) ((Below.refl _ W).alloc hB.size _) ⟨⟨v, hv.alloc _, hrow.alloc _, hnn⟩, hB.alloc hB.size _⟩ ⟨W.heap.size, hlt, Held.new _ _ _, rfl⟩
  case body =>
    rintro l pre x a' W hl ⟨r, hr⟩ ⟨⟨v, hv, hrow, hnn⟩, hB⟩ ⟨Bx, hBx, hX, rfl⟩ hlt
    have hc := hv.cell
    have hsz := hB.size
    have hpl := bytesOf_len pre
    have hll := HL.out
    have hpz : pre.length ≤ 1000000 := by omega
    have HPL := Lib.hid hpl
    have HSN := Lib.hid (bytesOf_snoc pre x)
    have HNN := Lib.hid hnn
    obtain ⟨x, hx0, hx1⟩ := x
    dsimp only at hX HSN ⊢
    clear hpl hnn hll
    gi_wp2
    refine wpIn_region_two (by kernel_rfl) [0, 1, 2, 3] [1, 0, 2, 3] (by kernel_rfl) ?_ ?_
    all_goals
      simp only [opsAt_cons, opsAt_nil, List.getElem?_toArray, List.getElem?_cons_succ, List.getElem?_cons_zero, Option.toList_some, List.cons_append, List.nil_append]
      gi_wp2_with (gi_at_builtin; refine wpListIn_append_own _ rfl _ _ 141 rfl w.heap.size 5 i0 (.int .u8 0) 1 1 Tryd.underlying141 hi hz0 hz1 hz2 rfl (by decide) _ _ _ rfl hrow.drew ⟨Bx, 0, none⟩ 2 2 [.int .u8 (x / 256), .int .u8 (x % 256)] rfl rfl (World.news_of_block (cs := #[.int .u8 (x / 256), .int .u8 (x % 256)]) (t := 145) (fr := (0, 0)) hX.drew) (by simp [Value.oneCell']) (by rw [HPL.out]; unfold maxLen; omega) (by rw [HPL.out]; omega) (by simp; omega) ?_; intro v' w1 hown' hgrow _; obtain ⟨g', cap', rfl⟩ := ownsRow_succ hown'; obtain ⟨hv1, hv2, hr2, hk2, hb2⟩ := boxed_appended (W := W) (w0 := W.drew) hv (by decide) hrow.drew hsz (Nat.le_refl _) (KeepsOthers.drew _) ((Below.refl _ _).drew) hown' hgrow; have hc1 := hv1.cell; have hf1 := hv1.frozen)
      obtain ⟨L, hLL⟩ : ∃ L, L = bytesOf pre ++ [x / 256, x % 256] := ⟨_, rfl⟩
      have hLin : ∀ y ∈ L, 0 ≤ y ∧ y < 256 := by rw [hLL, ← HSN.out]; exact bytesOf_in _
      have hLn : L.length = (bytesOf pre).length + 1 + 1 := by rw [hLL]; simp
      have hr3 : (w1.setCell ⟨w.heap.size, 0, none⟩ (.slice (some ⟨g', 0, none⟩) ((bytesOf pre).length + 1 + 1) cap')).ownsRow w.heap.size 5 1 (.slice (some ⟨g', 0, none⟩) ((bytesOf pre).length + 1 + 1) cap') ((bytesOf pre).length + 1 + 1) (L.map (Value.int .u8)) := by rw [hLL]; simpa using hr2
      clear hr2
      generalize w1.setCell ⟨w.heap.size, 0, none⟩ (.slice (some ⟨g', 0, none⟩) ((bytesOf pre).length + 1 + 1) cap') = W2 at hv2 hr3 hk2 hb2 ⊢
      obtain ⟨q, hq⟩ : ∃ q, Lib.indexByte (Lib.bytesOf L) 0 = q := ⟨_, rfl⟩
      have hidx := indexb_at g' _ cap' L W2 q hLn (fun i hi => by
        obtain ⟨y, hy, hcy, _⟩ := own_at hr3 (i := i) (by omega)
        simpa [List.getD, hy] using hcy) hq
      refine (CallsIn.inRound _ (callsIn_wide.2 hidx)).mono ?_
      rintro e W3 ⟨rfl, rfl⟩
      have hc3 := hv2.cell
      have hf3 := hv2.frozen
      have hlen2 := own_len hr3
      rcases index_ints L hLin with ⟨h1, h2⟩ | ⟨k, h1, h2, h3, h4⟩
      · obtain rfl : q = -1 := hq.symm.trans h1
        gi_wp2
        exact ⟨hk2.from _, hb2, ⟨⟨_, hv2, by rw [HSN.out, ← hLL]; simpa [hLn] using hr3, by unfold noNought; rw [HSN.out, ← hLL]; exact h2⟩, hB.trans hb2⟩⟩
      · obtain rfl : q = k := hq.symm.trans h1
        have hkn : k < (bytesOf pre).length + 1 + 1 := by omega
        have hcap' : (bytesOf pre).length + 1 + 1 ≤ cap' := by
          rcases hr3.2 with ⟨h, _⟩ | ⟨g4, c4, cur4, hv4, _, _, h4, _⟩
          · cases h
          · cases hv4; exact h4
        have hkc : (k : Int) ≤ (cap' : Int) := by omega
        have hkc2 : k ≤ cap' := by omega
        gi_wp2
        have hrt := own_take hr3 (k := k) (by omega)
        refine ⟨(hk2.trans (KeepsOthers.setCell _ _ _)).from _, rfl, k, by rw [HSN.out, ← hLL]; exact h2, by rw [HSN.out, ← hLL]; exact h4, by rw [HSN.out, ← hLL]; exact h3, ⟨_, hv2.set _, ?_, trivial⟩, (hB.trans hb2).setCell (p := ⟨w.heap.size, 0, none⟩) (Nat.le_refl _) _⟩
        rw [HSN.out, ← hLL, List.map_take]
        exact hrt.kept (grownBy_setCell' _ w.heap.size _) (.inr (hv2.not_row (by decide) hrt).symm)
  case done =>
    rintro D ys W hD rfl ⟨⟨v, hv, hrow, hnn⟩, hB⟩ hK
    have hc := hv.cell
    have hpl := bytesOf_len ys
    have hcv := conv_own hrow
    have hll := HL.out
    have HF := Lib.hid (show (∀ i, i < 2 * len → (bytesOf ys)[i]? ≠ some 0) ∧ (bytesOf ys).take (2 * len) = bytesOf ys from ⟨fun i hi h0 => hnn 0 (List.mem_of_getElem? h0) rfl, List.take_of_length_le (by omega)⟩)
    clear hnn hll hpl
    gi_wp2
    refine ⟨by simp, .inl ⟨_, _, rfl, run_takeDeferred hK, ?_⟩⟩
    exact ⟨_, results_tmp rfl _ _ _, ⟨2 * len, Nat.le_refl _, HF.out.1, Or.inl rfl, by rw [HF.out.2]; rfl⟩, hB.trans (belowK_b (w := w) (Nat.le_refl _) W D _ _ (by simp at hD; omega) hK rfl rfl)⟩
  case stop =>
    rintro D c pre W hD ⟨t, ht⟩ ⟨rfl, k, h1, h2, h3, ⟨v, hv, hrow, _⟩, hB⟩ hK
    have hc := hv.cell
    have hcv := conv_own hrow
    have HF := Lib.hid (show k ≤ 2 * len ∧ (∀ i, i < k → (bytesOf zs)[i]? ≠ some 0) ∧ (bytesOf zs)[k]? = some 0 ∧ (bytesOf zs).take k = (bytesOf pre).take k by
      have hll := HL.out
      have hpl := bytesOf_len zs
      have e : bytesOf zs = bytesOf pre ++ bytesOf t := by rw [← ht, bytesOf_append]
      have hle : (bytesOf pre).length ≤ (bytesOf zs).length := by rw [e, List.length_append]; omega
      refine ⟨by omega, fun i hi => ?_, ?_, ?_⟩
      · rw [e, List.getElem?_append_left (by omega)]; exact h2 i hi
      · rw [e, List.getElem?_append_left h1]; exact h3
      · rw [e, List.take_append_of_le_length (by omega)])
    clear h1 h2 h3 ht
    gi_wp2
    refine ⟨by simp, .inl ⟨_, _, rfl, run_takeDeferred hK, ?_⟩⟩
    exact ⟨_, results_tmp rfl _ _ _, ⟨k, HF.out.1, HF.out.2.1, Or.inr HF.out.2.2.1, by rw [HF.out.2.2.2]; rfl⟩, hB.trans (belowK_b (w := w) (Nat.le_refl _) W D _ _ (by simp at hD; omega) hK rfl rfl)⟩
end Go.Proofs.YtnnknnaimabehaaDoor
namespace Go.Proofs.YtnnknnaimabehaaDoor
open Go.RowKit
set_option maxRecDepth 100000

/-- Where the first nought is, or the end: it is one. -/
theorem first_one (f : Nat → Int) (N k k' : Nat) (hk : k ≤ N) (hk' : k' ≤ N) (h1 : ∀ i, i < k → f i ≠ 0) (h2 : k = N ∨ f k = 0) (h1' : ∀ i, i < k' → f i ≠ 0) (h2' : k' = N ∨ f k' = 0) : k = k' := by
  rcases Nat.lt_trichotomy k k' with h | h | h
  · rcases h2 with h3 | h3
    · omega
    · exact absurd h3 (h1' k h)
  · exact h
  · rcases h2' with h3 | h3
    · omega
    · exact absurd h3 (h1 k' h)
theorem first_is (f : Nat → Int) (N : Nat) : ∃ k, k ≤ N ∧ (∀ i, i < k → f i ≠ 0) ∧ (k = N ∨ f k = 0) := by
  induction N with
  | zero => exact ⟨0, Nat.le_refl _, fun i hi => by omega, Or.inl rfl⟩
  | succ N ih =>
    obtain ⟨k, h1, h2, h3⟩ := ih
    rcases h3 with rfl | h3
    · by_cases h0 : f k = 0
      · exact ⟨k, by omega, h2, Or.inr h0⟩
      · exact ⟨k + 1, Nat.le_refl _, fun i hi => by
          rcases Nat.lt_or_ge i k with h | h
          · exact h2 i h
          · rw [show i = k by omega]; exact h0, Or.inl rfl⟩
    · exact ⟨k, by omega, h2, Or.inr h3⟩
theorem bytesOf_rbytes (zs : List Reg) : bytesOf zs = rbytes (zs.map (·.1)) (2 * zs.length) := by
  apply List.ext_getElem?
  intro i
  rcases Nat.lt_or_ge i (2 * zs.length) with hi | hi
  · have hr : (rbytes (zs.map (·.1)) (2 * zs.length))[i]? = some (rbyte (zs.map (·.1)) i) := by rw [rbytes, List.getElem?_map, List.getElem?_range hi]; rfl
    rw [hr]
    induction zs generalizing i with
    | nil => simp at hi
    | cons z zs ih =>
      show ([z.1 / 256, z.1 % 256] ++ bytesOf zs)[i]? = _
      rcases Nat.lt_or_ge i 2 with h | h
      · have : i = 0 ∨ i = 1 := by omega
        rcases this with rfl | rfl <;> simp [rbyte]
      · obtain ⟨j, rfl⟩ : ∃ j, i = j + 2 := ⟨i - 2, by omega⟩
        simp only [List.length_cons] at hi
        have := ih j (by omega) (by rw [rbytes, List.getElem?_map, List.getElem?_range (by omega)]; rfl)
        have e : rbyte ((z :: zs).map (·.1)) (j + 2) = rbyte (zs.map (·.1)) j := by
          unfold rbyte
          rw [show (j + 2) / 2 = j / 2 + 1 by omega, show (j + 2) % 2 = j % 2 by omega]
          simp
        rw [e, ← this]
        rfl
  · rw [List.getElem?_eq_none (by rw [bytesOf_len]; exact hi), List.getElem?_eq_none (by simp [rbytes]; exact hi)]
theorem rbytes_take (xs : List Int) (N k : Nat) (h : k ≤ N) : (rbytes xs N).take k = rbytes xs k := by
  unfold rbytes; rw [← List.map_take, List.take_range, Nat.min_eq_left h]

theorem txtL_in (s : ByteArray) (m i : Nat) : ∀ x ∈ txtL s m i, 0 ≤ x ∧ x < 65536 := by
  intro x hx
  simp only [txtL, List.mem_map] at hx
  obtain ⟨k, _, rfl⟩ := hx
  exact txtAt_in _ _ _
/-- What a text's slice is, as both answer. -/
def TxtIs (T : List Int) (n : Int) (w : World) (e : Ending) (w' : World) : Prop := ∃ A k c, e = .returned (.tuple #[.slice A k c, .int .i64 n]) ∧ SlI w' w'.heap.size .u16 A k c T ∧ Below w.heap.size w w'
theorem txt_is (s : ByteArray) (many : Int) : ∃ (T : List Int) (n : Int), (T.length ≤ 125) ∧ (∀ x ∈ T, 0 ≤ x ∧ x < 65536) ∧ ∀ w e w', TextPost s many w e w' → TxtIs T n w e w' := by
  by_cases h : txtOk s many
  · obtain ⟨m, rfl⟩ := Int.eq_ofNat_of_zero_le h.1
    have hm := h.2.1
    refine ⟨txtL s m s.size, 0, by rw [txtL_len]; omega, txtL_in _ _ _, ?_⟩
    rintro w e w' (⟨_, u, k, hk, rfl, hown, hb⟩ | ⟨h', _⟩)
    · obtain rfl : k = m := by omega
      obtain ⟨A, c, rfl, hS⟩ := SlI.of_own hown
      exact ⟨A, k, c, rfl, hS, hb⟩
    · exact (h' h).elim
  · refine ⟨[], 20, by simp, by simp, ?_⟩
    rintro w e w' (⟨h', _⟩ | ⟨_, rfl, hb⟩)
    · exact (h h').elim
    · exact ⟨none, 0, 0, rfl, SlI.nil _ _ _, hb⟩

theorem frombytes_odd (A : Option Addr) (n c : Nat) (hn : n % 2 = 1) (hn2 : n ≤ 1000000) (w : World) :
    Calls Tryd.prog 76 #[.slice A n c] w fun e w' => e = .returned (.tuple #[.slice none 0 0, .int .i64 20]) ∧ w = w' := by
  have h1 : ((n : Int) % 2 != 0) = true := by simp; omega
  go_in; go_wp2; go_ret2; exact ⟨rfl, rfl⟩
theorem frombytes_even (A : Option Addr) (n c m : Nat) (xs : List Int) (hn : n = 2 * m) (hn2 : n ≤ 1000000) (hx : ∀ x ∈ xs, 0 ≤ x ∧ x < 256) (w : World) (hS : SlI w w.heap.size .u8 A n c xs) :
    Calls Tryd.prog 76 #[.slice A n c] w fun e w' => TxtIs (wordsK xs (List.finRange m)) 0 w e w' := by
  refine ((callsIn_wide (n := 5)).1 (frombytes_in A n c m xs hn2 hn hS.2.1 hS.1 hx w hS.2.2.2.2)).mono ?_
  rintro e w' ⟨v, rfl, hown, hb⟩
  obtain ⟨A', c', rfl, hS'⟩ := SlI.of_own hown
  exact ⟨A', m, c', rfl, hS', hb⟩
end Go.Proofs.YtnnknnaimabehaaDoor
