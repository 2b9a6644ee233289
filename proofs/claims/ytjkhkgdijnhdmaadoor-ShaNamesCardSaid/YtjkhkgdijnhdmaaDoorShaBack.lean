/- The law ShaBack. -/
import Derived.Test.YtjkhkgdijnhdmaaDoorShaBackP
namespace Go.Proofs.YtjkhkgdijnhdmaaDoor
open Go.RowKit

/-- A load of a whole block, where it is wanted. -/
theorem load_want {P : Program} {ops : Array Oper} {rest : List Oper} {op : Oper} {a : Act} {w : World} {Q : Exit → Act → World → Prop} {t : TypeId} {C : Array Value} (hw : Region.wanted op (yielded ops a.tmps) = true) (ty : TypeId) (x : Operand) (ho : op.op = .load ty x)
    (b : Nat) (hx : a.eval x = .pointer (some ⟨b, 0, none⟩)) (d : TypeDesc) (hH : Held w b t C)
    (hu : P.underlying ty = some d) (hd : d.isRow = true) (hi : (P.info? ty).map (·.size) = some C.size)
    (h : wpList P ops Q rest (a.put op.dst (.agg C)) w) : wpList P ops Q (op :: rest) a w :=
  wpList_load_want hw ty x ho b 0 hx C.toList d (range_of_block (H := C.toList) (t := t) (by rw [Array.toArray_toList]; exact hH)) hu hd (by rw [Array.length_toList]; exact hi) (by rw [Array.toArray_toList]; exact h)
/-- What is read from a text. -/
theorem parse_s (s : ByteArray) : ∃ (xs : List Int) (n : Int), xs.length = 32 ∧ (∀ x ∈ xs, 0 ≤ x ∧ x < 256) ∧ ((n = 0 ∧ (⟨(bytesOf (hexL xs)).toArray⟩ : ByteArray) = s) ∨ (n = 40 ∧ xs = zeroH)) ∧
    ∀ W, Calls Tryd.prog 24 #[.string s] W fun e w' => e = .returned (.tuple #[.agg (cellsU xs), .int .i64 n]) ∧ Below W.heap.size W w' := by
  by_cases h : s.size = 64 ∧ allDig s 64
  · refine ⟨fillH s 32, 0, fillH_len s 32 (by omega), fillH_in s h.2, Or.inl ⟨rfl, text_of s h.1 h.2⟩, fun W => (parse_any s W).mono ?_⟩
    rintro e w' ⟨h1 | h1, hb⟩
    · exact ⟨h1.2.2, hb⟩
    · exact absurd h h1.1
  · refine ⟨zeroH, 40, rfl, by decide, Or.inr ⟨rfl, rfl⟩, fun W => (parse_any s W).mono ?_⟩
    rintro e w' ⟨h1 | h1, hb⟩
    · exact absurd ⟨h1.1, h1.2.1⟩ h
    · exact ⟨h1.2, hb⟩
set_option maxRecDepth 100000 in
set_option maxHeartbeats 4000000 in
theorem law_back (h : List Int) (s : ByteArray) (w : World) (hl : h.length = 32) (hi : ∀ x ∈ h, 0 ≤ x ∧ x < 256) (hT : Tab w 0 .u32 firstI) (hT2 : Tab w 1 .u32 kI) :
    Calls Tryd.prog 7 #[.agg (cellsU h), .string s] w fun e w' => e = .returned (.bool true) ∧ Below w.heap.size w w' := by
  obtain ⟨w1, hw1⟩ : ∃ w1, w.alloc (.cells (cellsU h) 34) = w1 := ⟨_, rfl⟩
  have hb1 : Below w.heap.size w w1 := by rw [← hw1]; exact (Below.refl _ w).alloc (Nat.le_refl _) _
  have hH1 : Held w1 w.heap.size 34 (cellsU h) := by rw [← hw1]; exact Held.new _ _ _
  have HA := Lib.hid (alive_own w1 (hT.up hb1) (hT2.up hb1))
  have HW := Lib.hid hw1
  clear hw1 hT hT2
  obtain ⟨p1, p2, p3⟩ := back_plain h hl hi
  have HX := Lib.hid (fun (W : World) => text_any h hl hi W)
  obtain ⟨T, hT⟩ : ∃ T : ByteArray, (⟨(bytesOf (hexL h)).toArray⟩ : ByteArray) = T := ⟨_, rfl⟩
  rw [hT] at HX p1 p2 p3
  have HP := Lib.hid (fun (W : World) => (parse_any T W).mono (R' := fun e w' => e = .returned (.tuple #[.agg (cellsU h), .int .i64 0]) ∧ Below W.heap.size W w') (by
    rintro e w' ⟨h1 | h1, hb⟩
    · exact ⟨by rw [← p3]; exact h1.2.2, hb⟩
    · exact absurd ⟨p1, p2⟩ h1.1))
  have hs22 := hashSize22 h hl
  have hs35 := hashCells h hl
  have HE := Lib.hid (fun (W : World) => eql_hash 35 Tryd.underlying35 h hl hi W)
  have HL := Lib.hid hl
  clear hT p1 p2 p3 hl hi
  by_cases hs : s.size ≤ 200
  · obtain ⟨xs, n, hxl, hxi, hn, hps⟩ := parse_s s
    have HS := Lib.hid hps
    have HN := Lib.hid hn
    have hsx := hashCells xs hxl
    have HXL := Lib.hid hxl
    have HXT := Lib.hid (fun (W : World) => text_any xs hxl hxi W)
    have HXE := Lib.hid (fun (W : World) => eql_hash 35 Tryd.underlying35 xs hxl hxi W)
    clear hps hn hxl hxi
    go_in
    go_wp2_with fail
    have e1 : w.alloc (.cells (cellsU h) 34) = w1 := HW.out
    rw [e1]
    refine HA.out.mono ?_
    rintro e w2 ⟨rfl, hb2⟩
    have hH2 := hH1.below hb2 hH1.lt
    have hbw := hb1.trans (hb2.mono hb1.size)
    clear hH1 hb1 hb2 HW e1
    go_wp2_with (first
      | (refine wpList_load_row rfl 34 (.tmp 2) rfl w.heap.size rfl 34 (cellsU h) (0, 0) _ hH2 Tryd.underlying34 rfl hs22 ?_)
      | fail)
    refine (HX.out w2).mono ?_
    rintro e w3 ⟨rfl, hb3⟩
    have hH3 := hH2.below hb3 hH2.lt
    have hbw3 := hbw.trans (hb3.mono hbw.size)
    clear hH2 hbw hb3
    go_wp2_with fail
    refine (HP.out w3).mono ?_
    rintro e w4 ⟨rfl, hb4⟩
    have hH4 := hH3.below hb4 hH3.lt
    have hbw4 := hbw3.trans (hb4.mono hbw3.size)
    clear hH3 hbw3 hb4
    go_wp2_with (first
      | (refine wpList_store_row rfl 35 (.tmp 6) (.tmp 23) rfl w4.heap.size (cellsU h) rfl rfl 35 (cellsU zeroH) (heap_alloc_new w4 _) hs35 (by rw [cellsU_size, cellsU_size, HL.out]; rfl) (cellsU_one _) ?_
         rw [World.setRow_alloc_new])
      | fail)
    have hA5 : Held (w4.alloc (.cells (cellsU h) 35)) w4.heap.size 35 (cellsU h) := Held.new _ _ _
    have hH5 : Held (w4.alloc (.cells (cellsU h) 35)) w.heap.size 34 (cellsU h) := hH4.alloc _
    have hbw5 : Below w.heap.size w (w4.alloc (.cells (cellsU h) 35)) := hbw4.alloc hbw4.size _
    generalize w4.alloc (.cells (cellsU h) 35) = w5 at hA5 hH5 hbw5 ⊢
    clear hH4
    refine (HS.out w5).mono ?_
    rintro e w6 ⟨rfl, hb6⟩
    have hA6 := hA5.below hb6 hA5.lt
    have hH6 := hH5.below hb6 hH5.lt
    have hbw6 := hbw5.trans (hb6.mono hbw5.size)
    clear hA5 hH5 hbw5 hb6
    have hA7 : Held (w6.alloc (.cells (cellsU xs) 35)) w4.heap.size 35 (cellsU h) := hA6.alloc _
    have hH7 : Held (w6.alloc (.cells (cellsU xs) 35)) w.heap.size 34 (cellsU h) := hH6.alloc _
    have hX7 : Held (w6.alloc (.cells (cellsU xs) 35)) w6.heap.size 35 (cellsU xs) := Held.new _ _ _
    have hbw7 : Below w.heap.size w (w6.alloc (.cells (cellsU xs) 35)) := hbw6.alloc hbw6.size _
    have hu1 := Tryd.underlying34
    have hu2 := Tryd.underlying35
    have he1 := HE.out
    have he2 := HXE.out
    rcases HN.out with ⟨rfl, ht⟩ | ⟨rfl, rfl⟩
    · have HT := Lib.hid ht
      clear ht HN
      go_wp2_with (first
        | (refine wpList_store_row rfl 35 (.tmp 8) (.tmp 28) rfl w6.heap.size (cellsU xs) rfl rfl 35 (cellsU zeroH) (heap_alloc_new w6 _) hsx (by rw [cellsU_size, cellsU_size, HXL.out]; rfl) (cellsU_one _) ?_
           rw [World.setRow_alloc_new])
        | (refine load_want (by rfl) 35 (.tmp 6) rfl w4.heap.size rfl _ hA7 hu2 rfl hs35 ?_)
        | (refine load_want (by rfl) 34 (.tmp 2) rfl w.heap.size rfl _ hH7 hu1 rfl hs22 ?_)
        | (refine load_want (by rfl) 35 (.tmp 8) rfl w6.heap.size rfl _ hX7 hu2 rfl hsx ?_)
        | (go_at_call 25; (with_reducible refine (HXT.out _).mono ?_); rintro e w8 ⟨rfl, hb8⟩; rw [HT.out]))
      go_ret
      exact ⟨rfl, hbw7.trans (hb8.mono hbw7.size)⟩
    · have he3 : ∀ W, (binOp .eql 35 (.agg (cellsU zeroH)) (.agg #[.int .u8 0, .int .u8 0, .int .u8 0, .int .u8 0, .int .u8 0, .int .u8 0, .int .u8 0, .int .u8 0, .int .u8 0, .int .u8 0, .int .u8 0, .int .u8 0, .int .u8 0, .int .u8 0, .int .u8 0, .int .u8 0, .int .u8 0, .int .u8 0, .int .u8 0, .int .u8 0, .int .u8 0, .int .u8 0, .int .u8 0, .int .u8 0, .int .u8 0, .int .u8 0, .int .u8 0, .int .u8 0, .int .u8 0, .int .u8 0, .int .u8 0, .int .u8 0])).run Tryd.prog W = .ok (.bool true) W := HXE.out
      clear HN
      go_wp2_with (first
        | (refine wpList_store_row rfl 35 (.tmp 8) (.tmp 28) rfl w6.heap.size (cellsU zeroH) rfl rfl 35 (cellsU zeroH) (heap_alloc_new w6 _) hsx rfl (cellsU_one _) ?_
           rw [World.setRow_alloc_new])
        | (refine load_want (by rfl) 35 (.tmp 6) rfl w4.heap.size rfl _ hA7 hu2 rfl hs35 ?_)
        | (refine load_want (by rfl) 34 (.tmp 2) rfl w.heap.size rfl _ hH7 hu1 rfl hs22 ?_)
        | (refine load_want (by rfl) 35 (.tmp 8) rfl w6.heap.size rfl _ hX7 hu2 rfl hsx ?_))
      go_ret
      exact ⟨rfl, hbw7⟩
  · go_in
    go_wp2_with fail
    have e1 : w.alloc (.cells (cellsU h) 34) = w1 := HW.out
    rw [e1]
    refine HA.out.mono ?_
    rintro e w2 ⟨rfl, hb2⟩
    go_wp2
    go_ret
    exact ⟨rfl, hb1.trans (hb2.mono hb1.size)⟩
end Go.Proofs.YtjkhkgdijnhdmaaDoor
