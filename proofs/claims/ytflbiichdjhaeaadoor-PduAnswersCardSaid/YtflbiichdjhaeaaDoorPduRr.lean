/- kilowattref19.ReadAnswer: what the ways share. -/
import Derived.Test.YtflbiichdjhaeaaDoorPduRa
import Derived.Test.YtflbiichdjhaeaaDoorPduAt
import Derived.Test.YtflbiichdjhaeaaDoorPduRefAnswer
import Derived.Test.YtflbiichdjhaeaaDoorPduBit
namespace Go.Proofs.YtflbiichdjhaeaaDoor
open Go.RowKit
set_option linter.unusedVariables false

theorem words_take (b : List Int) (k : Nat) (h : k < (wordsP b).length) : (wordsP b).take (k + 1) = (wordsP b).take k ++ [wordP b (2 * k)] := by
  rw [List.take_succ_eq_append_getElem h]
  simp [wordsP]
theorem at_drop (b : List Int) (k : Nat) (h : 2 * k + 3 < b.length) : atP b (2 + 2 * k) = wordP (b.drop 2) (2 * k) := by
  unfold atP
  rw [if_pos (by omega)]
  simp only [wordP, List.getD, List.getElem?_drop, Nat.add_assoc]
theorem wordP_in (b : List Int) (hb : Byte8 b) (i : Nat) (h : i + 1 < b.length) : 0 ≤ wordP b i ∧ wordP b i < 65536 := by
  have a1 := hb _ (List.getElem_mem (show i < b.length by omega))
  have a2 := hb _ (List.getElem_mem (show i + 1 < b.length by omega))
  have b1 : b.getD i 0 = b[i]'(by omega) := by simp [List.getD, show i < b.length by omega]
  have b2 : b.getD (i + 1) 0 = b[i + 1]'(by omega) := by simp [List.getD, h]
  unfold wordP
  rw [b1, b2]
  omega
/-- A row stays where a cell of another block is written. -/
theorem own_off {w : World} {base : Nat} {e : TypeId} {size n B : Nat} {v : Value} {xs : List Value} (h : w.ownsRow base e size v n xs) (hB : B < base) (i : Nat) (u : Value) : (w.setCell ⟨B, i, none⟩ u).ownsRow base e size v n xs :=
  own_same h fun g hg => Below.heap_setCell w ⟨B, i, none⟩ u g (by have := (h.lt g hg).1; show g ≠ B; omega)
end Go.Proofs.YtflbiichdjhaeaaDoor
namespace Go.Proofs.YtflbiichdjhaeaaDoor
open Go.RowKit
set_option linter.unusedVariables false

set_option maxRecDepth 100000 in
set_option maxHeartbeats 2000000 in
theorem rr_short (fn addr count to : Int) (bs : List Bool) (regs : List Int) (A : Option Addr) (nb cb : Nat) (R : Option Addr) (nr cr : Nat) (B : Option Addr) (n c : Nat) (b : List Int) (w : World) (hA : SlB w w.heap.size A nb cb bs) (hR : SlI w w.heap.size .u16 R nr cr regs) (hy : Reg16 regs) (hB : SlI w w.heap.size .u8 B n c b) (hb8 : Byte8 b) (hn : n ≤ 1000) (hn2 : n < 2) : Calls Tryd.prog 16 #[.agg #[.int .i64 fn, .int .i64 addr, .int .i64 count, .int .i64 to, .slice A nb cb, .slice R nr cr], .slice B n c] w (RaPost w ⟨fn, addr, count, to, bs, regs⟩ b) := by
  obtain ⟨w1, hw1⟩ : ∃ w1, ((w.alloc (.cells #[.int .i64 fn, .int .i64 addr, .int .i64 count, .int .i64 to, .slice A nb cb, .slice R nr cr] 25)).alloc (.cells #[.int .i64 0, .int .i64 0, .slice none 0 0, .slice none 0 0] 34)).alloc (.cells #[.int .i64 fn, .int .i64 0, .slice none 0 0, .slice none 0 0] 34) = w1 := ⟨_, rfl⟩
  have hb1 : Below w.heap.size w w1 := by rw [← hw1]; exact (((Below.refl _ w).alloc (Nat.le_refl _) _).alloc (by simp) _).alloc (by simp; omega) _
  have hz1 : w1.heap.size = w.heap.size + 3 := by rw [← hw1]; simp
  have hP1 : Held w1 w.heap.size 25 #[.int .i64 fn, .int .i64 addr, .int .i64 count, .int .i64 to, .slice A nb cb, .slice R nr cr] := by rw [← hw1]; exact ((Held.new w _ _).alloc _).alloc _
  have hO1 : Held w1 (w.heap.size + 1) 34 #[.int .i64 0, .int .i64 0, .slice none 0 0, .slice none 0 0] := by rw [← hw1]; have := Held.new (w.alloc (.cells #[.int .i64 fn, .int .i64 addr, .int .i64 count, .int .i64 to, .slice A nb cb, .slice R nr cr] 25)) 34 #[.int .i64 0, .int .i64 0, .slice none 0 0, .slice none 0 0]; rw [World.size_alloc] at this; exact this.alloc _
  have hR1 : Held w1 (w.heap.size + 1 + 1) 34 #[.int .i64 fn, .int .i64 0, .slice none 0 0, .slice none 0 0] := by rw [← hw1]; have := Held.new ((w.alloc (.cells #[.int .i64 fn, .int .i64 addr, .int .i64 count, .int .i64 to, .slice A nb cb, .slice R nr cr] 25)).alloc (.cells #[.int .i64 0, .int .i64 0, .slice none 0 0, .slice none 0 0] 34)) 34 #[.int .i64 fn, .int .i64 0, .slice none 0 0, .slice none 0 0]; rw [World.size_alloc, World.size_alloc] at this; exact this
  have hu := Tryd.underlying25
  have hsz : (Tryd.prog.info? 25).map (·.size) = some 6 := by kernel_rfl
  have hu4 := Tryd.underlying34
  have hsz4 : (Tryd.prog.info? 34).map (·.size) = some 4 := by kernel_rfl
  have HA := Lib.hid (fun (X : World) (h : Below w.heap.size w X) => hA.up h)
  have HR := Lib.hid (fun (X : World) (h : Below w.heap.size w X) => hR.up h)
  have HB := Lib.hid (fun (X : World) (h : Below w.heap.size w X) => hB.up h)
  have HW1 := Lib.hid hw1
  clear hw1
  have HL := Lib.hid hB.1
  have HCP := Lib.hid hB.2.1
  have hn2' : (n : Int) < 2 := by omega
  have HZ : Hid (readAnswerP ⟨fn, addr, count, to, bs, regs⟩ b = none) := Lib.hid (by unfold readAnswerP; rw [if_pos (by rw [HL.out]; omega)])
  have hb1w := hb1
  have hPw1 := hP1
  have hOw1 := hO1
  have hRw1 := hR1
  have hbw1w := hb1
  have pw10 : w1.cell? ⟨w.heap.size, 0, none⟩ = some (.int .i64 fn) := hPw1.cell 0
  have pw11 : w1.cell? ⟨w.heap.size, 1, none⟩ = some (.int .i64 addr) := hPw1.cell 1
  have pw12 : w1.cell? ⟨w.heap.size, 2, none⟩ = some (.int .i64 count) := hPw1.cell 2
  have pw13 : w1.cell? ⟨w.heap.size, 3, none⟩ = some (.int .i64 to) := hPw1.cell 3
  have pw14 : w1.cell? ⟨w.heap.size, 4, none⟩ = some (.slice A nb cb) := hPw1.cell 4
  have pw15 : w1.cell? ⟨w.heap.size, 5, none⟩ = some (.slice R nr cr) := hPw1.cell 5
  have ow10 : w1.cell? ⟨w.heap.size + 1, 0, none⟩ = some (.int .i64 0) := hOw1.cell 0
  have ow11 : w1.cell? ⟨w.heap.size + 1, 1, none⟩ = some (.int .i64 0) := hOw1.cell 1
  have ow12 : w1.cell? ⟨w.heap.size + 1, 2, none⟩ = some (.slice none 0 0) := hOw1.cell 2
  have ow13 : w1.cell? ⟨w.heap.size + 1, 3, none⟩ = some (.slice none 0 0) := hOw1.cell 3
  have rw10 : w1.cell? ⟨w.heap.size + 1 + 1, 0, none⟩ = some (.int .i64 fn) := hRw1.cell 0
  have rw11 : w1.cell? ⟨w.heap.size + 1 + 1, 1, none⟩ = some (.int .i64 0) := hRw1.cell 1
  have rw12 : w1.cell? ⟨w.heap.size + 1 + 1, 2, none⟩ = some (.slice none 0 0) := hRw1.cell 2
  have rw13 : w1.cell? ⟨w.heap.size + 1 + 1, 3, none⟩ = some (.slice none 0 0) := hRw1.cell 3
  have fow1 := hOw1.frozen
  have frw1 := hRw1.frozen
  have zPw1 := hPw1.lt
  have zOw1 := hOw1.lt
  have zRw1 := hRw1.lt
  clear hA hR hB
  go_in
  go_upto_region 2 with (fail)
  rw [HW1.out]
  go_wp2_with fail
  obtain ⟨wz, hwz⟩ : ∃ W, ((((w1.setCell ⟨w.heap.size + 1, 0, none⟩ (.int .i64 0)).setCell ⟨w.heap.size + 1, 1, none⟩ (.int .i64 0)).setCell ⟨w.heap.size + 1, 2, none⟩ (.slice none 0 0)).setCell ⟨w.heap.size + 1, 3, none⟩ (.slice none 0 0)) = W := ⟨_, rfl⟩
  have hZ : Held wz (w.heap.size + 1) 34 #[.int .i64 0, .int .i64 0, .slice none 0 0, .slice none 0 0] := by rw [← hwz]; exact (((hOw1.set 0 _).set 1 _).set 2 _).set 3 _
  have hbz : Below w.heap.size w wz := by rw [← hwz]; exact ((((hbw1w.setCell (p := ⟨w.heap.size + 1, 0, none⟩) (by simp) _).setCell (p := ⟨w.heap.size + 1, 1, none⟩) (by simp) _).setCell (p := ⟨w.heap.size + 1, 2, none⟩) (by simp) _).setCell (p := ⟨w.heap.size + 1, 3, none⟩) (by simp) _)
  have hoff : OffB w1 wz (w.heap.size + 1) := by rw [← hwz]; exact ((((OffB.refl _ _).set 0 _).set 1 _).set 2 _).set 3 _
  have z0 : wz.cell? ⟨w.heap.size + 1, 0, none⟩ = some (.int .i64 0) := hZ.cell 0
  have z1 : wz.cell? ⟨w.heap.size + 1, 1, none⟩ = some (.int .i64 0) := hZ.cell 1
  have z2 : wz.cell? ⟨w.heap.size + 1, 2, none⟩ = some (.slice none 0 0) := hZ.cell 2
  have z3 : wz.cell? ⟨w.heap.size + 1, 3, none⟩ = some (.slice none 0 0) := hZ.cell 3
  rw [hwz]
  exact bodyPost_ret (v := .tuple #[.agg #[.int .i64 0, .int .i64 0, .slice none 0 0, .slice none 0 0], .int .i64 190]) (by simp [results, Tryd.results16, go_sem, z0, z1, z2, z3]) rfl (ra_none (HZ.out) hbz)
set_option maxRecDepth 100000 in
set_option maxHeartbeats 2000000 in
theorem rr_no (fn addr count to : Int) (bs : List Bool) (regs : List Int) (A : Option Addr) (nb cb : Nat) (R : Option Addr) (nr cr : Nat) (g off n c : Nat) (b : List Int) (w : World) (hA : SlB w w.heap.size A nb cb bs) (hR : SlI w w.heap.size .u16 R nr cr regs) (hy : Reg16 regs) (hB : SlI w w.heap.size .u8 (some ⟨g, off, none⟩) n c b) (hb8 : Byte8 b) (hn : n ≤ 1000) (hn2 : 2 ≤ n) (x0 : Int) (hx0 : b[0]? = some x0) (hm : mayP ⟨fn, addr, count, to, bs, regs⟩ = false)  : Calls Tryd.prog 16 #[.agg #[.int .i64 fn, .int .i64 addr, .int .i64 count, .int .i64 to, .slice A nb cb, .slice R nr cr], .slice (some ⟨g, off, none⟩) n c] w (RaPost w ⟨fn, addr, count, to, bs, regs⟩ b) := by
  obtain ⟨w1, hw1⟩ : ∃ w1, ((w.alloc (.cells #[.int .i64 fn, .int .i64 addr, .int .i64 count, .int .i64 to, .slice A nb cb, .slice R nr cr] 25)).alloc (.cells #[.int .i64 0, .int .i64 0, .slice none 0 0, .slice none 0 0] 34)).alloc (.cells #[.int .i64 fn, .int .i64 0, .slice none 0 0, .slice none 0 0] 34) = w1 := ⟨_, rfl⟩
  have hb1 : Below w.heap.size w w1 := by rw [← hw1]; exact (((Below.refl _ w).alloc (Nat.le_refl _) _).alloc (by simp) _).alloc (by simp; omega) _
  have hz1 : w1.heap.size = w.heap.size + 3 := by rw [← hw1]; simp
  have hP1 : Held w1 w.heap.size 25 #[.int .i64 fn, .int .i64 addr, .int .i64 count, .int .i64 to, .slice A nb cb, .slice R nr cr] := by rw [← hw1]; exact ((Held.new w _ _).alloc _).alloc _
  have hO1 : Held w1 (w.heap.size + 1) 34 #[.int .i64 0, .int .i64 0, .slice none 0 0, .slice none 0 0] := by rw [← hw1]; have := Held.new (w.alloc (.cells #[.int .i64 fn, .int .i64 addr, .int .i64 count, .int .i64 to, .slice A nb cb, .slice R nr cr] 25)) 34 #[.int .i64 0, .int .i64 0, .slice none 0 0, .slice none 0 0]; rw [World.size_alloc] at this; exact this.alloc _
  have hR1 : Held w1 (w.heap.size + 1 + 1) 34 #[.int .i64 fn, .int .i64 0, .slice none 0 0, .slice none 0 0] := by rw [← hw1]; have := Held.new ((w.alloc (.cells #[.int .i64 fn, .int .i64 addr, .int .i64 count, .int .i64 to, .slice A nb cb, .slice R nr cr] 25)).alloc (.cells #[.int .i64 0, .int .i64 0, .slice none 0 0, .slice none 0 0] 34)) 34 #[.int .i64 fn, .int .i64 0, .slice none 0 0, .slice none 0 0]; rw [World.size_alloc, World.size_alloc] at this; exact this
  have hu := Tryd.underlying25
  have hsz : (Tryd.prog.info? 25).map (·.size) = some 6 := by kernel_rfl
  have hu4 := Tryd.underlying34
  have hsz4 : (Tryd.prog.info? 34).map (·.size) = some 4 := by kernel_rfl
  have HA := Lib.hid (fun (X : World) (h : Below w.heap.size w X) => hA.up h)
  have HR := Lib.hid (fun (X : World) (h : Below w.heap.size w X) => hR.up h)
  have HB := Lib.hid (fun (X : World) (h : Below w.heap.size w X) => hB.up h)
  have HW1 := Lib.hid hw1
  clear hw1
  have HL := Lib.hid hB.1
  have HCP := Lib.hid hB.2.1
  have hn2' : ¬ (n : Int) < 2 := by omega
  have hn0 : 0 < n := by omega
  obtain ⟨x00, x01⟩ := hb8 x0 (List.mem_of_getElem? hx0)
  have hmy := may_any (.agg #[.int .i64 fn, .int .i64 addr, .int .i64 count, .int .i64 to, .slice A nb cb, .slice R nr cr]) ⟨fn, addr, count, to, bs, regs⟩ w1 ⟨A, nb, cb, R, nr, cr, rfl, hA.up hb1, hR.up hb1⟩
  rw [hm] at hmy
  have HM := Lib.hid hmy
  clear hmy
  have HZ : Hid (readAnswerP ⟨fn, addr, count, to, bs, regs⟩ b = none) := Lib.hid (readAnswer_no _ _ hm)
  clear hm
  have HX0 := Lib.hid hx0
  clear hx0
  clear hA hR hB
  go_in
  go_upto_region 2 with (fail)
  rw [HW1.out]
  go_wp2_with ((with_reducible refine at_loadT 25 2 ?_); refine wpList_load_rowG rfl 25 (.tmp 2) rfl w.heap.size rfl 25 _ _ hP1 hu rfl hsz ?_)
  refine HM.out.mono ?_
  rintro e w2 ⟨rfl, hb2⟩
  have hb2w := hb1.trans (hb2.mono hb1.size)
  have hPw2 := hP1.below hb2 hP1.lt
  have hOw2 := hO1.below hb2 hO1.lt
  have hRw2 := hR1.below hb2 hR1.lt
  have hbw2w := hb2w
  clear hP1 hO1 hR1 hb2 HW1
  have pw20 : w2.cell? ⟨w.heap.size, 0, none⟩ = some (.int .i64 fn) := hPw2.cell 0
  have pw21 : w2.cell? ⟨w.heap.size, 1, none⟩ = some (.int .i64 addr) := hPw2.cell 1
  have pw22 : w2.cell? ⟨w.heap.size, 2, none⟩ = some (.int .i64 count) := hPw2.cell 2
  have pw23 : w2.cell? ⟨w.heap.size, 3, none⟩ = some (.int .i64 to) := hPw2.cell 3
  have pw24 : w2.cell? ⟨w.heap.size, 4, none⟩ = some (.slice A nb cb) := hPw2.cell 4
  have pw25 : w2.cell? ⟨w.heap.size, 5, none⟩ = some (.slice R nr cr) := hPw2.cell 5
  have ow20 : w2.cell? ⟨w.heap.size + 1, 0, none⟩ = some (.int .i64 0) := hOw2.cell 0
  have ow21 : w2.cell? ⟨w.heap.size + 1, 1, none⟩ = some (.int .i64 0) := hOw2.cell 1
  have ow22 : w2.cell? ⟨w.heap.size + 1, 2, none⟩ = some (.slice none 0 0) := hOw2.cell 2
  have ow23 : w2.cell? ⟨w.heap.size + 1, 3, none⟩ = some (.slice none 0 0) := hOw2.cell 3
  have rw20 : w2.cell? ⟨w.heap.size + 1 + 1, 0, none⟩ = some (.int .i64 fn) := hRw2.cell 0
  have rw21 : w2.cell? ⟨w.heap.size + 1 + 1, 1, none⟩ = some (.int .i64 0) := hRw2.cell 1
  have rw22 : w2.cell? ⟨w.heap.size + 1 + 1, 2, none⟩ = some (.slice none 0 0) := hRw2.cell 2
  have rw23 : w2.cell? ⟨w.heap.size + 1 + 1, 3, none⟩ = some (.slice none 0 0) := hRw2.cell 3
  have fow2 := hOw2.frozen
  have frw2 := hRw2.frozen
  have zPw2 := hPw2.lt
  have zOw2 := hOw2.lt
  have zRw2 := hRw2.lt
  go_wp2_with fail
  obtain ⟨wz, hwz⟩ : ∃ W, ((((w2.setCell ⟨w.heap.size + 1, 0, none⟩ (.int .i64 0)).setCell ⟨w.heap.size + 1, 1, none⟩ (.int .i64 0)).setCell ⟨w.heap.size + 1, 2, none⟩ (.slice none 0 0)).setCell ⟨w.heap.size + 1, 3, none⟩ (.slice none 0 0)) = W := ⟨_, rfl⟩
  have hZ : Held wz (w.heap.size + 1) 34 #[.int .i64 0, .int .i64 0, .slice none 0 0, .slice none 0 0] := by rw [← hwz]; exact (((hOw2.set 0 _).set 1 _).set 2 _).set 3 _
  have hbz : Below w.heap.size w wz := by rw [← hwz]; exact ((((hbw2w.setCell (p := ⟨w.heap.size + 1, 0, none⟩) (by simp) _).setCell (p := ⟨w.heap.size + 1, 1, none⟩) (by simp) _).setCell (p := ⟨w.heap.size + 1, 2, none⟩) (by simp) _).setCell (p := ⟨w.heap.size + 1, 3, none⟩) (by simp) _)
  have hoff : OffB w2 wz (w.heap.size + 1) := by rw [← hwz]; exact ((((OffB.refl _ _).set 0 _).set 1 _).set 2 _).set 3 _
  have z0 : wz.cell? ⟨w.heap.size + 1, 0, none⟩ = some (.int .i64 0) := hZ.cell 0
  have z1 : wz.cell? ⟨w.heap.size + 1, 1, none⟩ = some (.int .i64 0) := hZ.cell 1
  have z2 : wz.cell? ⟨w.heap.size + 1, 2, none⟩ = some (.slice none 0 0) := hZ.cell 2
  have z3 : wz.cell? ⟨w.heap.size + 1, 3, none⟩ = some (.slice none 0 0) := hZ.cell 3
  rw [hwz]
  exact bodyPost_ret (v := .tuple #[.agg #[.int .i64 0, .int .i64 0, .slice none 0 0, .slice none 0 0], .int .i64 190]) (by simp [results, Tryd.results16, go_sem, z0, z1, z2, z3]) rfl (ra_none (HZ.out) hbz)
set_option maxRecDepth 100000 in
set_option maxHeartbeats 2000000 in
theorem rr1 (fn addr count to : Int) (bs : List Bool) (regs : List Int) (A : Option Addr) (nb cb : Nat) (R : Option Addr) (nr cr : Nat) (g off n c : Nat) (b : List Int) (w : World) (hA : SlB w w.heap.size A nb cb bs) (hR : SlI w w.heap.size .u16 R nr cr regs) (hy : Reg16 regs) (hB : SlI w w.heap.size .u8 (some ⟨g, off, none⟩) n c b) (hb8 : Byte8 b) (hn : n ≤ 1000) (hn2 : 2 ≤ n) (x0 : Int) (hx0 : b[0]? = some x0) (hm : mayP ⟨fn, addr, count, to, bs, regs⟩ = true) (x1 : Int) (hx1 : b[1]? = some x1) (hfin : readAnswerP ⟨fn, addr, count, to, bs, regs⟩ b = if answerP ⟨fn, addr, count, to, bs, regs⟩ (⟨fn, x1, [], []⟩ : RepP) = some b then some (⟨fn, x1, [], []⟩ : RepP) else none) (ht : 128 ≤ x0) : Calls Tryd.prog 16 #[.agg #[.int .i64 fn, .int .i64 addr, .int .i64 count, .int .i64 to, .slice A nb cb, .slice R nr cr], .slice (some ⟨g, off, none⟩) n c] w (RaPost w ⟨fn, addr, count, to, bs, regs⟩ b) := by
  obtain ⟨w1, hw1⟩ : ∃ w1, ((w.alloc (.cells #[.int .i64 fn, .int .i64 addr, .int .i64 count, .int .i64 to, .slice A nb cb, .slice R nr cr] 25)).alloc (.cells #[.int .i64 0, .int .i64 0, .slice none 0 0, .slice none 0 0] 34)).alloc (.cells #[.int .i64 fn, .int .i64 0, .slice none 0 0, .slice none 0 0] 34) = w1 := ⟨_, rfl⟩
  have hb1 : Below w.heap.size w w1 := by rw [← hw1]; exact (((Below.refl _ w).alloc (Nat.le_refl _) _).alloc (by simp) _).alloc (by simp; omega) _
  have hz1 : w1.heap.size = w.heap.size + 3 := by rw [← hw1]; simp
  have hP1 : Held w1 w.heap.size 25 #[.int .i64 fn, .int .i64 addr, .int .i64 count, .int .i64 to, .slice A nb cb, .slice R nr cr] := by rw [← hw1]; exact ((Held.new w _ _).alloc _).alloc _
  have hO1 : Held w1 (w.heap.size + 1) 34 #[.int .i64 0, .int .i64 0, .slice none 0 0, .slice none 0 0] := by rw [← hw1]; have := Held.new (w.alloc (.cells #[.int .i64 fn, .int .i64 addr, .int .i64 count, .int .i64 to, .slice A nb cb, .slice R nr cr] 25)) 34 #[.int .i64 0, .int .i64 0, .slice none 0 0, .slice none 0 0]; rw [World.size_alloc] at this; exact this.alloc _
  have hR1 : Held w1 (w.heap.size + 1 + 1) 34 #[.int .i64 fn, .int .i64 0, .slice none 0 0, .slice none 0 0] := by rw [← hw1]; have := Held.new ((w.alloc (.cells #[.int .i64 fn, .int .i64 addr, .int .i64 count, .int .i64 to, .slice A nb cb, .slice R nr cr] 25)).alloc (.cells #[.int .i64 0, .int .i64 0, .slice none 0 0, .slice none 0 0] 34)) 34 #[.int .i64 fn, .int .i64 0, .slice none 0 0, .slice none 0 0]; rw [World.size_alloc, World.size_alloc] at this; exact this
  have hu := Tryd.underlying25
  have hsz : (Tryd.prog.info? 25).map (·.size) = some 6 := by kernel_rfl
  have hu4 := Tryd.underlying34
  have hsz4 : (Tryd.prog.info? 34).map (·.size) = some 4 := by kernel_rfl
  have HA := Lib.hid (fun (X : World) (h : Below w.heap.size w X) => hA.up h)
  have HR := Lib.hid (fun (X : World) (h : Below w.heap.size w X) => hR.up h)
  have HB := Lib.hid (fun (X : World) (h : Below w.heap.size w X) => hB.up h)
  have HW1 := Lib.hid hw1
  clear hw1
  have HL := Lib.hid hB.1
  have HCP := Lib.hid hB.2.1
  have hn2' : ¬ (n : Int) < 2 := by omega
  have hn0 : 0 < n := by omega
  obtain ⟨x00, x01⟩ := hb8 x0 (List.mem_of_getElem? hx0)
  have hmy := may_any (.agg #[.int .i64 fn, .int .i64 addr, .int .i64 count, .int .i64 to, .slice A nb cb, .slice R nr cr]) ⟨fn, addr, count, to, bs, regs⟩ w1 ⟨A, nb, cb, R, nr, cr, rfl, hA.up hb1, hR.up hb1⟩
  rw [hm] at hmy
  have HM := Lib.hid hmy
  clear hmy
  have HF : Hid (readAnswerP ⟨fn, addr, count, to, bs, regs⟩ b = if answerP ⟨fn, addr, count, to, bs, regs⟩ (⟨fn, x1, [], []⟩ : RepP) = some b then some (⟨fn, x1, [], []⟩ : RepP) else none) := Lib.hid hfin
  clear hfin hm
  have HX0 := Lib.hid hx0
  clear hx0
  obtain ⟨x10, x11⟩ := hb8 x1 (List.mem_of_getElem? hx1)
  have HX1 := Lib.hid hx1
  have hn1 : 1 < n := by omega
  clear hx1
  clear hA hR hB
  go_in
  go_upto_region 2 with (fail)
  rw [HW1.out]
  go_wp2_with ((with_reducible refine at_loadT 25 2 ?_); refine wpList_load_rowG rfl 25 (.tmp 2) rfl w.heap.size rfl 25 _ _ hP1 hu rfl hsz ?_)
  refine HM.out.mono ?_
  rintro e w2 ⟨rfl, hb2⟩
  have hb2w := hb1.trans (hb2.mono hb1.size)
  have hPw2 := hP1.below hb2 hP1.lt
  have hOw2 := hO1.below hb2 hO1.lt
  have hRw2 := hR1.below hb2 hR1.lt
  have hbw2w := hb2w
  clear hP1 hO1 hR1 hb2 HW1
  have pw20 : w2.cell? ⟨w.heap.size, 0, none⟩ = some (.int .i64 fn) := hPw2.cell 0
  have pw21 : w2.cell? ⟨w.heap.size, 1, none⟩ = some (.int .i64 addr) := hPw2.cell 1
  have pw22 : w2.cell? ⟨w.heap.size, 2, none⟩ = some (.int .i64 count) := hPw2.cell 2
  have pw23 : w2.cell? ⟨w.heap.size, 3, none⟩ = some (.int .i64 to) := hPw2.cell 3
  have pw24 : w2.cell? ⟨w.heap.size, 4, none⟩ = some (.slice A nb cb) := hPw2.cell 4
  have pw25 : w2.cell? ⟨w.heap.size, 5, none⟩ = some (.slice R nr cr) := hPw2.cell 5
  have ow20 : w2.cell? ⟨w.heap.size + 1, 0, none⟩ = some (.int .i64 0) := hOw2.cell 0
  have ow21 : w2.cell? ⟨w.heap.size + 1, 1, none⟩ = some (.int .i64 0) := hOw2.cell 1
  have ow22 : w2.cell? ⟨w.heap.size + 1, 2, none⟩ = some (.slice none 0 0) := hOw2.cell 2
  have ow23 : w2.cell? ⟨w.heap.size + 1, 3, none⟩ = some (.slice none 0 0) := hOw2.cell 3
  have rw20 : w2.cell? ⟨w.heap.size + 1 + 1, 0, none⟩ = some (.int .i64 fn) := hRw2.cell 0
  have rw21 : w2.cell? ⟨w.heap.size + 1 + 1, 1, none⟩ = some (.int .i64 0) := hRw2.cell 1
  have rw22 : w2.cell? ⟨w.heap.size + 1 + 1, 2, none⟩ = some (.slice none 0 0) := hRw2.cell 2
  have rw23 : w2.cell? ⟨w.heap.size + 1 + 1, 3, none⟩ = some (.slice none 0 0) := hRw2.cell 3
  have fow2 := hOw2.frozen
  have frw2 := hRw2.frozen
  have zPw2 := hPw2.lt
  have zOw2 := hOw2.lt
  have zRw2 := hRw2.lt
  have hc0 : w2.cell? ⟨g, off, none⟩ = some (.int .u8 x0) := by
    obtain ⟨g', o', e, hlt, hc⟩ := (HB.out w2 hb2w).2.2.2.2 (by rw [HL.out]; omega)
    injection e with e
    injection e with e1 e2
    subst e1 e2
    exact hc 0 x0 HX0.out
  have hc1 : w2.cell? ⟨g, off + 1, none⟩ = some (.int .u8 x1) := by
    obtain ⟨g', o', e, hlt, hc⟩ := (HB.out w2 hb2w).2.2.2.2 (by rw [HL.out]; omega)
    injection e with e
    injection e with e1 e2
    subst e1 e2
    exact hc 1 x1 HX1.out
  obtain ⟨w3, hw3⟩ : ∃ W, w2.setCell ⟨w.heap.size + 1 + 1, 1, none⟩ (.int .i64 x1) = W := ⟨_, rfl⟩
  have hbw3w : Below w.heap.size w w3 := by rw [← hw3]; exact hbw2w.setCell (p := ⟨w.heap.size + 1 + 1, 1, none⟩) (by show w.heap.size ≤ w.heap.size + 1 + 1; omega) _
  have hPw3 : Held w3 w.heap.size 25 #[.int .i64 fn, .int .i64 addr, .int .i64 count, .int .i64 to, .slice A nb cb, .slice R nr cr] := by rw [← hw3]; exact hPw2.far (p := ⟨w.heap.size + 1 + 1, 1, none⟩) (by show w.heap.size ≠ w.heap.size + 1 + 1; omega) _
  have hOw3 : Held w3 (w.heap.size + 1) 34 #[.int .i64 0, .int .i64 0, .slice none 0 0, .slice none 0 0] := by rw [← hw3]; exact hOw2.far (p := ⟨w.heap.size + 1 + 1, 1, none⟩) (by show w.heap.size + 1 ≠ w.heap.size + 1 + 1; omega) _
  have hRw3 : Held w3 (w.heap.size + 1 + 1) 34 #[.int .i64 fn, .int .i64 x1, .slice none 0 0, .slice none 0 0] := by rw [← hw3]; exact hRw2.set 1 _
  have pw30 : w3.cell? ⟨w.heap.size, 0, none⟩ = some (.int .i64 fn) := hPw3.cell 0
  have pw31 : w3.cell? ⟨w.heap.size, 1, none⟩ = some (.int .i64 addr) := hPw3.cell 1
  have pw32 : w3.cell? ⟨w.heap.size, 2, none⟩ = some (.int .i64 count) := hPw3.cell 2
  have pw33 : w3.cell? ⟨w.heap.size, 3, none⟩ = some (.int .i64 to) := hPw3.cell 3
  have pw34 : w3.cell? ⟨w.heap.size, 4, none⟩ = some (.slice A nb cb) := hPw3.cell 4
  have pw35 : w3.cell? ⟨w.heap.size, 5, none⟩ = some (.slice R nr cr) := hPw3.cell 5
  have ow30 : w3.cell? ⟨w.heap.size + 1, 0, none⟩ = some (.int .i64 0) := hOw3.cell 0
  have ow31 : w3.cell? ⟨w.heap.size + 1, 1, none⟩ = some (.int .i64 0) := hOw3.cell 1
  have ow32 : w3.cell? ⟨w.heap.size + 1, 2, none⟩ = some (.slice none 0 0) := hOw3.cell 2
  have ow33 : w3.cell? ⟨w.heap.size + 1, 3, none⟩ = some (.slice none 0 0) := hOw3.cell 3
  have rw30 : w3.cell? ⟨w.heap.size + 1 + 1, 0, none⟩ = some (.int .i64 fn) := hRw3.cell 0
  have rw31 : w3.cell? ⟨w.heap.size + 1 + 1, 1, none⟩ = some (.int .i64 x1) := hRw3.cell 1
  have rw32 : w3.cell? ⟨w.heap.size + 1 + 1, 2, none⟩ = some (.slice none 0 0) := hRw3.cell 2
  have rw33 : w3.cell? ⟨w.heap.size + 1 + 1, 3, none⟩ = some (.slice none 0 0) := hRw3.cell 3
  have fow3 := hOw3.frozen
  have frw3 := hRw3.frozen
  have zPw3 := hPw3.lt
  have zOw3 := hOw3.lt
  have zRw3 := hRw3.lt
  have HAN := Lib.hid (answer_ref (.agg #[.int .i64 fn, .int .i64 addr, .int .i64 count, .int .i64 to, .slice A nb cb, .slice R nr cr]) (.agg #[.int .i64 fn, .int .i64 x1, .slice none 0 0, .slice none 0 0]) ⟨fn, addr, count, to, bs, regs⟩ (⟨fn, x1, [], []⟩ : RepP) w3 ⟨A, nb, cb, R, nr, cr, rfl, HA.out w3 hbw3w, HR.out w3 hbw3w⟩ ⟨none, 0, 0, none, 0, 0, rfl, SlB.nil _ _, SlI.nil _ _ _⟩ hy reg_nil)
  go_wp2_with (first | ((with_reducible refine at_loadT 25 2 ?_); refine wpList_load_rowG rfl 25 (.tmp 2) rfl w.heap.size rfl 25 _ _ hPw3 hu rfl hsz ?_) | ((with_reducible refine at_loadT 34 6 ?_); refine wpList_load_rowG rfl 34 (.tmp 6) rfl (w.heap.size + 1 + 1) rfl 34 _ _ hRw3 hu4 rfl hsz4 ?_))
  refine HAN.out.mono ?_
  rintro e wq ⟨Aq, nq, cq, rfl, sq, hbq⟩
  have hbqw := hbw3w.trans (hbq.mono hbw3w.size)
  have hPwq := hPw3.below hbq hPw3.lt
  have hOwq := hOw3.below hbq hOw3.lt
  have hRwq := hRw3.below hbq hRw3.lt
  have pwq0 : wq.cell? ⟨w.heap.size, 0, none⟩ = some (.int .i64 fn) := hPwq.cell 0
  have pwq1 : wq.cell? ⟨w.heap.size, 1, none⟩ = some (.int .i64 addr) := hPwq.cell 1
  have pwq2 : wq.cell? ⟨w.heap.size, 2, none⟩ = some (.int .i64 count) := hPwq.cell 2
  have pwq3 : wq.cell? ⟨w.heap.size, 3, none⟩ = some (.int .i64 to) := hPwq.cell 3
  have pwq4 : wq.cell? ⟨w.heap.size, 4, none⟩ = some (.slice A nb cb) := hPwq.cell 4
  have pwq5 : wq.cell? ⟨w.heap.size, 5, none⟩ = some (.slice R nr cr) := hPwq.cell 5
  have owq0 : wq.cell? ⟨w.heap.size + 1, 0, none⟩ = some (.int .i64 0) := hOwq.cell 0
  have owq1 : wq.cell? ⟨w.heap.size + 1, 1, none⟩ = some (.int .i64 0) := hOwq.cell 1
  have owq2 : wq.cell? ⟨w.heap.size + 1, 2, none⟩ = some (.slice none 0 0) := hOwq.cell 2
  have owq3 : wq.cell? ⟨w.heap.size + 1, 3, none⟩ = some (.slice none 0 0) := hOwq.cell 3
  have rwq0 : wq.cell? ⟨w.heap.size + 1 + 1, 0, none⟩ = some (.int .i64 fn) := hRwq.cell 0
  have rwq1 : wq.cell? ⟨w.heap.size + 1 + 1, 1, none⟩ = some (.int .i64 x1) := hRwq.cell 1
  have rwq2 : wq.cell? ⟨w.heap.size + 1 + 1, 2, none⟩ = some (.slice none 0 0) := hRwq.cell 2
  have rwq3 : wq.cell? ⟨w.heap.size + 1 + 1, 3, none⟩ = some (.slice none 0 0) := hRwq.cell 3
  have fowq := hOwq.frozen
  have frwq := hRwq.frozen
  have zPwq := hPwq.lt
  have zOwq := hOwq.lt
  have zRwq := hRwq.lt
  have hbwqw := hbqw
  cases han : answerP ⟨fn, addr, count, to, bs, regs⟩ (⟨fn, x1, [], []⟩ : RepP) with
  | none =>
    have hfz : readAnswerP ⟨fn, addr, count, to, bs, regs⟩ b = none := by rw [HF.out, han]; rfl
    have HZ := Lib.hid hfz
    have he : errV (none : Option (List Int)).isSome = 190 := rfl
    rw [he]
    clear han hfz he
    go_wp2_with fail
    obtain ⟨wz, hwz⟩ : ∃ W, ((((wq.setCell ⟨w.heap.size + 1, 0, none⟩ (.int .i64 0)).setCell ⟨w.heap.size + 1, 1, none⟩ (.int .i64 0)).setCell ⟨w.heap.size + 1, 2, none⟩ (.slice none 0 0)).setCell ⟨w.heap.size + 1, 3, none⟩ (.slice none 0 0)) = W := ⟨_, rfl⟩
    have hZ : Held wz (w.heap.size + 1) 34 #[.int .i64 0, .int .i64 0, .slice none 0 0, .slice none 0 0] := by rw [← hwz]; exact (((hOwq.set 0 _).set 1 _).set 2 _).set 3 _
    have hbz : Below w.heap.size w wz := by rw [← hwz]; exact ((((hbwqw.setCell (p := ⟨w.heap.size + 1, 0, none⟩) (by simp) _).setCell (p := ⟨w.heap.size + 1, 1, none⟩) (by simp) _).setCell (p := ⟨w.heap.size + 1, 2, none⟩) (by simp) _).setCell (p := ⟨w.heap.size + 1, 3, none⟩) (by simp) _)
    have hoff : OffB wq wz (w.heap.size + 1) := by rw [← hwz]; exact ((((OffB.refl _ _).set 0 _).set 1 _).set 2 _).set 3 _
    have z0 : wz.cell? ⟨w.heap.size + 1, 0, none⟩ = some (.int .i64 0) := hZ.cell 0
    have z1 : wz.cell? ⟨w.heap.size + 1, 1, none⟩ = some (.int .i64 0) := hZ.cell 1
    have z2 : wz.cell? ⟨w.heap.size + 1, 2, none⟩ = some (.slice none 0 0) := hZ.cell 2
    have z3 : wz.cell? ⟨w.heap.size + 1, 3, none⟩ = some (.slice none 0 0) := hZ.cell 3
    rw [hwz]
    exact bodyPost_ret (v := .tuple #[.agg #[.int .i64 0, .int .i64 0, .slice none 0 0, .slice none 0 0], .int .i64 190]) (by simp [results, Tryd.results16, go_sem, z0, z1, z2, z3]) rfl (ra_none (HZ.out) hbz)
  | some x =>
    have he : errV (some x : Option (List Int)).isSome = 0 := rfl
    rw [he]
    rw [han] at sq
    have hx8 : Byte8 x := (reply_read _ _ x reg_nil hy han).2.2.2.1
    have k1 := conv_sli sq
    have k2 := conv_sli (HB.out wq hbqw)
    have hst := str_eq x b hx8 hb8
    obtain ⟨S1, hS1⟩ : ∃ S, strOfNums x = S := ⟨_, rfl⟩
    obtain ⟨S2, hS2⟩ : ∃ S, strOfNums b = S := ⟨_, rfl⟩
    simp only [Option.getD_some] at k1
    rw [hS1] at k1
    rw [hS2] at k2
    rw [hS1, hS2] at hst
    clear hS1 hS2
    by_cases hxb : x = b
    · have hfz : readAnswerP ⟨fn, addr, count, to, bs, regs⟩ b = some (⟨fn, x1, [], []⟩ : RepP) := by rw [HF.out, han, if_pos (by rw [hxb])]
      have HZ := Lib.hid hfz
      rw [decide_eq_true hxb] at hst
      clear han hfz he hxb sq hx8
      go_wp2_with fail
      obtain ⟨wz, hwz⟩ : ∃ W, ((((wq.setCell ⟨w.heap.size + 1, 0, none⟩ (.int .i64 fn)).setCell ⟨w.heap.size + 1, 1, none⟩ (.int .i64 x1)).setCell ⟨w.heap.size + 1, 2, none⟩ (.slice none 0 0)).setCell ⟨w.heap.size + 1, 3, none⟩ (.slice none 0 0)) = W := ⟨_, rfl⟩
      have hZ : Held wz (w.heap.size + 1) 34 #[.int .i64 fn, .int .i64 x1, .slice none 0 0, .slice none 0 0] := by rw [← hwz]; exact (((hOwq.set 0 _).set 1 _).set 2 _).set 3 _
      have hbz : Below w.heap.size w wz := by rw [← hwz]; exact ((((hbwqw.setCell (p := ⟨w.heap.size + 1, 0, none⟩) (by simp) _).setCell (p := ⟨w.heap.size + 1, 1, none⟩) (by simp) _).setCell (p := ⟨w.heap.size + 1, 2, none⟩) (by simp) _).setCell (p := ⟨w.heap.size + 1, 3, none⟩) (by simp) _)
      have hoff : OffB wq wz (w.heap.size + 1) := by rw [← hwz]; exact ((((OffB.refl _ _).set 0 _).set 1 _).set 2 _).set 3 _
      have z0 : wz.cell? ⟨w.heap.size + 1, 0, none⟩ = some (.int .i64 fn) := hZ.cell 0
      have z1 : wz.cell? ⟨w.heap.size + 1, 1, none⟩ = some (.int .i64 x1) := hZ.cell 1
      have z2 : wz.cell? ⟨w.heap.size + 1, 2, none⟩ = some (.slice none 0 0) := hZ.cell 2
      have z3 : wz.cell? ⟨w.heap.size + 1, 3, none⟩ = some (.slice none 0 0) := hZ.cell 3
      rw [hwz]
      exact bodyPost_ret (v := .tuple #[.agg #[.int .i64 fn, .int .i64 x1, .slice none 0 0, .slice none 0 0], .int .i64 0]) (by simp [results, Tryd.results16, go_sem, z0, z1, z2, z3]) rfl (ra_some HZ.out ⟨none, 0, 0, none, 0, 0, rfl, SlB.nil _ _, SlI.nil _ _ _⟩ hbz)
    · have hfz : readAnswerP ⟨fn, addr, count, to, bs, regs⟩ b = none := by rw [HF.out, han, if_neg (by simpa using hxb)]
      have HZ := Lib.hid hfz
      rw [decide_eq_false hxb] at hst
      clear han hfz he hxb sq hx8
      go_wp2_with fail
      obtain ⟨wz, hwz⟩ : ∃ W, ((((wq.setCell ⟨w.heap.size + 1, 0, none⟩ (.int .i64 0)).setCell ⟨w.heap.size + 1, 1, none⟩ (.int .i64 0)).setCell ⟨w.heap.size + 1, 2, none⟩ (.slice none 0 0)).setCell ⟨w.heap.size + 1, 3, none⟩ (.slice none 0 0)) = W := ⟨_, rfl⟩
      have hZ : Held wz (w.heap.size + 1) 34 #[.int .i64 0, .int .i64 0, .slice none 0 0, .slice none 0 0] := by rw [← hwz]; exact (((hOwq.set 0 _).set 1 _).set 2 _).set 3 _
      have hbz : Below w.heap.size w wz := by rw [← hwz]; exact ((((hbwqw.setCell (p := ⟨w.heap.size + 1, 0, none⟩) (by simp) _).setCell (p := ⟨w.heap.size + 1, 1, none⟩) (by simp) _).setCell (p := ⟨w.heap.size + 1, 2, none⟩) (by simp) _).setCell (p := ⟨w.heap.size + 1, 3, none⟩) (by simp) _)
      have hoff : OffB wq wz (w.heap.size + 1) := by rw [← hwz]; exact ((((OffB.refl _ _).set 0 _).set 1 _).set 2 _).set 3 _
      have z0 : wz.cell? ⟨w.heap.size + 1, 0, none⟩ = some (.int .i64 0) := hZ.cell 0
      have z1 : wz.cell? ⟨w.heap.size + 1, 1, none⟩ = some (.int .i64 0) := hZ.cell 1
      have z2 : wz.cell? ⟨w.heap.size + 1, 2, none⟩ = some (.slice none 0 0) := hZ.cell 2
      have z3 : wz.cell? ⟨w.heap.size + 1, 3, none⟩ = some (.slice none 0 0) := hZ.cell 3
      rw [hwz]
      exact bodyPost_ret (v := .tuple #[.agg #[.int .i64 0, .int .i64 0, .slice none 0 0, .slice none 0 0], .int .i64 190]) (by simp [results, Tryd.results16, go_sem, z0, z1, z2, z3]) rfl (ra_none (HZ.out) hbz)
set_option maxRecDepth 100000 in
set_option maxHeartbeats 2000000 in
theorem rr4 (fn addr count to : Int) (bs : List Bool) (regs : List Int) (A : Option Addr) (nb cb : Nat) (R : Option Addr) (nr cr : Nat) (g off n c : Nat) (b : List Int) (w : World) (hA : SlB w w.heap.size A nb cb bs) (hR : SlI w w.heap.size .u16 R nr cr regs) (hy : Reg16 regs) (hB : SlI w w.heap.size .u8 (some ⟨g, off, none⟩) n c b) (hb8 : Byte8 b) (hn : n ≤ 1000) (hn2 : 2 ≤ n) (x0 : Int) (hx0 : b[0]? = some x0) (hm : mayP ⟨fn, addr, count, to, bs, regs⟩ = true) (hfin : readAnswerP ⟨fn, addr, count, to, bs, regs⟩ b = if answerP ⟨fn, addr, count, to, bs, regs⟩ (⟨fn, 0, [], []⟩ : RepP) = some b then some (⟨fn, 0, [], []⟩ : RepP) else none) (ht : x0 < 128) (hc0 : count = 0) (h3 : (fn == 3) = false) (h4 : (fn == 4) = false) (h23 : (fn == 23) = false) : Calls Tryd.prog 16 #[.agg #[.int .i64 fn, .int .i64 addr, .int .i64 count, .int .i64 to, .slice A nb cb, .slice R nr cr], .slice (some ⟨g, off, none⟩) n c] w (RaPost w ⟨fn, addr, count, to, bs, regs⟩ b) := by
  obtain ⟨w1, hw1⟩ : ∃ w1, ((w.alloc (.cells #[.int .i64 fn, .int .i64 addr, .int .i64 count, .int .i64 to, .slice A nb cb, .slice R nr cr] 25)).alloc (.cells #[.int .i64 0, .int .i64 0, .slice none 0 0, .slice none 0 0] 34)).alloc (.cells #[.int .i64 fn, .int .i64 0, .slice none 0 0, .slice none 0 0] 34) = w1 := ⟨_, rfl⟩
  have hb1 : Below w.heap.size w w1 := by rw [← hw1]; exact (((Below.refl _ w).alloc (Nat.le_refl _) _).alloc (by simp) _).alloc (by simp; omega) _
  have hz1 : w1.heap.size = w.heap.size + 3 := by rw [← hw1]; simp
  have hP1 : Held w1 w.heap.size 25 #[.int .i64 fn, .int .i64 addr, .int .i64 count, .int .i64 to, .slice A nb cb, .slice R nr cr] := by rw [← hw1]; exact ((Held.new w _ _).alloc _).alloc _
  have hO1 : Held w1 (w.heap.size + 1) 34 #[.int .i64 0, .int .i64 0, .slice none 0 0, .slice none 0 0] := by rw [← hw1]; have := Held.new (w.alloc (.cells #[.int .i64 fn, .int .i64 addr, .int .i64 count, .int .i64 to, .slice A nb cb, .slice R nr cr] 25)) 34 #[.int .i64 0, .int .i64 0, .slice none 0 0, .slice none 0 0]; rw [World.size_alloc] at this; exact this.alloc _
  have hR1 : Held w1 (w.heap.size + 1 + 1) 34 #[.int .i64 fn, .int .i64 0, .slice none 0 0, .slice none 0 0] := by rw [← hw1]; have := Held.new ((w.alloc (.cells #[.int .i64 fn, .int .i64 addr, .int .i64 count, .int .i64 to, .slice A nb cb, .slice R nr cr] 25)).alloc (.cells #[.int .i64 0, .int .i64 0, .slice none 0 0, .slice none 0 0] 34)) 34 #[.int .i64 fn, .int .i64 0, .slice none 0 0, .slice none 0 0]; rw [World.size_alloc, World.size_alloc] at this; exact this
  have hu := Tryd.underlying25
  have hsz : (Tryd.prog.info? 25).map (·.size) = some 6 := by kernel_rfl
  have hu4 := Tryd.underlying34
  have hsz4 : (Tryd.prog.info? 34).map (·.size) = some 4 := by kernel_rfl
  have HA := Lib.hid (fun (X : World) (h : Below w.heap.size w X) => hA.up h)
  have HR := Lib.hid (fun (X : World) (h : Below w.heap.size w X) => hR.up h)
  have HB := Lib.hid (fun (X : World) (h : Below w.heap.size w X) => hB.up h)
  have HW1 := Lib.hid hw1
  clear hw1
  have HL := Lib.hid hB.1
  have HCP := Lib.hid hB.2.1
  have hn2' : ¬ (n : Int) < 2 := by omega
  have hn0 : 0 < n := by omega
  obtain ⟨x00, x01⟩ := hb8 x0 (List.mem_of_getElem? hx0)
  have hmy := may_any (.agg #[.int .i64 fn, .int .i64 addr, .int .i64 count, .int .i64 to, .slice A nb cb, .slice R nr cr]) ⟨fn, addr, count, to, bs, regs⟩ w1 ⟨A, nb, cb, R, nr, cr, rfl, hA.up hb1, hR.up hb1⟩
  rw [hm] at hmy
  have HM := Lib.hid hmy
  clear hmy
  have HF : Hid (readAnswerP ⟨fn, addr, count, to, bs, regs⟩ b = if answerP ⟨fn, addr, count, to, bs, regs⟩ (⟨fn, 0, [], []⟩ : RepP) = some b then some (⟨fn, 0, [], []⟩ : RepP) else none) := Lib.hid hfin
  clear hfin hm
  have HX0 := Lib.hid hx0
  clear hx0
  have hct : ¬ (0 : Int) < count := by omega
  have HC0 := Lib.hid hc0
  clear hc0
  clear hA hR hB
  go_in
  go_upto_region 2 with (fail)
  rw [HW1.out]
  go_wp2_with ((with_reducible refine at_loadT 25 2 ?_); refine wpList_load_rowG rfl 25 (.tmp 2) rfl w.heap.size rfl 25 _ _ hP1 hu rfl hsz ?_)
  refine HM.out.mono ?_
  rintro e w2 ⟨rfl, hb2⟩
  have hb2w := hb1.trans (hb2.mono hb1.size)
  have hPw2 := hP1.below hb2 hP1.lt
  have hOw2 := hO1.below hb2 hO1.lt
  have hRw2 := hR1.below hb2 hR1.lt
  have hbw2w := hb2w
  clear hP1 hO1 hR1 hb2 HW1
  have pw20 : w2.cell? ⟨w.heap.size, 0, none⟩ = some (.int .i64 fn) := hPw2.cell 0
  have pw21 : w2.cell? ⟨w.heap.size, 1, none⟩ = some (.int .i64 addr) := hPw2.cell 1
  have pw22 : w2.cell? ⟨w.heap.size, 2, none⟩ = some (.int .i64 count) := hPw2.cell 2
  have pw23 : w2.cell? ⟨w.heap.size, 3, none⟩ = some (.int .i64 to) := hPw2.cell 3
  have pw24 : w2.cell? ⟨w.heap.size, 4, none⟩ = some (.slice A nb cb) := hPw2.cell 4
  have pw25 : w2.cell? ⟨w.heap.size, 5, none⟩ = some (.slice R nr cr) := hPw2.cell 5
  have ow20 : w2.cell? ⟨w.heap.size + 1, 0, none⟩ = some (.int .i64 0) := hOw2.cell 0
  have ow21 : w2.cell? ⟨w.heap.size + 1, 1, none⟩ = some (.int .i64 0) := hOw2.cell 1
  have ow22 : w2.cell? ⟨w.heap.size + 1, 2, none⟩ = some (.slice none 0 0) := hOw2.cell 2
  have ow23 : w2.cell? ⟨w.heap.size + 1, 3, none⟩ = some (.slice none 0 0) := hOw2.cell 3
  have rw20 : w2.cell? ⟨w.heap.size + 1 + 1, 0, none⟩ = some (.int .i64 fn) := hRw2.cell 0
  have rw21 : w2.cell? ⟨w.heap.size + 1 + 1, 1, none⟩ = some (.int .i64 0) := hRw2.cell 1
  have rw22 : w2.cell? ⟨w.heap.size + 1 + 1, 2, none⟩ = some (.slice none 0 0) := hRw2.cell 2
  have rw23 : w2.cell? ⟨w.heap.size + 1 + 1, 3, none⟩ = some (.slice none 0 0) := hRw2.cell 3
  have fow2 := hOw2.frozen
  have frw2 := hRw2.frozen
  have zPw2 := hPw2.lt
  have zOw2 := hOw2.lt
  have zRw2 := hRw2.lt
  have hc0 : w2.cell? ⟨g, off, none⟩ = some (.int .u8 x0) := by
    obtain ⟨g', o', e, hlt, hc⟩ := (HB.out w2 hb2w).2.2.2.2 (by rw [HL.out]; omega)
    injection e with e
    injection e with e1 e2
    subst e1 e2
    exact hc 0 x0 HX0.out
  go_wp2_with fail
  refine wp_loop_rounds 1 ?_
  rw [rounds_succ]
  go_wp2_with fail
  by_cases hl3 : (3 : Int) < (n : Int)
  all_goals
    refine wp_loop_rounds 1 ?_
    rw [rounds_succ]
    have HAN := Lib.hid (answer_ref (.agg #[.int .i64 fn, .int .i64 addr, .int .i64 count, .int .i64 to, .slice A nb cb, .slice R nr cr]) (.agg #[.int .i64 fn, .int .i64 0, .slice none 0 0, .slice none 0 0]) ⟨fn, addr, count, to, bs, regs⟩ (⟨fn, 0, [], []⟩ : RepP) w2 ⟨A, nb, cb, R, nr, cr, rfl, HA.out w2 hbw2w, HR.out w2 hbw2w⟩ ⟨none, 0, 0, none, 0, 0, rfl, SlB.nil _ _, SlI.nil _ _ _⟩ hy reg_nil)
    go_wp2_with (first | ((with_reducible refine at_loadT 25 2 ?_); refine wpList_load_rowG rfl 25 (.tmp 2) rfl w.heap.size rfl 25 _ _ hPw2 hu rfl hsz ?_) | ((with_reducible refine at_loadT 34 6 ?_); refine wpList_load_rowG rfl 34 (.tmp 6) rfl (w.heap.size + 1 + 1) rfl 34 _ _ hRw2 hu4 rfl hsz4 ?_))
    refine HAN.out.mono ?_
    rintro e wq ⟨Aq, nq, cq, rfl, sq, hbq⟩
    have hbqw := hbw2w.trans (hbq.mono hbw2w.size)
    have hPwq := hPw2.below hbq hPw2.lt
    have hOwq := hOw2.below hbq hOw2.lt
    have hRwq := hRw2.below hbq hRw2.lt
    have pwq0 : wq.cell? ⟨w.heap.size, 0, none⟩ = some (.int .i64 fn) := hPwq.cell 0
    have pwq1 : wq.cell? ⟨w.heap.size, 1, none⟩ = some (.int .i64 addr) := hPwq.cell 1
    have pwq2 : wq.cell? ⟨w.heap.size, 2, none⟩ = some (.int .i64 count) := hPwq.cell 2
    have pwq3 : wq.cell? ⟨w.heap.size, 3, none⟩ = some (.int .i64 to) := hPwq.cell 3
    have pwq4 : wq.cell? ⟨w.heap.size, 4, none⟩ = some (.slice A nb cb) := hPwq.cell 4
    have pwq5 : wq.cell? ⟨w.heap.size, 5, none⟩ = some (.slice R nr cr) := hPwq.cell 5
    have owq0 : wq.cell? ⟨w.heap.size + 1, 0, none⟩ = some (.int .i64 0) := hOwq.cell 0
    have owq1 : wq.cell? ⟨w.heap.size + 1, 1, none⟩ = some (.int .i64 0) := hOwq.cell 1
    have owq2 : wq.cell? ⟨w.heap.size + 1, 2, none⟩ = some (.slice none 0 0) := hOwq.cell 2
    have owq3 : wq.cell? ⟨w.heap.size + 1, 3, none⟩ = some (.slice none 0 0) := hOwq.cell 3
    have rwq0 : wq.cell? ⟨w.heap.size + 1 + 1, 0, none⟩ = some (.int .i64 fn) := hRwq.cell 0
    have rwq1 : wq.cell? ⟨w.heap.size + 1 + 1, 1, none⟩ = some (.int .i64 0) := hRwq.cell 1
    have rwq2 : wq.cell? ⟨w.heap.size + 1 + 1, 2, none⟩ = some (.slice none 0 0) := hRwq.cell 2
    have rwq3 : wq.cell? ⟨w.heap.size + 1 + 1, 3, none⟩ = some (.slice none 0 0) := hRwq.cell 3
    have fowq := hOwq.frozen
    have frwq := hRwq.frozen
    have zPwq := hPwq.lt
    have zOwq := hOwq.lt
    have zRwq := hRwq.lt
    have hbwqw := hbqw
    cases han : answerP ⟨fn, addr, count, to, bs, regs⟩ (⟨fn, 0, [], []⟩ : RepP) with
    | none =>
      have hfz : readAnswerP ⟨fn, addr, count, to, bs, regs⟩ b = none := by rw [HF.out, han]; rfl
      have HZ := Lib.hid hfz
      have he : errV (none : Option (List Int)).isSome = 190 := rfl
      rw [he]
      clear han hfz he
      go_wp2_with fail
      obtain ⟨wz, hwz⟩ : ∃ W, ((((wq.setCell ⟨w.heap.size + 1, 0, none⟩ (.int .i64 0)).setCell ⟨w.heap.size + 1, 1, none⟩ (.int .i64 0)).setCell ⟨w.heap.size + 1, 2, none⟩ (.slice none 0 0)).setCell ⟨w.heap.size + 1, 3, none⟩ (.slice none 0 0)) = W := ⟨_, rfl⟩
      have hZ : Held wz (w.heap.size + 1) 34 #[.int .i64 0, .int .i64 0, .slice none 0 0, .slice none 0 0] := by rw [← hwz]; exact (((hOwq.set 0 _).set 1 _).set 2 _).set 3 _
      have hbz : Below w.heap.size w wz := by rw [← hwz]; exact ((((hbwqw.setCell (p := ⟨w.heap.size + 1, 0, none⟩) (by simp) _).setCell (p := ⟨w.heap.size + 1, 1, none⟩) (by simp) _).setCell (p := ⟨w.heap.size + 1, 2, none⟩) (by simp) _).setCell (p := ⟨w.heap.size + 1, 3, none⟩) (by simp) _)
      have hoff : OffB wq wz (w.heap.size + 1) := by rw [← hwz]; exact ((((OffB.refl _ _).set 0 _).set 1 _).set 2 _).set 3 _
      have z0 : wz.cell? ⟨w.heap.size + 1, 0, none⟩ = some (.int .i64 0) := hZ.cell 0
      have z1 : wz.cell? ⟨w.heap.size + 1, 1, none⟩ = some (.int .i64 0) := hZ.cell 1
      have z2 : wz.cell? ⟨w.heap.size + 1, 2, none⟩ = some (.slice none 0 0) := hZ.cell 2
      have z3 : wz.cell? ⟨w.heap.size + 1, 3, none⟩ = some (.slice none 0 0) := hZ.cell 3
      rw [hwz]
      exact bodyPost_ret (v := .tuple #[.agg #[.int .i64 0, .int .i64 0, .slice none 0 0, .slice none 0 0], .int .i64 190]) (by simp [results, Tryd.results16, go_sem, z0, z1, z2, z3]) rfl (ra_none (HZ.out) hbz)
    | some x =>
      have he : errV (some x : Option (List Int)).isSome = 0 := rfl
      rw [he]
      rw [han] at sq
      have hx8 : Byte8 x := (reply_read _ _ x reg_nil hy han).2.2.2.1
      have k1 := conv_sli sq
      have k2 := conv_sli (HB.out wq hbqw)
      have hst := str_eq x b hx8 hb8
      obtain ⟨S1, hS1⟩ : ∃ S, strOfNums x = S := ⟨_, rfl⟩
      obtain ⟨S2, hS2⟩ : ∃ S, strOfNums b = S := ⟨_, rfl⟩
      simp only [Option.getD_some] at k1
      rw [hS1] at k1
      rw [hS2] at k2
      rw [hS1, hS2] at hst
      clear hS1 hS2
      by_cases hxb : x = b
      · have hfz : readAnswerP ⟨fn, addr, count, to, bs, regs⟩ b = some (⟨fn, 0, [], []⟩ : RepP) := by rw [HF.out, han, if_pos (by rw [hxb])]
        have HZ := Lib.hid hfz
        rw [decide_eq_true hxb] at hst
        clear han hfz he hxb sq hx8
        go_wp2_with fail
        obtain ⟨wz, hwz⟩ : ∃ W, ((((wq.setCell ⟨w.heap.size + 1, 0, none⟩ (.int .i64 fn)).setCell ⟨w.heap.size + 1, 1, none⟩ (.int .i64 0)).setCell ⟨w.heap.size + 1, 2, none⟩ (.slice none 0 0)).setCell ⟨w.heap.size + 1, 3, none⟩ (.slice none 0 0)) = W := ⟨_, rfl⟩
        have hZ : Held wz (w.heap.size + 1) 34 #[.int .i64 fn, .int .i64 0, .slice none 0 0, .slice none 0 0] := by rw [← hwz]; exact (((hOwq.set 0 _).set 1 _).set 2 _).set 3 _
        have hbz : Below w.heap.size w wz := by rw [← hwz]; exact ((((hbwqw.setCell (p := ⟨w.heap.size + 1, 0, none⟩) (by simp) _).setCell (p := ⟨w.heap.size + 1, 1, none⟩) (by simp) _).setCell (p := ⟨w.heap.size + 1, 2, none⟩) (by simp) _).setCell (p := ⟨w.heap.size + 1, 3, none⟩) (by simp) _)
        have hoff : OffB wq wz (w.heap.size + 1) := by rw [← hwz]; exact ((((OffB.refl _ _).set 0 _).set 1 _).set 2 _).set 3 _
        have z0 : wz.cell? ⟨w.heap.size + 1, 0, none⟩ = some (.int .i64 fn) := hZ.cell 0
        have z1 : wz.cell? ⟨w.heap.size + 1, 1, none⟩ = some (.int .i64 0) := hZ.cell 1
        have z2 : wz.cell? ⟨w.heap.size + 1, 2, none⟩ = some (.slice none 0 0) := hZ.cell 2
        have z3 : wz.cell? ⟨w.heap.size + 1, 3, none⟩ = some (.slice none 0 0) := hZ.cell 3
        rw [hwz]
        exact bodyPost_ret (v := .tuple #[.agg #[.int .i64 fn, .int .i64 0, .slice none 0 0, .slice none 0 0], .int .i64 0]) (by simp [results, Tryd.results16, go_sem, z0, z1, z2, z3]) rfl (ra_some HZ.out ⟨none, 0, 0, none, 0, 0, rfl, SlB.nil _ _, SlI.nil _ _ _⟩ hbz)
      · have hfz : readAnswerP ⟨fn, addr, count, to, bs, regs⟩ b = none := by rw [HF.out, han, if_neg (by simpa using hxb)]
        have HZ := Lib.hid hfz
        rw [decide_eq_false hxb] at hst
        clear han hfz he hxb sq hx8
        go_wp2_with fail
        obtain ⟨wz, hwz⟩ : ∃ W, ((((wq.setCell ⟨w.heap.size + 1, 0, none⟩ (.int .i64 0)).setCell ⟨w.heap.size + 1, 1, none⟩ (.int .i64 0)).setCell ⟨w.heap.size + 1, 2, none⟩ (.slice none 0 0)).setCell ⟨w.heap.size + 1, 3, none⟩ (.slice none 0 0)) = W := ⟨_, rfl⟩
        have hZ : Held wz (w.heap.size + 1) 34 #[.int .i64 0, .int .i64 0, .slice none 0 0, .slice none 0 0] := by rw [← hwz]; exact (((hOwq.set 0 _).set 1 _).set 2 _).set 3 _
        have hbz : Below w.heap.size w wz := by rw [← hwz]; exact ((((hbwqw.setCell (p := ⟨w.heap.size + 1, 0, none⟩) (by simp) _).setCell (p := ⟨w.heap.size + 1, 1, none⟩) (by simp) _).setCell (p := ⟨w.heap.size + 1, 2, none⟩) (by simp) _).setCell (p := ⟨w.heap.size + 1, 3, none⟩) (by simp) _)
        have hoff : OffB wq wz (w.heap.size + 1) := by rw [← hwz]; exact ((((OffB.refl _ _).set 0 _).set 1 _).set 2 _).set 3 _
        have z0 : wz.cell? ⟨w.heap.size + 1, 0, none⟩ = some (.int .i64 0) := hZ.cell 0
        have z1 : wz.cell? ⟨w.heap.size + 1, 1, none⟩ = some (.int .i64 0) := hZ.cell 1
        have z2 : wz.cell? ⟨w.heap.size + 1, 2, none⟩ = some (.slice none 0 0) := hZ.cell 2
        have z3 : wz.cell? ⟨w.heap.size + 1, 3, none⟩ = some (.slice none 0 0) := hZ.cell 3
        rw [hwz]
        exact bodyPost_ret (v := .tuple #[.agg #[.int .i64 0, .int .i64 0, .slice none 0 0, .slice none 0 0], .int .i64 190]) (by simp [results, Tryd.results16, go_sem, z0, z1, z2, z3]) rfl (ra_none (HZ.out) hbz)
end Go.Proofs.YtflbiichdjhaeaaDoor
namespace Go.Proofs.YtflbiichdjhaeaaDoor
open Go.RowKit
set_option linter.unusedVariables false

set_option maxRecDepth 100000 in
set_option maxHeartbeats 2000000 in
theorem rr2 (fn addr count to : Int) (bs : List Bool) (regs : List Int) (A : Option Addr) (nb cb : Nat) (R : Option Addr) (nr cr : Nat) (g off n c : Nat) (b : List Int) (w : World) (hA : SlB w w.heap.size A nb cb bs) (hR : SlI w w.heap.size .u16 R nr cr regs) (hy : Reg16 regs) (hB : SlI w w.heap.size .u8 (some ⟨g, off, none⟩) n c b) (hb8 : Byte8 b) (hn : n ≤ 1000) (hn2 : 2 ≤ n) (x0 : Int) (hx0 : b[0]? = some x0) (hm : mayP ⟨fn, addr, count, to, bs, regs⟩ = true) (N : Nat) (hN1 : (N : Int) ≤ count) (hN1' : count ≤ (N : Int)) (hN2 : N ≤ 2000) (hfin : readAnswerP ⟨fn, addr, count, to, bs, regs⟩ b = if answerP ⟨fn, addr, count, to, bs, regs⟩ (⟨fn, 0, unpackP (b.drop 2) N, []⟩ : RepP) = some b then some (⟨fn, 0, unpackP (b.drop 2) N, []⟩ : RepP) else none) (ht : x0 < 128) (h2 : fn < 3) (h3 : (fn == 3) = false) (h4 : (fn == 4) = false) (h23 : (fn == 23) = false) : Calls Tryd.prog 16 #[.agg #[.int .i64 fn, .int .i64 addr, .int .i64 count, .int .i64 to, .slice A nb cb, .slice R nr cr], .slice (some ⟨g, off, none⟩) n c] w (RaPost w ⟨fn, addr, count, to, bs, regs⟩ b) := by
  obtain ⟨w1, hw1⟩ : ∃ w1, ((w.alloc (.cells #[.int .i64 fn, .int .i64 addr, .int .i64 count, .int .i64 to, .slice A nb cb, .slice R nr cr] 25)).alloc (.cells #[.int .i64 0, .int .i64 0, .slice none 0 0, .slice none 0 0] 34)).alloc (.cells #[.int .i64 fn, .int .i64 0, .slice none 0 0, .slice none 0 0] 34) = w1 := ⟨_, rfl⟩
  have hb1 : Below w.heap.size w w1 := by rw [← hw1]; exact (((Below.refl _ w).alloc (Nat.le_refl _) _).alloc (by simp) _).alloc (by simp; omega) _
  have hz1 : w1.heap.size = w.heap.size + 3 := by rw [← hw1]; simp
  have hP1 : Held w1 w.heap.size 25 #[.int .i64 fn, .int .i64 addr, .int .i64 count, .int .i64 to, .slice A nb cb, .slice R nr cr] := by rw [← hw1]; exact ((Held.new w _ _).alloc _).alloc _
  have hO1 : Held w1 (w.heap.size + 1) 34 #[.int .i64 0, .int .i64 0, .slice none 0 0, .slice none 0 0] := by rw [← hw1]; have := Held.new (w.alloc (.cells #[.int .i64 fn, .int .i64 addr, .int .i64 count, .int .i64 to, .slice A nb cb, .slice R nr cr] 25)) 34 #[.int .i64 0, .int .i64 0, .slice none 0 0, .slice none 0 0]; rw [World.size_alloc] at this; exact this.alloc _
  have hR1 : Held w1 (w.heap.size + 1 + 1) 34 #[.int .i64 fn, .int .i64 0, .slice none 0 0, .slice none 0 0] := by rw [← hw1]; have := Held.new ((w.alloc (.cells #[.int .i64 fn, .int .i64 addr, .int .i64 count, .int .i64 to, .slice A nb cb, .slice R nr cr] 25)).alloc (.cells #[.int .i64 0, .int .i64 0, .slice none 0 0, .slice none 0 0] 34)) 34 #[.int .i64 fn, .int .i64 0, .slice none 0 0, .slice none 0 0]; rw [World.size_alloc, World.size_alloc] at this; exact this
  have hu := Tryd.underlying25
  have hsz : (Tryd.prog.info? 25).map (·.size) = some 6 := by kernel_rfl
  have hu4 := Tryd.underlying34
  have hsz4 : (Tryd.prog.info? 34).map (·.size) = some 4 := by kernel_rfl
  have HA := Lib.hid (fun (X : World) (h : Below w.heap.size w X) => hA.up h)
  have HR := Lib.hid (fun (X : World) (h : Below w.heap.size w X) => hR.up h)
  have HB := Lib.hid (fun (X : World) (h : Below w.heap.size w X) => hB.up h)
  have HW1 := Lib.hid hw1
  clear hw1
  have HL := Lib.hid hB.1
  have HCP := Lib.hid hB.2.1
  have hn2' : ¬ (n : Int) < 2 := by omega
  have hn0 : 0 < n := by omega
  obtain ⟨x00, x01⟩ := hb8 x0 (List.mem_of_getElem? hx0)
  have hmy := may_any (.agg #[.int .i64 fn, .int .i64 addr, .int .i64 count, .int .i64 to, .slice A nb cb, .slice R nr cr]) ⟨fn, addr, count, to, bs, regs⟩ w1 ⟨A, nb, cb, R, nr, cr, rfl, hA.up hb1, hR.up hb1⟩
  rw [hm] at hmy
  have HM := Lib.hid hmy
  clear hmy
  have HF : Hid (readAnswerP ⟨fn, addr, count, to, bs, regs⟩ b = if answerP ⟨fn, addr, count, to, bs, regs⟩ (⟨fn, 0, unpackP (b.drop 2) N, []⟩ : RepP) = some b then some (⟨fn, 0, unpackP (b.drop 2) N, []⟩ : RepP) else none) := Lib.hid hfin
  clear hfin hm
  have HX0 := Lib.hid hx0
  clear hx0
  have hnc : (n : Int) ≤ (c : Int) := by have := HCP.out; omega
  obtain ⟨AD, hAD⟩ : ∃ X, (if c = 2 then some (⟨g, off, none⟩ : Addr) else some ⟨g, off + 2, none⟩) = X := ⟨_, rfl⟩
  clear hA hR hB
  go_in
  go_upto_region 2 with (fail)
  rw [HW1.out]
  go_wp2_with ((with_reducible refine at_loadT 25 2 ?_); refine wpList_load_rowG rfl 25 (.tmp 2) rfl w.heap.size rfl 25 _ _ hP1 hu rfl hsz ?_)
  refine HM.out.mono ?_
  rintro e w2 ⟨rfl, hb2⟩
  have hb2w := hb1.trans (hb2.mono hb1.size)
  have hPw2 := hP1.below hb2 hP1.lt
  have hOw2 := hO1.below hb2 hO1.lt
  have hRw2 := hR1.below hb2 hR1.lt
  have hbw2w := hb2w
  clear hP1 hO1 hR1 hb2 HW1
  have pw20 : w2.cell? ⟨w.heap.size, 0, none⟩ = some (.int .i64 fn) := hPw2.cell 0
  have pw21 : w2.cell? ⟨w.heap.size, 1, none⟩ = some (.int .i64 addr) := hPw2.cell 1
  have pw22 : w2.cell? ⟨w.heap.size, 2, none⟩ = some (.int .i64 count) := hPw2.cell 2
  have pw23 : w2.cell? ⟨w.heap.size, 3, none⟩ = some (.int .i64 to) := hPw2.cell 3
  have pw24 : w2.cell? ⟨w.heap.size, 4, none⟩ = some (.slice A nb cb) := hPw2.cell 4
  have pw25 : w2.cell? ⟨w.heap.size, 5, none⟩ = some (.slice R nr cr) := hPw2.cell 5
  have ow20 : w2.cell? ⟨w.heap.size + 1, 0, none⟩ = some (.int .i64 0) := hOw2.cell 0
  have ow21 : w2.cell? ⟨w.heap.size + 1, 1, none⟩ = some (.int .i64 0) := hOw2.cell 1
  have ow22 : w2.cell? ⟨w.heap.size + 1, 2, none⟩ = some (.slice none 0 0) := hOw2.cell 2
  have ow23 : w2.cell? ⟨w.heap.size + 1, 3, none⟩ = some (.slice none 0 0) := hOw2.cell 3
  have rw20 : w2.cell? ⟨w.heap.size + 1 + 1, 0, none⟩ = some (.int .i64 fn) := hRw2.cell 0
  have rw21 : w2.cell? ⟨w.heap.size + 1 + 1, 1, none⟩ = some (.int .i64 0) := hRw2.cell 1
  have rw22 : w2.cell? ⟨w.heap.size + 1 + 1, 2, none⟩ = some (.slice none 0 0) := hRw2.cell 2
  have rw23 : w2.cell? ⟨w.heap.size + 1 + 1, 3, none⟩ = some (.slice none 0 0) := hRw2.cell 3
  have fow2 := hOw2.frozen
  have frw2 := hRw2.frozen
  have zPw2 := hPw2.lt
  have zOw2 := hOw2.lt
  have zRw2 := hRw2.lt
  have hc0 : w2.cell? ⟨g, off, none⟩ = some (.int .u8 x0) := by
    obtain ⟨g', o', e, hlt, hc⟩ := (HB.out w2 hb2w).2.2.2.2 (by rw [HL.out]; omega)
    injection e with e
    injection e with e1 e2
    subst e1 e2
    exact hc 0 x0 HX0.out
  have HD : Hid (∀ X, Below w.heap.size w X → RdI X X.heap.size .u8 AD (b.drop 2)) := Lib.hid (fun X h => by
    rw [← hAD]
    split
    · rename_i hc2
      have h1 := HL.out
      have h2 := HCP.out
      rw [List.drop_eq_nil_of_le (by omega)]
      exact RdI.nil
    · exact (HB.out X h).2.2.2.2.drop 2 _ (fun g' o' e _ => by injection e with e; injection e with e1 e2; subst e1 e2; rfl))
  obtain ⟨i0, hi, hz0, hz1', hz2'⟩ := info_parts infoBool
  go_wp2_with fail
  go_loopw [7] (fun u wx => ∃ (k : Nat) (v : Value), k ≤ N ∧ u = .int .i64 (k : Int) ∧ Held wx (w.heap.size + 1 + 1) 34 #[.int .i64 fn, .int .i64 0, v, .slice none 0 0] ∧ wx.ownsRow w2.heap.size 4 1 v k ((unpackP (b.drop 2) k).map Value.bool) ∧ Held wx w.heap.size 25 #[.int .i64 fn, .int .i64 addr, .int .i64 count, .int .i64 to, .slice A nb cb, .slice R nr cr] ∧ Held wx (w.heap.size + 1) 34 #[.int .i64 0, .int .i64 0, .slice none 0 0, .slice none 0 0] ∧ Below w.heap.size w wx ∧ w2.heap.size ≤ wx.heap.size) (fun u _ => N - (intOf u).toNat)
  case atStart => exact ⟨0, .slice none 0 0, by omega, rfl, hRw2, World.ownsRow_nil _ _ _ _, hPw2, hOw2, hb2w, Nat.le_refl _⟩
  case round =>
  obtain ⟨k, v, hk, rfl, hRwr, hrow, hPwr, hOwr, hbwr, hge⟩ := hrel
  have hbwrw := hbwr
  have hzw2 := hb2w.size
  clear pw20 pw21 pw22 pw23 pw24 pw25 ow20 ow21 ow22 ow23 rw20 rw21 rw22 rw23 fow2 frw2
  have pwr0 : wr.cell? ⟨w.heap.size, 0, none⟩ = some (.int .i64 fn) := hPwr.cell 0
  have pwr1 : wr.cell? ⟨w.heap.size, 1, none⟩ = some (.int .i64 addr) := hPwr.cell 1
  have pwr2 : wr.cell? ⟨w.heap.size, 2, none⟩ = some (.int .i64 count) := hPwr.cell 2
  have pwr3 : wr.cell? ⟨w.heap.size, 3, none⟩ = some (.int .i64 to) := hPwr.cell 3
  have pwr4 : wr.cell? ⟨w.heap.size, 4, none⟩ = some (.slice A nb cb) := hPwr.cell 4
  have pwr5 : wr.cell? ⟨w.heap.size, 5, none⟩ = some (.slice R nr cr) := hPwr.cell 5
  have owr0 : wr.cell? ⟨w.heap.size + 1, 0, none⟩ = some (.int .i64 0) := hOwr.cell 0
  have owr1 : wr.cell? ⟨w.heap.size + 1, 1, none⟩ = some (.int .i64 0) := hOwr.cell 1
  have owr2 : wr.cell? ⟨w.heap.size + 1, 2, none⟩ = some (.slice none 0 0) := hOwr.cell 2
  have owr3 : wr.cell? ⟨w.heap.size + 1, 3, none⟩ = some (.slice none 0 0) := hOwr.cell 3
  have rwr0 : wr.cell? ⟨w.heap.size + 1 + 1, 0, none⟩ = some (.int .i64 fn) := hRwr.cell 0
  have rwr1 : wr.cell? ⟨w.heap.size + 1 + 1, 1, none⟩ = some (.int .i64 0) := hRwr.cell 1
  have rwr2 : wr.cell? ⟨w.heap.size + 1 + 1, 2, none⟩ = some (v) := hRwr.cell 2
  have rwr3 : wr.cell? ⟨w.heap.size + 1 + 1, 3, none⟩ = some (.slice none 0 0) := hRwr.cell 3
  have fowr := hOwr.frozen
  have frwr := hRwr.frozen
  have zPwr := hPwr.lt
  have zOwr := hOwr.lt
  have zRwr := hRwr.lt
  by_cases hlt : k < N
  · skip
    have ht1 : (k : Int) < count := by omega
    obtain ⟨wd, hwd⟩ : ∃ wd : World, wr.drew = wd := ⟨_, rfl⟩
    have hb0 : Below wr.heap.size wr wd := by rw [← hwd]; exact (Below.refl _ _).drew
    have hbdw : Below w.heap.size w wd := hbwr.trans (hb0.mono hbwr.size)
    have hPwd := hPwr.below hb0 hPwr.lt
    have hOwd := hOwr.below hb0 hOwr.lt
    have hRwd := hRwr.below hb0 hRwr.lt
    have hrowd := own_up hrow hb0
    have hzd1 : wd.heap.size ≤ wr.heap.size := by rw [← hwd]; exact Nat.le_refl _
    have hzd2 : wr.heap.size ≤ wd.heap.size := by rw [← hwd]; exact Nat.le_refl _
    have hrv : wd.cell? ⟨w.heap.size + 1 + 1, 2, none⟩ = some v := hRwd.cell 2
    have hzRd := hRwd.lt
    have hz2d : w2.heap.size ≤ wd.heap.size := by
      omega
    have HBT := Lib.hid (fun (X : World) (h : Below w.heap.size w X) => bit_any AD (n - 2) (c - 2) (b.drop 2) (by rw [List.length_drop, HL.out]) (fun x hx => hb8 x (List.mem_of_mem_drop hx)) k (by omega) X (HD.out X h))
    have HSN := Lib.hid (unpackP_snoc (b.drop 2) k)
    go_wp2_with fail
    refine wp_region_held (S := Below w.heap.size w) (by kernel_rfl) ?_
    change wpAnyH _ _ _ _ _ _ _ _ wr.drew
    rw [hwd]
    have hS : Below w.heap.size w wd := hbdw
    refine wpAnyH_take (i := 0) (v := ?v0_1) rfl (by kernel_rfl) (by kernel_rfl) (by kernel_rfl) (fun _ _ _ h => h) (Or.inl ⟨by rfl, ?y0_1⟩) hS ?r0_1
    case y0_1 =>
      rintro W hH
      go_simp
      with_reducible rfl
    simp only [Act.put]
    try simp only [List.getElem_toArray, List.getElem_cons_zero]
    try simp only [List.setIfInBounds_toArray, List.set_cons_succ, List.set_cons_zero]
    refine wpAnyH_take (i := 2) (v := ?v2_2) rfl (by kernel_rfl) (by kernel_rfl) (by kernel_rfl) (fun _ _ _ h => h) (Or.inl ⟨by rfl, ?y2_2⟩) hS ?r2_2
    case y2_2 =>
      rintro W hH
      go_simp
      with_reducible rfl
    simp only [Act.put]
    try simp only [List.getElem_toArray, List.getElem_cons_succ, List.getElem_cons_zero]
    try simp only [List.setIfInBounds_toArray, List.set_cons_succ, List.set_cons_zero]
    refine wpAnyH_take (i := 3) (v := ?v3_3) rfl (by kernel_rfl) (by kernel_rfl) (by kernel_rfl) (fun _ _ _ h => h) (Or.inl ⟨by rfl, ?y3_3⟩) hS ?r3_3
    case y3_3 =>
      rintro W hH
      go_simp
      with_reducible rfl
    simp only [Act.put]
    try simp only [List.getElem_toArray, List.getElem_cons_succ, List.getElem_cons_zero]
    try simp only [List.setIfInBounds_toArray, List.set_cons_succ, List.set_cons_zero]
    refine wpAnyH_take (i := 4) (v := ?v4_4) rfl (by kernel_rfl) (by kernel_rfl) (by kernel_rfl) (fun _ _ _ h => h) (Or.inl ⟨by rfl, ?y4_4⟩) hS ?r4_4
    case y4_4 =>
      rintro W hH
      go_simp
      with_reducible rfl
    simp only [Act.put]
    try simp only [List.getElem_toArray, List.getElem_cons_succ, List.getElem_cons_zero]
    try simp only [List.setIfInBounds_toArray, List.set_cons_succ, List.set_cons_zero]
    refine wpAnyH_ready (rs := [1, 5]) (by kernel_rfl) (by simp) ?_
    refine AllReadyH.cons rfl (fun K' hK' => ?_) (AllReadyH.cons rfl (fun K' hK' => ?_) AllReadyH.nil)
    · skip
      go_simp
      refine hK'.out _ _ hS (fun hS => ?_)
      clear hK' K'
      refine wpAnyH_ready (rs := [5]) (by kernel_rfl) (by simp) ?_
      refine AllReadyH.cons rfl (fun K' hK' => ?_) AllReadyH.nil
      go_simp
      refine (HBT.out wd hbdw).mono ?_
      rintro e w' ⟨rfl, rfl⟩
      go_simp
      refine hK'.out _ _ hS (fun hS => ?_)
      clear hK' K'
      refine wpAnyH_ready (rs := [6]) (by kernel_rfl) (by simp) ?_
      refine AllReadyH.cons rfl (fun K' hK' => ?_) AllReadyH.nil
      go_simp
      have hzX : w2.heap.size ≤ wd.heap.size := by omega
      refine hK'.out _ _ (hS.alloc hS.size _) (fun hS => ?_)
      clear hK' K'
      refine wpAnyH_ready (rs := [7]) (by kernel_rfl) (by simp) ?_
      refine AllReadyH.cons rfl (fun K' hK' => ?_) AllReadyH.nil
      refine step_append_lies _ (by rfl) _ _ _ (by rfl) w2.heap.size 4 i0 (.bool false) 1 1 Tryd.underlying22 hi hz0 hz1' hz2' rfl (by decide) v k _ (by rfl) (hrowd.alloc (.cells #[.bool (bitAt (b.drop 2) k)] 4)) ⟨wd.heap.size, 0, none⟩ 1 1 [.bool (bitAt (b.drop 2) k)] (by rfl) (by rfl) (World.news_of_block (cs := #[.bool (bitAt (b.drop 2) k)]) (t := 4) (fr := (0, 0)) (heap_alloc_new wd _)) (by simp [Value.oneCell']) (by omega) (by unfold maxLen; omega) (by omega) (by simp; omega) (wd.heap.size + 1) (by simp) ?_
      intro gg cc wa own' hgr hat hlt2
      have hne : ∀ B, B < w2.heap.size → some B ≠ v.ownBlock := fun B hB e => by have := (hrowd.lt B e.symm).1; omega
      have hRa : Held wa (w.heap.size + 1 + 1) 34 #[.int .i64 fn, .int .i64 0, v, .slice none 0 0] := (hRwd.alloc _).kept hgr (hne _ (by omega))
      have hPa : Held wa w.heap.size 25 #[.int .i64 fn, .int .i64 addr, .int .i64 count, .int .i64 to, .slice A nb cb, .slice R nr cr] := (hPwd.alloc _).kept hgr (hne _ (by omega))
      have hOa : Held wa (w.heap.size + 1) 34 #[.int .i64 0, .int .i64 0, .slice none 0 0, .slice none 0 0] := (hOwd.alloc _).kept hgr (hne _ (by omega))
      have hSa : Below w.heap.size w wa := hS.grown hgr (by rw [World.size_alloc]; omega) (fun B hB => by have := (hrowd.lt B hB).1; omega)
      have hra : wa.cell? ⟨w.heap.size + 1 + 1, 2, none⟩ = some v := hRa.cell 2
      have hfa := hRa.frozen
      have hga := own'.lt gg rfl
      have hgea : w2.heap.size ≤ wa.heap.size := by omega
      have ho2 := own_off own' (B := w.heap.size + 1 + 1) (by omega) 2 (.slice (some ⟨gg, 0, none⟩) (k + 1) cc)
      clear hS hgr hat
      refine hK'.out _ _ hSa (fun hS => ?_)
      clear hK' K'
      refine wpAnyH_take (i := 8) (v := ?v8_5) rfl (by kernel_rfl) (by kernel_rfl) (by kernel_rfl) (fun _ _ _ h => h) (Or.inl ⟨by rfl, ?y8_5⟩) hS ?r8_5
      case y8_5 =>
        rintro W hH
        go_simp
        with_reducible rfl
      simp only [Act.put]
      try simp only [List.getElem_toArray, List.getElem_cons_succ, List.getElem_cons_zero]
      try simp only [List.setIfInBounds_toArray, List.set_cons_succ, List.set_cons_zero]
      refine wpAnyH_ready (rs := [9]) (by kernel_rfl) (by simp) ?_
      refine AllReadyH.cons rfl (fun K' hK' => ?_) AllReadyH.nil
      go_simp
      have hSs : Below w.heap.size w (wa.setCell ⟨w.heap.size + 1 + 1, 2, none⟩ (.slice (some ⟨gg, 0, none⟩) (k + 1) cc)) := hSa.setCell (p := ⟨w.heap.size + 1 + 1, 2, none⟩) (by show w.heap.size ≤ w.heap.size + 1 + 1; omega) _
      clear hS
      refine hK'.out _ _ hSs (fun hS => ?_)
      clear hK' K'
      refine wpAnyH_done (by kernel_rfl) ?_ _
      go_wp2_with fail
      go_roundw
      case rel => exact ⟨k + 1, (.slice (some ⟨gg, 0, none⟩) (k + 1) cc), by omega, by go_num, hRa.set 2 _, by rw [HSN.out, List.map_append]; exact ho2, hPa.far (p := ⟨w.heap.size + 1 + 1, 2, none⟩) (by show w.heap.size ≠ w.heap.size + 1 + 1; omega) _, hOa.far (p := ⟨w.heap.size + 1 + 1, 2, none⟩) (by show w.heap.size + 1 ≠ w.heap.size + 1 + 1; omega) _, hSs, by show w2.heap.size ≤ _; rw [World.size_setCell]; exact hgea⟩
      case measure => simp [intOf]; omega
    · skip
      go_simp
      refine (HBT.out wd hbdw).mono ?_
      rintro e w' ⟨rfl, rfl⟩
      go_simp
      refine hK'.out _ _ hS (fun hS => ?_)
      clear hK' K'
      refine wpAnyH_ready (rs := [1, 6]) (by kernel_rfl) (by simp) ?_
      refine AllReadyH.cons rfl (fun K' hK' => ?_) (AllReadyH.cons rfl (fun K' hK' => ?_) AllReadyH.nil)
      · skip
        go_simp
        refine hK'.out _ _ hS (fun hS => ?_)
        clear hK' K'
        refine wpAnyH_ready (rs := [6]) (by kernel_rfl) (by simp) ?_
        refine AllReadyH.cons rfl (fun K' hK' => ?_) AllReadyH.nil
        go_simp
        have hzX : w2.heap.size ≤ wd.heap.size := by omega
        refine hK'.out _ _ (hS.alloc hS.size _) (fun hS => ?_)
        clear hK' K'
        refine wpAnyH_ready (rs := [7]) (by kernel_rfl) (by simp) ?_
        refine AllReadyH.cons rfl (fun K' hK' => ?_) AllReadyH.nil
        refine step_append_lies _ (by rfl) _ _ _ (by rfl) w2.heap.size 4 i0 (.bool false) 1 1 Tryd.underlying22 hi hz0 hz1' hz2' rfl (by decide) v k _ (by rfl) (hrowd.alloc (.cells #[.bool (bitAt (b.drop 2) k)] 4)) ⟨wd.heap.size, 0, none⟩ 1 1 [.bool (bitAt (b.drop 2) k)] (by rfl) (by rfl) (World.news_of_block (cs := #[.bool (bitAt (b.drop 2) k)]) (t := 4) (fr := (0, 0)) (heap_alloc_new wd _)) (by simp [Value.oneCell']) (by omega) (by unfold maxLen; omega) (by omega) (by simp; omega) (wd.heap.size + 1) (by simp) ?_
        intro gg cc wa own' hgr hat hlt2
        have hne : ∀ B, B < w2.heap.size → some B ≠ v.ownBlock := fun B hB e => by have := (hrowd.lt B e.symm).1; omega
        have hRa : Held wa (w.heap.size + 1 + 1) 34 #[.int .i64 fn, .int .i64 0, v, .slice none 0 0] := (hRwd.alloc _).kept hgr (hne _ (by omega))
        have hPa : Held wa w.heap.size 25 #[.int .i64 fn, .int .i64 addr, .int .i64 count, .int .i64 to, .slice A nb cb, .slice R nr cr] := (hPwd.alloc _).kept hgr (hne _ (by omega))
        have hOa : Held wa (w.heap.size + 1) 34 #[.int .i64 0, .int .i64 0, .slice none 0 0, .slice none 0 0] := (hOwd.alloc _).kept hgr (hne _ (by omega))
        have hSa : Below w.heap.size w wa := hS.grown hgr (by rw [World.size_alloc]; omega) (fun B hB => by have := (hrowd.lt B hB).1; omega)
        have hra : wa.cell? ⟨w.heap.size + 1 + 1, 2, none⟩ = some v := hRa.cell 2
        have hfa := hRa.frozen
        have hga := own'.lt gg rfl
        have hgea : w2.heap.size ≤ wa.heap.size := by omega
        have ho2 := own_off own' (B := w.heap.size + 1 + 1) (by omega) 2 (.slice (some ⟨gg, 0, none⟩) (k + 1) cc)
        clear hS hgr hat
        refine hK'.out _ _ hSa (fun hS => ?_)
        clear hK' K'
        refine wpAnyH_take (i := 8) (v := ?v8_6) rfl (by kernel_rfl) (by kernel_rfl) (by kernel_rfl) (fun _ _ _ h => h) (Or.inl ⟨by rfl, ?y8_6⟩) hS ?r8_6
        case y8_6 =>
          rintro W hH
          go_simp
          with_reducible rfl
        simp only [Act.put]
        try simp only [List.getElem_toArray, List.getElem_cons_succ, List.getElem_cons_zero]
        try simp only [List.setIfInBounds_toArray, List.set_cons_succ, List.set_cons_zero]
        refine wpAnyH_ready (rs := [9]) (by kernel_rfl) (by simp) ?_
        refine AllReadyH.cons rfl (fun K' hK' => ?_) AllReadyH.nil
        go_simp
        have hSs : Below w.heap.size w (wa.setCell ⟨w.heap.size + 1 + 1, 2, none⟩ (.slice (some ⟨gg, 0, none⟩) (k + 1) cc)) := hSa.setCell (p := ⟨w.heap.size + 1 + 1, 2, none⟩) (by show w.heap.size ≤ w.heap.size + 1 + 1; omega) _
        clear hS
        refine hK'.out _ _ hSs (fun hS => ?_)
        clear hK' K'
        refine wpAnyH_done (by kernel_rfl) ?_ _
        go_wp2_with fail
        go_roundw
        case rel => exact ⟨k + 1, (.slice (some ⟨gg, 0, none⟩) (k + 1) cc), by omega, by go_num, hRa.set 2 _, by rw [HSN.out, List.map_append]; exact ho2, hPa.far (p := ⟨w.heap.size + 1 + 1, 2, none⟩) (by show w.heap.size ≠ w.heap.size + 1 + 1; omega) _, hOa.far (p := ⟨w.heap.size + 1 + 1, 2, none⟩) (by show w.heap.size + 1 ≠ w.heap.size + 1 + 1; omega) _, hSs, by show w2.heap.size ≤ _; rw [World.size_setCell]; exact hgea⟩
        case measure => simp [intOf]; omega
      · skip
        go_simp
        have hzX : w2.heap.size ≤ wd.heap.size := by omega
        refine hK'.out _ _ (hS.alloc hS.size _) (fun hS => ?_)
        clear hK' K'
        refine wpAnyH_ready (rs := [1]) (by kernel_rfl) (by simp) ?_
        refine AllReadyH.cons rfl (fun K' hK' => ?_) AllReadyH.nil
        go_simp
        refine hK'.out _ _ hS (fun hS => ?_)
        clear hK' K'
        refine wpAnyH_ready (rs := [7]) (by kernel_rfl) (by simp) ?_
        refine AllReadyH.cons rfl (fun K' hK' => ?_) AllReadyH.nil
        refine step_append_lies _ (by rfl) _ _ _ (by rfl) w2.heap.size 4 i0 (.bool false) 1 1 Tryd.underlying22 hi hz0 hz1' hz2' rfl (by decide) v k _ (by rfl) (hrowd.alloc (.cells #[.bool (bitAt (b.drop 2) k)] 4)) ⟨wd.heap.size, 0, none⟩ 1 1 [.bool (bitAt (b.drop 2) k)] (by rfl) (by rfl) (World.news_of_block (cs := #[.bool (bitAt (b.drop 2) k)]) (t := 4) (fr := (0, 0)) (heap_alloc_new wd _)) (by simp [Value.oneCell']) (by omega) (by unfold maxLen; omega) (by omega) (by simp; omega) (wd.heap.size + 1) (by simp) ?_
        intro gg cc wa own' hgr hat hlt2
        have hne : ∀ B, B < w2.heap.size → some B ≠ v.ownBlock := fun B hB e => by have := (hrowd.lt B e.symm).1; omega
        have hRa : Held wa (w.heap.size + 1 + 1) 34 #[.int .i64 fn, .int .i64 0, v, .slice none 0 0] := (hRwd.alloc _).kept hgr (hne _ (by omega))
        have hPa : Held wa w.heap.size 25 #[.int .i64 fn, .int .i64 addr, .int .i64 count, .int .i64 to, .slice A nb cb, .slice R nr cr] := (hPwd.alloc _).kept hgr (hne _ (by omega))
        have hOa : Held wa (w.heap.size + 1) 34 #[.int .i64 0, .int .i64 0, .slice none 0 0, .slice none 0 0] := (hOwd.alloc _).kept hgr (hne _ (by omega))
        have hSa : Below w.heap.size w wa := hS.grown hgr (by rw [World.size_alloc]; omega) (fun B hB => by have := (hrowd.lt B hB).1; omega)
        have hra : wa.cell? ⟨w.heap.size + 1 + 1, 2, none⟩ = some v := hRa.cell 2
        have hfa := hRa.frozen
        have hga := own'.lt gg rfl
        have hgea : w2.heap.size ≤ wa.heap.size := by omega
        have ho2 := own_off own' (B := w.heap.size + 1 + 1) (by omega) 2 (.slice (some ⟨gg, 0, none⟩) (k + 1) cc)
        clear hS hgr hat
        refine hK'.out _ _ hSa (fun hS => ?_)
        clear hK' K'
        refine wpAnyH_take (i := 8) (v := ?v8_7) rfl (by kernel_rfl) (by kernel_rfl) (by kernel_rfl) (fun _ _ _ h => h) (Or.inl ⟨by rfl, ?y8_7⟩) hS ?r8_7
        case y8_7 =>
          rintro W hH
          go_simp
          with_reducible rfl
        simp only [Act.put]
        try simp only [List.getElem_toArray, List.getElem_cons_succ, List.getElem_cons_zero]
        try simp only [List.setIfInBounds_toArray, List.set_cons_succ, List.set_cons_zero]
        refine wpAnyH_ready (rs := [9]) (by kernel_rfl) (by simp) ?_
        refine AllReadyH.cons rfl (fun K' hK' => ?_) AllReadyH.nil
        go_simp
        have hSs : Below w.heap.size w (wa.setCell ⟨w.heap.size + 1 + 1, 2, none⟩ (.slice (some ⟨gg, 0, none⟩) (k + 1) cc)) := hSa.setCell (p := ⟨w.heap.size + 1 + 1, 2, none⟩) (by show w.heap.size ≤ w.heap.size + 1 + 1; omega) _
        clear hS
        refine hK'.out _ _ hSs (fun hS => ?_)
        clear hK' K'
        refine wpAnyH_done (by kernel_rfl) ?_ _
        go_wp2_with fail
        go_roundw
        case rel => exact ⟨k + 1, (.slice (some ⟨gg, 0, none⟩) (k + 1) cc), by omega, by go_num, hRa.set 2 _, by rw [HSN.out, List.map_append]; exact ho2, hPa.far (p := ⟨w.heap.size + 1 + 1, 2, none⟩) (by show w.heap.size ≠ w.heap.size + 1 + 1; omega) _, hOa.far (p := ⟨w.heap.size + 1 + 1, 2, none⟩) (by show w.heap.size + 1 ≠ w.heap.size + 1 + 1; omega) _, hSs, by show w2.heap.size ≤ _; rw [World.size_setCell]; exact hgea⟩
        case measure => simp [intOf]; omega
  · obtain rfl : k = N := by omega
    obtain ⟨Au, cu, rfl, sv⟩ := SlB.of_own hrow
    have ht1 : ¬ (k : Int) < count := by omega
    go_wp2_with fail
    by_cases hl3 : (3 : Int) < (n : Int)
    all_goals
      refine wp_loop_rounds 1 ?_
      rw [rounds_succ]
      go_wp2_with fail
      have HAN := Lib.hid (answer_ref (.agg #[.int .i64 fn, .int .i64 addr, .int .i64 count, .int .i64 to, .slice A nb cb, .slice R nr cr]) (.agg #[.int .i64 fn, .int .i64 0, .slice Au k cu, .slice none 0 0]) ⟨fn, addr, count, to, bs, regs⟩ (⟨fn, 0, unpackP (b.drop 2) k, []⟩ : RepP) wr ⟨A, nb, cb, R, nr, cr, rfl, HA.out wr hbwrw, HR.out wr hbwrw⟩ ⟨Au, k, cu, none, 0, 0, rfl, sv, SlI.nil _ _ _⟩ hy reg_nil)
      go_wp2_with (first | ((with_reducible refine at_loadT 25 2 ?_); refine wpList_load_rowG rfl 25 (.tmp 2) rfl w.heap.size rfl 25 _ _ hPwr hu rfl hsz ?_) | ((with_reducible refine at_loadT 34 6 ?_); refine wpList_load_rowG rfl 34 (.tmp 6) rfl (w.heap.size + 1 + 1) rfl 34 _ _ hRwr hu4 rfl hsz4 ?_))
      refine HAN.out.mono ?_
      rintro e wq ⟨Aq, nq, cq, rfl, sq, hbq⟩
      have hbqw := hbwrw.trans (hbq.mono hbwrw.size)
      have hPwq := hPwr.below hbq hPwr.lt
      have hOwq := hOwr.below hbq hOwr.lt
      have hRwq := hRwr.below hbq hRwr.lt
      have pwq0 : wq.cell? ⟨w.heap.size, 0, none⟩ = some (.int .i64 fn) := hPwq.cell 0
      have pwq1 : wq.cell? ⟨w.heap.size, 1, none⟩ = some (.int .i64 addr) := hPwq.cell 1
      have pwq2 : wq.cell? ⟨w.heap.size, 2, none⟩ = some (.int .i64 count) := hPwq.cell 2
      have pwq3 : wq.cell? ⟨w.heap.size, 3, none⟩ = some (.int .i64 to) := hPwq.cell 3
      have pwq4 : wq.cell? ⟨w.heap.size, 4, none⟩ = some (.slice A nb cb) := hPwq.cell 4
      have pwq5 : wq.cell? ⟨w.heap.size, 5, none⟩ = some (.slice R nr cr) := hPwq.cell 5
      have owq0 : wq.cell? ⟨w.heap.size + 1, 0, none⟩ = some (.int .i64 0) := hOwq.cell 0
      have owq1 : wq.cell? ⟨w.heap.size + 1, 1, none⟩ = some (.int .i64 0) := hOwq.cell 1
      have owq2 : wq.cell? ⟨w.heap.size + 1, 2, none⟩ = some (.slice none 0 0) := hOwq.cell 2
      have owq3 : wq.cell? ⟨w.heap.size + 1, 3, none⟩ = some (.slice none 0 0) := hOwq.cell 3
      have rwq0 : wq.cell? ⟨w.heap.size + 1 + 1, 0, none⟩ = some (.int .i64 fn) := hRwq.cell 0
      have rwq1 : wq.cell? ⟨w.heap.size + 1 + 1, 1, none⟩ = some (.int .i64 0) := hRwq.cell 1
      have rwq2 : wq.cell? ⟨w.heap.size + 1 + 1, 2, none⟩ = some (.slice Au k cu) := hRwq.cell 2
      have rwq3 : wq.cell? ⟨w.heap.size + 1 + 1, 3, none⟩ = some (.slice none 0 0) := hRwq.cell 3
      have fowq := hOwq.frozen
      have frwq := hRwq.frozen
      have zPwq := hPwq.lt
      have zOwq := hOwq.lt
      have zRwq := hRwq.lt
      have hbwqw := hbqw
      cases han : answerP ⟨fn, addr, count, to, bs, regs⟩ (⟨fn, 0, unpackP (b.drop 2) k, []⟩ : RepP) with
      | none =>
        have hfz : readAnswerP ⟨fn, addr, count, to, bs, regs⟩ b = none := by rw [HF.out, han]; rfl
        have HZ := Lib.hid hfz
        have he : errV (none : Option (List Int)).isSome = 190 := rfl
        rw [he]
        clear han hfz he
        go_wp2_with fail
        obtain ⟨wz, hwz⟩ : ∃ W, ((((wq.setCell ⟨w.heap.size + 1, 0, none⟩ (.int .i64 0)).setCell ⟨w.heap.size + 1, 1, none⟩ (.int .i64 0)).setCell ⟨w.heap.size + 1, 2, none⟩ (.slice none 0 0)).setCell ⟨w.heap.size + 1, 3, none⟩ (.slice none 0 0)) = W := ⟨_, rfl⟩
        have hZ : Held wz (w.heap.size + 1) 34 #[.int .i64 0, .int .i64 0, .slice none 0 0, .slice none 0 0] := by rw [← hwz]; exact (((hOwq.set 0 _).set 1 _).set 2 _).set 3 _
        have hbz : Below w.heap.size w wz := by rw [← hwz]; exact ((((hbwqw.setCell (p := ⟨w.heap.size + 1, 0, none⟩) (by simp) _).setCell (p := ⟨w.heap.size + 1, 1, none⟩) (by simp) _).setCell (p := ⟨w.heap.size + 1, 2, none⟩) (by simp) _).setCell (p := ⟨w.heap.size + 1, 3, none⟩) (by simp) _)
        have hoff : OffB wq wz (w.heap.size + 1) := by rw [← hwz]; exact ((((OffB.refl _ _).set 0 _).set 1 _).set 2 _).set 3 _
        have z0 : wz.cell? ⟨w.heap.size + 1, 0, none⟩ = some (.int .i64 0) := hZ.cell 0
        have z1 : wz.cell? ⟨w.heap.size + 1, 1, none⟩ = some (.int .i64 0) := hZ.cell 1
        have z2 : wz.cell? ⟨w.heap.size + 1, 2, none⟩ = some (.slice none 0 0) := hZ.cell 2
        have z3 : wz.cell? ⟨w.heap.size + 1, 3, none⟩ = some (.slice none 0 0) := hZ.cell 3
        rw [hwz]
        exact bodyPost_ret (v := .tuple #[.agg #[.int .i64 0, .int .i64 0, .slice none 0 0, .slice none 0 0], .int .i64 190]) (by simp [results, Tryd.results16, go_sem, z0, z1, z2, z3]) rfl (ra_none (HZ.out) hbz)
      | some x =>
        have he : errV (some x : Option (List Int)).isSome = 0 := rfl
        rw [he]
        rw [han] at sq
        have hx8 : Byte8 x := (reply_read _ _ x reg_nil hy han).2.2.2.1
        have k1 := conv_sli sq
        have k2 := conv_sli (HB.out wq hbqw)
        have hst := str_eq x b hx8 hb8
        obtain ⟨S1, hS1⟩ : ∃ S, strOfNums x = S := ⟨_, rfl⟩
        obtain ⟨S2, hS2⟩ : ∃ S, strOfNums b = S := ⟨_, rfl⟩
        simp only [Option.getD_some] at k1
        rw [hS1] at k1
        rw [hS2] at k2
        rw [hS1, hS2] at hst
        clear hS1 hS2
        by_cases hxb : x = b
        · have hfz : readAnswerP ⟨fn, addr, count, to, bs, regs⟩ b = some (⟨fn, 0, unpackP (b.drop 2) k, []⟩ : RepP) := by rw [HF.out, han, if_pos (by rw [hxb])]
          have HZ := Lib.hid hfz
          rw [decide_eq_true hxb] at hst
          clear han hfz he hxb sq hx8
          go_wp2_with fail
          obtain ⟨wz, hwz⟩ : ∃ W, ((((wq.setCell ⟨w.heap.size + 1, 0, none⟩ (.int .i64 fn)).setCell ⟨w.heap.size + 1, 1, none⟩ (.int .i64 0)).setCell ⟨w.heap.size + 1, 2, none⟩ (.slice Au k cu)).setCell ⟨w.heap.size + 1, 3, none⟩ (.slice none 0 0)) = W := ⟨_, rfl⟩
          have hZ : Held wz (w.heap.size + 1) 34 #[.int .i64 fn, .int .i64 0, .slice Au k cu, .slice none 0 0] := by rw [← hwz]; exact (((hOwq.set 0 _).set 1 _).set 2 _).set 3 _
          have hbz : Below w.heap.size w wz := by rw [← hwz]; exact ((((hbwqw.setCell (p := ⟨w.heap.size + 1, 0, none⟩) (by simp) _).setCell (p := ⟨w.heap.size + 1, 1, none⟩) (by simp) _).setCell (p := ⟨w.heap.size + 1, 2, none⟩) (by simp) _).setCell (p := ⟨w.heap.size + 1, 3, none⟩) (by simp) _)
          have hoff : OffB wq wz (w.heap.size + 1) := by rw [← hwz]; exact ((((OffB.refl _ _).set 0 _).set 1 _).set 2 _).set 3 _
          have z0 : wz.cell? ⟨w.heap.size + 1, 0, none⟩ = some (.int .i64 fn) := hZ.cell 0
          have z1 : wz.cell? ⟨w.heap.size + 1, 1, none⟩ = some (.int .i64 0) := hZ.cell 1
          have z2 : wz.cell? ⟨w.heap.size + 1, 2, none⟩ = some (.slice Au k cu) := hZ.cell 2
          have z3 : wz.cell? ⟨w.heap.size + 1, 3, none⟩ = some (.slice none 0 0) := hZ.cell 3
          rw [hwz]
          exact bodyPost_ret (v := .tuple #[.agg #[.int .i64 fn, .int .i64 0, .slice Au k cu, .slice none 0 0], .int .i64 0]) (by simp [results, Tryd.results16, go_sem, z0, z1, z2, z3]) rfl (ra_some HZ.out ⟨Au, k, cu, none, 0, 0, rfl, (sv.up hbq).off hoff hOwq (by intro v hv x e; subst e; simp at hv), SlI.nil _ _ _⟩ hbz)
        · have hfz : readAnswerP ⟨fn, addr, count, to, bs, regs⟩ b = none := by rw [HF.out, han, if_neg (by simpa using hxb)]
          have HZ := Lib.hid hfz
          rw [decide_eq_false hxb] at hst
          clear han hfz he hxb sq hx8
          go_wp2_with fail
          obtain ⟨wz, hwz⟩ : ∃ W, ((((wq.setCell ⟨w.heap.size + 1, 0, none⟩ (.int .i64 0)).setCell ⟨w.heap.size + 1, 1, none⟩ (.int .i64 0)).setCell ⟨w.heap.size + 1, 2, none⟩ (.slice none 0 0)).setCell ⟨w.heap.size + 1, 3, none⟩ (.slice none 0 0)) = W := ⟨_, rfl⟩
          have hZ : Held wz (w.heap.size + 1) 34 #[.int .i64 0, .int .i64 0, .slice none 0 0, .slice none 0 0] := by rw [← hwz]; exact (((hOwq.set 0 _).set 1 _).set 2 _).set 3 _
          have hbz : Below w.heap.size w wz := by rw [← hwz]; exact ((((hbwqw.setCell (p := ⟨w.heap.size + 1, 0, none⟩) (by simp) _).setCell (p := ⟨w.heap.size + 1, 1, none⟩) (by simp) _).setCell (p := ⟨w.heap.size + 1, 2, none⟩) (by simp) _).setCell (p := ⟨w.heap.size + 1, 3, none⟩) (by simp) _)
          have hoff : OffB wq wz (w.heap.size + 1) := by rw [← hwz]; exact ((((OffB.refl _ _).set 0 _).set 1 _).set 2 _).set 3 _
          have z0 : wz.cell? ⟨w.heap.size + 1, 0, none⟩ = some (.int .i64 0) := hZ.cell 0
          have z1 : wz.cell? ⟨w.heap.size + 1, 1, none⟩ = some (.int .i64 0) := hZ.cell 1
          have z2 : wz.cell? ⟨w.heap.size + 1, 2, none⟩ = some (.slice none 0 0) := hZ.cell 2
          have z3 : wz.cell? ⟨w.heap.size + 1, 3, none⟩ = some (.slice none 0 0) := hZ.cell 3
          rw [hwz]
          exact bodyPost_ret (v := .tuple #[.agg #[.int .i64 0, .int .i64 0, .slice none 0 0, .slice none 0 0], .int .i64 190]) (by simp [results, Tryd.results16, go_sem, z0, z1, z2, z3]) rfl (ra_none (HZ.out) hbz)
end Go.Proofs.YtflbiichdjhaeaaDoor
namespace Go.Proofs.YtflbiichdjhaeaaDoor
open Go.RowKit
set_option linter.unusedVariables false

set_option maxRecDepth 100000 in
set_option maxHeartbeats 2000000 in
theorem rr33 (fn addr count to : Int) (bs : List Bool) (regs : List Int) (A : Option Addr) (nb cb : Nat) (R : Option Addr) (nr cr : Nat) (g off n c : Nat) (b : List Int) (w : World) (hA : SlB w w.heap.size A nb cb bs) (hR : SlI w w.heap.size .u16 R nr cr regs) (hy : Reg16 regs) (hB : SlI w w.heap.size .u8 (some ⟨g, off, none⟩) n c b) (hb8 : Byte8 b) (hn : n ≤ 1000) (hn2 : 2 ≤ n) (x0 : Int) (hx0 : b[0]? = some x0) (hm : mayP ⟨fn, addr, count, to, bs, regs⟩ = true) (hc1 : 0 < count) (N : Nat) (hN1 : 2 * N + 2 ≤ n) (hN2 : n ≤ 2 * N + 3) (hfin : readAnswerP ⟨fn, addr, count, to, bs, regs⟩ b = if answerP ⟨fn, addr, count, to, bs, regs⟩ (⟨fn, 0, [], wordsP (b.drop 2)⟩ : RepP) = some b then some (⟨fn, 0, [], wordsP (b.drop 2)⟩ : RepP) else none) (ht : x0 < 128) (h2 : ¬ fn < 3) (h3 : (fn == 3) = true) (h4 : (fn == 4) = false) (h23 : (fn == 23) = false) : Calls Tryd.prog 16 #[.agg #[.int .i64 fn, .int .i64 addr, .int .i64 count, .int .i64 to, .slice A nb cb, .slice R nr cr], .slice (some ⟨g, off, none⟩) n c] w (RaPost w ⟨fn, addr, count, to, bs, regs⟩ b) := by
  obtain ⟨w1, hw1⟩ : ∃ w1, ((w.alloc (.cells #[.int .i64 fn, .int .i64 addr, .int .i64 count, .int .i64 to, .slice A nb cb, .slice R nr cr] 25)).alloc (.cells #[.int .i64 0, .int .i64 0, .slice none 0 0, .slice none 0 0] 34)).alloc (.cells #[.int .i64 fn, .int .i64 0, .slice none 0 0, .slice none 0 0] 34) = w1 := ⟨_, rfl⟩
  have hb1 : Below w.heap.size w w1 := by rw [← hw1]; exact (((Below.refl _ w).alloc (Nat.le_refl _) _).alloc (by simp) _).alloc (by simp; omega) _
  have hz1 : w1.heap.size = w.heap.size + 3 := by rw [← hw1]; simp
  have hP1 : Held w1 w.heap.size 25 #[.int .i64 fn, .int .i64 addr, .int .i64 count, .int .i64 to, .slice A nb cb, .slice R nr cr] := by rw [← hw1]; exact ((Held.new w _ _).alloc _).alloc _
  have hO1 : Held w1 (w.heap.size + 1) 34 #[.int .i64 0, .int .i64 0, .slice none 0 0, .slice none 0 0] := by rw [← hw1]; have := Held.new (w.alloc (.cells #[.int .i64 fn, .int .i64 addr, .int .i64 count, .int .i64 to, .slice A nb cb, .slice R nr cr] 25)) 34 #[.int .i64 0, .int .i64 0, .slice none 0 0, .slice none 0 0]; rw [World.size_alloc] at this; exact this.alloc _
  have hR1 : Held w1 (w.heap.size + 1 + 1) 34 #[.int .i64 fn, .int .i64 0, .slice none 0 0, .slice none 0 0] := by rw [← hw1]; have := Held.new ((w.alloc (.cells #[.int .i64 fn, .int .i64 addr, .int .i64 count, .int .i64 to, .slice A nb cb, .slice R nr cr] 25)).alloc (.cells #[.int .i64 0, .int .i64 0, .slice none 0 0, .slice none 0 0] 34)) 34 #[.int .i64 fn, .int .i64 0, .slice none 0 0, .slice none 0 0]; rw [World.size_alloc, World.size_alloc] at this; exact this
  have hu := Tryd.underlying25
  have hsz : (Tryd.prog.info? 25).map (·.size) = some 6 := by kernel_rfl
  have hu4 := Tryd.underlying34
  have hsz4 : (Tryd.prog.info? 34).map (·.size) = some 4 := by kernel_rfl
  have HA := Lib.hid (fun (X : World) (h : Below w.heap.size w X) => hA.up h)
  have HR := Lib.hid (fun (X : World) (h : Below w.heap.size w X) => hR.up h)
  have HB := Lib.hid (fun (X : World) (h : Below w.heap.size w X) => hB.up h)
  have HW1 := Lib.hid hw1
  clear hw1
  have HL := Lib.hid hB.1
  have HCP := Lib.hid hB.2.1
  have hn2' : ¬ (n : Int) < 2 := by omega
  have hn0 : 0 < n := by omega
  obtain ⟨x00, x01⟩ := hb8 x0 (List.mem_of_getElem? hx0)
  have hmy := may_any (.agg #[.int .i64 fn, .int .i64 addr, .int .i64 count, .int .i64 to, .slice A nb cb, .slice R nr cr]) ⟨fn, addr, count, to, bs, regs⟩ w1 ⟨A, nb, cb, R, nr, cr, rfl, hA.up hb1, hR.up hb1⟩
  rw [hm] at hmy
  have HM := Lib.hid hmy
  clear hmy
  have HF : Hid (readAnswerP ⟨fn, addr, count, to, bs, regs⟩ b = if answerP ⟨fn, addr, count, to, bs, regs⟩ (⟨fn, 0, [], wordsP (b.drop 2)⟩ : RepP) = some b then some (⟨fn, 0, [], wordsP (b.drop 2)⟩ : RepP) else none) := Lib.hid hfin
  clear hfin hm
  have HX0 := Lib.hid hx0
  clear hx0
  have hnc : (n : Int) ≤ (c : Int) := by have := HCP.out; omega
  obtain ⟨AD, hAD⟩ : ∃ X, (if c = 2 then some (⟨g, off, none⟩ : Addr) else some ⟨g, off + 2, none⟩) = X := ⟨_, rfl⟩
  clear hA hR hB
  go_in
  go_upto_region 2 with (fail)
  rw [HW1.out]
  go_wp2_with ((with_reducible refine at_loadT 25 2 ?_); refine wpList_load_rowG rfl 25 (.tmp 2) rfl w.heap.size rfl 25 _ _ hP1 hu rfl hsz ?_)
  refine HM.out.mono ?_
  rintro e w2 ⟨rfl, hb2⟩
  have hb2w := hb1.trans (hb2.mono hb1.size)
  have hPw2 := hP1.below hb2 hP1.lt
  have hOw2 := hO1.below hb2 hO1.lt
  have hRw2 := hR1.below hb2 hR1.lt
  have hbw2w := hb2w
  clear hP1 hO1 hR1 hb2 HW1
  have pw20 : w2.cell? ⟨w.heap.size, 0, none⟩ = some (.int .i64 fn) := hPw2.cell 0
  have pw21 : w2.cell? ⟨w.heap.size, 1, none⟩ = some (.int .i64 addr) := hPw2.cell 1
  have pw22 : w2.cell? ⟨w.heap.size, 2, none⟩ = some (.int .i64 count) := hPw2.cell 2
  have pw23 : w2.cell? ⟨w.heap.size, 3, none⟩ = some (.int .i64 to) := hPw2.cell 3
  have pw24 : w2.cell? ⟨w.heap.size, 4, none⟩ = some (.slice A nb cb) := hPw2.cell 4
  have pw25 : w2.cell? ⟨w.heap.size, 5, none⟩ = some (.slice R nr cr) := hPw2.cell 5
  have ow20 : w2.cell? ⟨w.heap.size + 1, 0, none⟩ = some (.int .i64 0) := hOw2.cell 0
  have ow21 : w2.cell? ⟨w.heap.size + 1, 1, none⟩ = some (.int .i64 0) := hOw2.cell 1
  have ow22 : w2.cell? ⟨w.heap.size + 1, 2, none⟩ = some (.slice none 0 0) := hOw2.cell 2
  have ow23 : w2.cell? ⟨w.heap.size + 1, 3, none⟩ = some (.slice none 0 0) := hOw2.cell 3
  have rw20 : w2.cell? ⟨w.heap.size + 1 + 1, 0, none⟩ = some (.int .i64 fn) := hRw2.cell 0
  have rw21 : w2.cell? ⟨w.heap.size + 1 + 1, 1, none⟩ = some (.int .i64 0) := hRw2.cell 1
  have rw22 : w2.cell? ⟨w.heap.size + 1 + 1, 2, none⟩ = some (.slice none 0 0) := hRw2.cell 2
  have rw23 : w2.cell? ⟨w.heap.size + 1 + 1, 3, none⟩ = some (.slice none 0 0) := hRw2.cell 3
  have fow2 := hOw2.frozen
  have frw2 := hRw2.frozen
  have zPw2 := hPw2.lt
  have zOw2 := hOw2.lt
  have zRw2 := hRw2.lt
  have hc0 : w2.cell? ⟨g, off, none⟩ = some (.int .u8 x0) := by
    obtain ⟨g', o', e, hlt, hc⟩ := (HB.out w2 hb2w).2.2.2.2 (by rw [HL.out]; omega)
    injection e with e
    injection e with e1 e2
    subst e1 e2
    exact hc 0 x0 HX0.out
  have HD : Hid (∀ X, Below w.heap.size w X → RdI X X.heap.size .u8 AD (b.drop 2)) := Lib.hid (fun X h => by
    rw [← hAD]
    split
    · rename_i hc2
      have h1 := HL.out
      have h2 := HCP.out
      rw [List.drop_eq_nil_of_le (by omega)]
      exact RdI.nil
    · exact (HB.out X h).2.2.2.2.drop 2 _ (fun g' o' e _ => by injection e with e; injection e with e1 e2; subst e1 e2; rfl))
  obtain ⟨i0, hi, hz0, hz1', hz2'⟩ := info_parts infoW
  go_wp2_with fail
  refine wp_loop_rounds 1 ?_
  rw [rounds_succ]
  go_wp2_with fail
  go_loopw [8] (fun u wx => ∃ (k : Nat) (v : Value), k ≤ N ∧ u = .int .i64 (k : Int) ∧ Held wx (w.heap.size + 1 + 1) 34 #[.int .i64 fn, .int .i64 0, .slice none 0 0, v] ∧ wx.ownsRow w2.heap.size 54 1 v k (((wordsP (b.drop 2)).take k).map (Value.int .u16)) ∧ Held wx w.heap.size 25 #[.int .i64 fn, .int .i64 addr, .int .i64 count, .int .i64 to, .slice A nb cb, .slice R nr cr] ∧ Held wx (w.heap.size + 1) 34 #[.int .i64 0, .int .i64 0, .slice none 0 0, .slice none 0 0] ∧ Below w.heap.size w wx ∧ w2.heap.size ≤ wx.heap.size) (fun u _ => N - (intOf u).toNat)
  case atStart => exact ⟨0, .slice none 0 0, by omega, rfl, hRw2, World.ownsRow_nil _ _ _ _, hPw2, hOw2, hb2w, Nat.le_refl _⟩
  case round =>
  obtain ⟨k, v, hk, rfl, hRwr, hrow, hPwr, hOwr, hbwr, hge⟩ := hrel
  have hbwrw := hbwr
  have hzw2 := hb2w.size
  clear pw20 pw21 pw22 pw23 pw24 pw25 ow20 ow21 ow22 ow23 rw20 rw21 rw22 rw23 fow2 frw2
  have pwr0 : wr.cell? ⟨w.heap.size, 0, none⟩ = some (.int .i64 fn) := hPwr.cell 0
  have pwr1 : wr.cell? ⟨w.heap.size, 1, none⟩ = some (.int .i64 addr) := hPwr.cell 1
  have pwr2 : wr.cell? ⟨w.heap.size, 2, none⟩ = some (.int .i64 count) := hPwr.cell 2
  have pwr3 : wr.cell? ⟨w.heap.size, 3, none⟩ = some (.int .i64 to) := hPwr.cell 3
  have pwr4 : wr.cell? ⟨w.heap.size, 4, none⟩ = some (.slice A nb cb) := hPwr.cell 4
  have pwr5 : wr.cell? ⟨w.heap.size, 5, none⟩ = some (.slice R nr cr) := hPwr.cell 5
  have owr0 : wr.cell? ⟨w.heap.size + 1, 0, none⟩ = some (.int .i64 0) := hOwr.cell 0
  have owr1 : wr.cell? ⟨w.heap.size + 1, 1, none⟩ = some (.int .i64 0) := hOwr.cell 1
  have owr2 : wr.cell? ⟨w.heap.size + 1, 2, none⟩ = some (.slice none 0 0) := hOwr.cell 2
  have owr3 : wr.cell? ⟨w.heap.size + 1, 3, none⟩ = some (.slice none 0 0) := hOwr.cell 3
  have rwr0 : wr.cell? ⟨w.heap.size + 1 + 1, 0, none⟩ = some (.int .i64 fn) := hRwr.cell 0
  have rwr1 : wr.cell? ⟨w.heap.size + 1 + 1, 1, none⟩ = some (.int .i64 0) := hRwr.cell 1
  have rwr2 : wr.cell? ⟨w.heap.size + 1 + 1, 2, none⟩ = some (.slice none 0 0) := hRwr.cell 2
  have rwr3 : wr.cell? ⟨w.heap.size + 1 + 1, 3, none⟩ = some (v) := hRwr.cell 3
  have fowr := hOwr.frozen
  have frwr := hRwr.frozen
  have zPwr := hPwr.lt
  have zOwr := hOwr.lt
  have zRwr := hRwr.lt
  by_cases hlt : k < N
  · skip
    have ht1 : 2 * (k : Int) + 3 < (n : Int) := by omega
    obtain ⟨wd, hwd⟩ : ∃ wd : World, wr.drew = wd := ⟨_, rfl⟩
    have hb0 : Below wr.heap.size wr wd := by rw [← hwd]; exact (Below.refl _ _).drew
    have hbdw : Below w.heap.size w wd := hbwr.trans (hb0.mono hbwr.size)
    have hPwd := hPwr.below hb0 hPwr.lt
    have hOwd := hOwr.below hb0 hOwr.lt
    have hRwd := hRwr.below hb0 hRwr.lt
    have hrowd := own_up hrow hb0
    have hzd1 : wd.heap.size ≤ wr.heap.size := by rw [← hwd]; exact Nat.le_refl _
    have hzd2 : wr.heap.size ≤ wd.heap.size := by rw [← hwd]; exact Nat.le_refl _
    have hrv : wd.cell? ⟨w.heap.size + 1 + 1, 3, none⟩ = some v := hRwd.cell 3
    have hzRd := hRwd.lt
    have hz2d : w2.heap.size ≤ wd.heap.size := by
      omega
    have hat0 := fun (X : World) (h : Below w.heap.size w X) => at_any (some ⟨g, off, none⟩) n c b (2 + 2 * k) (by omega) X (HB.out X h) hb8
    rw [at_drop b k (by rw [HL.out]; omega), show ((2 + 2 * k : Nat) : Int) = 2 + 2 * (k : Int) by omega] at hat0
    obtain ⟨x0w, x1w⟩ := wordP_in (b.drop 2) (fun x hx => hb8 x (List.mem_of_mem_drop hx)) (2 * k) (by rw [List.length_drop, HL.out]; omega)
    have HSN := Lib.hid (words_take (b.drop 2) k (by rw [wordsP_len, List.length_drop, HL.out]; omega))
    obtain ⟨X, hX⟩ : ∃ X, wordP (b.drop 2) (2 * k) = X := ⟨_, rfl⟩
    simp only [hX] at hat0 x0w x1w HSN
    have HAT := Lib.hid hat0
    clear hat0 hX
    have wm1 : IntKind.i64.wrap (2 * (k : Int)) = 2 * (k : Int) := IntWalk.i64_in _ (by omega)
    have wm2 : IntKind.i64.wrap (2 + 2 * (k : Int)) = 2 + 2 * (k : Int) := IntWalk.i64_in _ (by omega)
    have wm3 : IntKind.u16.wrap X = X := IntWalk.u16_in _ (by omega)
    go_wp2_with fail
    refine wp_region_held (S := Below w.heap.size w) (by kernel_rfl) ?_
    change wpAnyH _ _ _ _ _ _ _ _ wr.drew
    rw [hwd]
    have hS : Below w.heap.size w wd := hbdw
    refine wpAnyH_take (i := 0) (v := ?v0_1) rfl (by kernel_rfl) (by kernel_rfl) (by kernel_rfl) (fun _ _ _ h => h) (Or.inl ⟨by rfl, ?y0_1⟩) hS ?r0_1
    case y0_1 =>
      rintro W hH
      go_simp
      with_reducible rfl
    simp only [Act.put]
    try simp only [List.getElem_toArray, List.getElem_cons_zero]
    try simp only [List.setIfInBounds_toArray, List.set_cons_succ, List.set_cons_zero]
    refine wpAnyH_take (i := 2) (v := ?v2_2) rfl (by kernel_rfl) (by kernel_rfl) (by kernel_rfl) (fun _ _ _ h => h) (Or.inl ⟨by rfl, ?y2_2⟩) hS ?r2_2
    case y2_2 =>
      rintro W hH
      go_simp
      with_reducible rfl
    simp only [Act.put]
    try simp only [List.getElem_toArray, List.getElem_cons_succ, List.getElem_cons_zero]
    try simp only [List.setIfInBounds_toArray, List.set_cons_succ, List.set_cons_zero]
    refine wpAnyH_take (i := 3) (v := ?v3_3) rfl (by kernel_rfl) (by kernel_rfl) (by kernel_rfl) (fun _ _ _ h => h) (Or.inl ⟨by rfl, ?y3_3⟩) hS ?r3_3
    case y3_3 =>
      rintro W hH
      go_simp
      with_reducible rfl
    simp only [Act.put]
    try simp only [List.getElem_toArray, List.getElem_cons_succ, List.getElem_cons_zero]
    try simp only [List.setIfInBounds_toArray, List.set_cons_succ, List.set_cons_zero]
    refine wpAnyH_take (i := 4) (v := ?v4_4) rfl (by kernel_rfl) (by kernel_rfl) (by kernel_rfl) (fun _ _ _ h => h) (Or.inl ⟨by rfl, ?y4_4⟩) hS ?r4_4
    case y4_4 =>
      rintro W hH
      go_simp
      with_reducible rfl
    simp only [Act.put]
    try simp only [List.getElem_toArray, List.getElem_cons_succ, List.getElem_cons_zero]
    try simp only [List.setIfInBounds_toArray, List.set_cons_succ, List.set_cons_zero]
    refine wpAnyH_take (i := 5) (v := ?v5_5) rfl (by kernel_rfl) (by kernel_rfl) (by kernel_rfl) (fun _ _ _ h => h) (Or.inl ⟨by rfl, ?y5_5⟩) hS ?r5_5
    case y5_5 =>
      rintro W hH
      go_simp
      with_reducible rfl
    simp only [Act.put]
    try simp only [List.getElem_toArray, List.getElem_cons_succ, List.getElem_cons_zero]
    try simp only [List.setIfInBounds_toArray, List.set_cons_succ, List.set_cons_zero]
    refine wpAnyH_ready (rs := [1, 6]) (by kernel_rfl) (by simp) ?_
    refine AllReadyH.cons rfl (fun K' hK' => ?_) (AllReadyH.cons rfl (fun K' hK' => ?_) AllReadyH.nil)
    · skip
      go_simp
      refine hK'.out _ _ hS (fun hS => ?_)
      clear hK' K'
      refine wpAnyH_ready (rs := [6]) (by kernel_rfl) (by simp) ?_
      refine AllReadyH.cons rfl (fun K' hK' => ?_) AllReadyH.nil
      go_simp
      refine (HAT.out wd hbdw).mono ?_
      rintro e wc ⟨rfl, mc, hwc⟩
      have hbc : Below wd.heap.size wd wc := by rw [hwc]; exact below_drewN (Below.refl _ _) _
      have hzc1 : wc.heap.size ≤ wd.heap.size := by rw [hwc]; exact Nat.le_refl _
      have hzc2 : wd.heap.size ≤ wc.heap.size := by rw [hwc]; exact Nat.le_refl _
      have hrowc := own_up hrowd hbc
      have hRc := hRwd.below hbc hRwd.lt
      have hrvc := hRc.cell 3
      have hrvc' : wc.cell? ⟨w.heap.size + 1 + 1, 3, none⟩ = some v := hrvc
      have hPc := hPwd.below hbc hPwd.lt
      have hOc := hOwd.below hbc hOwd.lt
      have hzRc := hRc.lt
      have hSc : Below w.heap.size w wc := hbdw.trans (hbc.mono hbdw.size)
      clear hwc
      go_simp
      refine hK'.out _ _ hSc (fun hS => ?_)
      clear hK' K'
      refine wpAnyH_take (i := 7) (v := ?v7_6) rfl (by kernel_rfl) (by kernel_rfl) (by kernel_rfl) (fun _ _ _ h => h) (Or.inl ⟨by rfl, ?y7_6⟩) hS ?r7_6
      case y7_6 =>
        rintro W hH
        go_simp
        with_reducible rfl
      simp only [Act.put]
      try simp only [List.getElem_toArray, List.getElem_cons_succ, List.getElem_cons_zero]
      try simp only [List.setIfInBounds_toArray, List.set_cons_succ, List.set_cons_zero]
      refine wpAnyH_ready (rs := [8]) (by kernel_rfl) (by simp) ?_
      refine AllReadyH.cons rfl (fun K' hK' => ?_) AllReadyH.nil
      go_simp
      have hzX : w2.heap.size ≤ wc.heap.size := by omega
      refine hK'.out _ _ (hS.alloc hS.size _) (fun hS => ?_)
      clear hK' K'
      refine wpAnyH_ready (rs := [9]) (by kernel_rfl) (by simp) ?_
      refine AllReadyH.cons rfl (fun K' hK' => ?_) AllReadyH.nil
      refine step_append_lies _ (by rfl) _ _ _ (by rfl) w2.heap.size 54 i0 (.int .u16 0) 1 2 Tryd.underlying23 hi hz0 hz1' hz2' rfl (by decide) v k _ (by rfl) (hrowc.alloc (.cells #[.int .u16 X] 54)) ⟨wc.heap.size, 0, none⟩ 1 1 [.int .u16 X] (by rfl) (by rfl) (World.news_of_block (cs := #[.int .u16 X]) (t := 54) (fr := (0, 0)) (heap_alloc_new wc _)) (by simp [Value.oneCell']) (by omega) (by unfold maxLen; omega) (by omega) (by simp; omega) (wc.heap.size + 1) (by simp) ?_
      intro gg cc wa own' hgr hat hlt2
      have hne : ∀ B, B < w2.heap.size → some B ≠ v.ownBlock := fun B hB e => by have := (hrowc.lt B e.symm).1; omega
      have hRa : Held wa (w.heap.size + 1 + 1) 34 #[.int .i64 fn, .int .i64 0, .slice none 0 0, v] := (hRc.alloc _).kept hgr (hne _ (by omega))
      have hPa : Held wa w.heap.size 25 #[.int .i64 fn, .int .i64 addr, .int .i64 count, .int .i64 to, .slice A nb cb, .slice R nr cr] := (hPc.alloc _).kept hgr (hne _ (by omega))
      have hOa : Held wa (w.heap.size + 1) 34 #[.int .i64 0, .int .i64 0, .slice none 0 0, .slice none 0 0] := (hOc.alloc _).kept hgr (hne _ (by omega))
      have hSa : Below w.heap.size w wa := hS.grown hgr (by rw [World.size_alloc]; omega) (fun B hB => by have := (hrowc.lt B hB).1; omega)
      have hra : wa.cell? ⟨w.heap.size + 1 + 1, 3, none⟩ = some v := hRa.cell 3
      have hfa := hRa.frozen
      have hga := own'.lt gg rfl
      have hgea : w2.heap.size ≤ wa.heap.size := by omega
      have ho2 := own_off own' (B := w.heap.size + 1 + 1) (by omega) 3 (.slice (some ⟨gg, 0, none⟩) (k + 1) cc)
      clear hS hgr hat
      refine hK'.out _ _ hSa (fun hS => ?_)
      clear hK' K'
      refine wpAnyH_take (i := 10) (v := ?v10_7) rfl (by kernel_rfl) (by kernel_rfl) (by kernel_rfl) (fun _ _ _ h => h) (Or.inl ⟨by rfl, ?y10_7⟩) hS ?r10_7
      case y10_7 =>
        rintro W hH
        go_simp
        with_reducible rfl
      simp only [Act.put]
      try simp only [List.getElem_toArray, List.getElem_cons_succ, List.getElem_cons_zero]
      try simp only [List.setIfInBounds_toArray, List.set_cons_succ, List.set_cons_zero]
      refine wpAnyH_ready (rs := [11]) (by kernel_rfl) (by simp) ?_
      refine AllReadyH.cons rfl (fun K' hK' => ?_) AllReadyH.nil
      go_simp
      have hSs : Below w.heap.size w (wa.setCell ⟨w.heap.size + 1 + 1, 3, none⟩ (.slice (some ⟨gg, 0, none⟩) (k + 1) cc)) := hSa.setCell (p := ⟨w.heap.size + 1 + 1, 3, none⟩) (by show w.heap.size ≤ w.heap.size + 1 + 1; omega) _
      clear hS
      refine hK'.out _ _ hSs (fun hS => ?_)
      clear hK' K'
      refine wpAnyH_done (by kernel_rfl) ?_ _
      go_wp2_with fail
      go_roundw
      case rel => exact ⟨k + 1, (.slice (some ⟨gg, 0, none⟩) (k + 1) cc), by omega, by go_num, hRa.set 3 _, by rw [HSN.out, List.map_append]; exact ho2, hPa.far (p := ⟨w.heap.size + 1 + 1, 3, none⟩) (by show w.heap.size ≠ w.heap.size + 1 + 1; omega) _, hOa.far (p := ⟨w.heap.size + 1 + 1, 3, none⟩) (by show w.heap.size + 1 ≠ w.heap.size + 1 + 1; omega) _, hSs, by show w2.heap.size ≤ _; rw [World.size_setCell]; exact hgea⟩
      case measure => simp [intOf]; omega
    · skip
      go_simp
      refine (HAT.out wd hbdw).mono ?_
      rintro e wc ⟨rfl, mc, hwc⟩
      have hbc : Below wd.heap.size wd wc := by rw [hwc]; exact below_drewN (Below.refl _ _) _
      have hzc1 : wc.heap.size ≤ wd.heap.size := by rw [hwc]; exact Nat.le_refl _
      have hzc2 : wd.heap.size ≤ wc.heap.size := by rw [hwc]; exact Nat.le_refl _
      have hrowc := own_up hrowd hbc
      have hRc := hRwd.below hbc hRwd.lt
      have hrvc := hRc.cell 3
      have hrvc' : wc.cell? ⟨w.heap.size + 1 + 1, 3, none⟩ = some v := hrvc
      have hPc := hPwd.below hbc hPwd.lt
      have hOc := hOwd.below hbc hOwd.lt
      have hzRc := hRc.lt
      have hSc : Below w.heap.size w wc := hbdw.trans (hbc.mono hbdw.size)
      clear hwc
      go_simp
      refine hK'.out _ _ hSc (fun hS => ?_)
      clear hK' K'
      refine wpAnyH_take (i := 7) (v := ?v7_8) rfl (by kernel_rfl) (by kernel_rfl) (by kernel_rfl) (fun _ _ _ h => h) (Or.inl ⟨by rfl, ?y7_8⟩) hS ?r7_8
      case y7_8 =>
        rintro W hH
        go_simp
        with_reducible rfl
      simp only [Act.put]
      try simp only [List.getElem_toArray, List.getElem_cons_succ, List.getElem_cons_zero]
      try simp only [List.setIfInBounds_toArray, List.set_cons_succ, List.set_cons_zero]
      refine wpAnyH_ready (rs := [1, 8]) (by kernel_rfl) (by simp) ?_
      refine AllReadyH.cons rfl (fun K' hK' => ?_) (AllReadyH.cons rfl (fun K' hK' => ?_) AllReadyH.nil)
      · skip
        go_simp
        refine hK'.out _ _ hS (fun hS => ?_)
        clear hK' K'
        refine wpAnyH_ready (rs := [8]) (by kernel_rfl) (by simp) ?_
        refine AllReadyH.cons rfl (fun K' hK' => ?_) AllReadyH.nil
        go_simp
        have hzX : w2.heap.size ≤ wc.heap.size := by omega
        refine hK'.out _ _ (hS.alloc hS.size _) (fun hS => ?_)
        clear hK' K'
        refine wpAnyH_ready (rs := [9]) (by kernel_rfl) (by simp) ?_
        refine AllReadyH.cons rfl (fun K' hK' => ?_) AllReadyH.nil
        refine step_append_lies _ (by rfl) _ _ _ (by rfl) w2.heap.size 54 i0 (.int .u16 0) 1 2 Tryd.underlying23 hi hz0 hz1' hz2' rfl (by decide) v k _ (by rfl) (hrowc.alloc (.cells #[.int .u16 X] 54)) ⟨wc.heap.size, 0, none⟩ 1 1 [.int .u16 X] (by rfl) (by rfl) (World.news_of_block (cs := #[.int .u16 X]) (t := 54) (fr := (0, 0)) (heap_alloc_new wc _)) (by simp [Value.oneCell']) (by omega) (by unfold maxLen; omega) (by omega) (by simp; omega) (wc.heap.size + 1) (by simp) ?_
        intro gg cc wa own' hgr hat hlt2
        have hne : ∀ B, B < w2.heap.size → some B ≠ v.ownBlock := fun B hB e => by have := (hrowc.lt B e.symm).1; omega
        have hRa : Held wa (w.heap.size + 1 + 1) 34 #[.int .i64 fn, .int .i64 0, .slice none 0 0, v] := (hRc.alloc _).kept hgr (hne _ (by omega))
        have hPa : Held wa w.heap.size 25 #[.int .i64 fn, .int .i64 addr, .int .i64 count, .int .i64 to, .slice A nb cb, .slice R nr cr] := (hPc.alloc _).kept hgr (hne _ (by omega))
        have hOa : Held wa (w.heap.size + 1) 34 #[.int .i64 0, .int .i64 0, .slice none 0 0, .slice none 0 0] := (hOc.alloc _).kept hgr (hne _ (by omega))
        have hSa : Below w.heap.size w wa := hS.grown hgr (by rw [World.size_alloc]; omega) (fun B hB => by have := (hrowc.lt B hB).1; omega)
        have hra : wa.cell? ⟨w.heap.size + 1 + 1, 3, none⟩ = some v := hRa.cell 3
        have hfa := hRa.frozen
        have hga := own'.lt gg rfl
        have hgea : w2.heap.size ≤ wa.heap.size := by omega
        have ho2 := own_off own' (B := w.heap.size + 1 + 1) (by omega) 3 (.slice (some ⟨gg, 0, none⟩) (k + 1) cc)
        clear hS hgr hat
        refine hK'.out _ _ hSa (fun hS => ?_)
        clear hK' K'
        refine wpAnyH_take (i := 10) (v := ?v10_9) rfl (by kernel_rfl) (by kernel_rfl) (by kernel_rfl) (fun _ _ _ h => h) (Or.inl ⟨by rfl, ?y10_9⟩) hS ?r10_9
        case y10_9 =>
          rintro W hH
          go_simp
          with_reducible rfl
        simp only [Act.put]
        try simp only [List.getElem_toArray, List.getElem_cons_succ, List.getElem_cons_zero]
        try simp only [List.setIfInBounds_toArray, List.set_cons_succ, List.set_cons_zero]
        refine wpAnyH_ready (rs := [11]) (by kernel_rfl) (by simp) ?_
        refine AllReadyH.cons rfl (fun K' hK' => ?_) AllReadyH.nil
        go_simp
        have hSs : Below w.heap.size w (wa.setCell ⟨w.heap.size + 1 + 1, 3, none⟩ (.slice (some ⟨gg, 0, none⟩) (k + 1) cc)) := hSa.setCell (p := ⟨w.heap.size + 1 + 1, 3, none⟩) (by show w.heap.size ≤ w.heap.size + 1 + 1; omega) _
        clear hS
        refine hK'.out _ _ hSs (fun hS => ?_)
        clear hK' K'
        refine wpAnyH_done (by kernel_rfl) ?_ _
        go_wp2_with fail
        go_roundw
        case rel => exact ⟨k + 1, (.slice (some ⟨gg, 0, none⟩) (k + 1) cc), by omega, by go_num, hRa.set 3 _, by rw [HSN.out, List.map_append]; exact ho2, hPa.far (p := ⟨w.heap.size + 1 + 1, 3, none⟩) (by show w.heap.size ≠ w.heap.size + 1 + 1; omega) _, hOa.far (p := ⟨w.heap.size + 1 + 1, 3, none⟩) (by show w.heap.size + 1 ≠ w.heap.size + 1 + 1; omega) _, hSs, by show w2.heap.size ≤ _; rw [World.size_setCell]; exact hgea⟩
        case measure => simp [intOf]; omega
      · skip
        go_simp
        have hzX : w2.heap.size ≤ wc.heap.size := by omega
        refine hK'.out _ _ (hS.alloc hS.size _) (fun hS => ?_)
        clear hK' K'
        refine wpAnyH_ready (rs := [1]) (by kernel_rfl) (by simp) ?_
        refine AllReadyH.cons rfl (fun K' hK' => ?_) AllReadyH.nil
        go_simp
        refine hK'.out _ _ hS (fun hS => ?_)
        clear hK' K'
        refine wpAnyH_ready (rs := [9]) (by kernel_rfl) (by simp) ?_
        refine AllReadyH.cons rfl (fun K' hK' => ?_) AllReadyH.nil
        refine step_append_lies _ (by rfl) _ _ _ (by rfl) w2.heap.size 54 i0 (.int .u16 0) 1 2 Tryd.underlying23 hi hz0 hz1' hz2' rfl (by decide) v k _ (by rfl) (hrowc.alloc (.cells #[.int .u16 X] 54)) ⟨wc.heap.size, 0, none⟩ 1 1 [.int .u16 X] (by rfl) (by rfl) (World.news_of_block (cs := #[.int .u16 X]) (t := 54) (fr := (0, 0)) (heap_alloc_new wc _)) (by simp [Value.oneCell']) (by omega) (by unfold maxLen; omega) (by omega) (by simp; omega) (wc.heap.size + 1) (by simp) ?_
        intro gg cc wa own' hgr hat hlt2
        have hne : ∀ B, B < w2.heap.size → some B ≠ v.ownBlock := fun B hB e => by have := (hrowc.lt B e.symm).1; omega
        have hRa : Held wa (w.heap.size + 1 + 1) 34 #[.int .i64 fn, .int .i64 0, .slice none 0 0, v] := (hRc.alloc _).kept hgr (hne _ (by omega))
        have hPa : Held wa w.heap.size 25 #[.int .i64 fn, .int .i64 addr, .int .i64 count, .int .i64 to, .slice A nb cb, .slice R nr cr] := (hPc.alloc _).kept hgr (hne _ (by omega))
        have hOa : Held wa (w.heap.size + 1) 34 #[.int .i64 0, .int .i64 0, .slice none 0 0, .slice none 0 0] := (hOc.alloc _).kept hgr (hne _ (by omega))
        have hSa : Below w.heap.size w wa := hS.grown hgr (by rw [World.size_alloc]; omega) (fun B hB => by have := (hrowc.lt B hB).1; omega)
        have hra : wa.cell? ⟨w.heap.size + 1 + 1, 3, none⟩ = some v := hRa.cell 3
        have hfa := hRa.frozen
        have hga := own'.lt gg rfl
        have hgea : w2.heap.size ≤ wa.heap.size := by omega
        have ho2 := own_off own' (B := w.heap.size + 1 + 1) (by omega) 3 (.slice (some ⟨gg, 0, none⟩) (k + 1) cc)
        clear hS hgr hat
        refine hK'.out _ _ hSa (fun hS => ?_)
        clear hK' K'
        refine wpAnyH_take (i := 10) (v := ?v10_10) rfl (by kernel_rfl) (by kernel_rfl) (by kernel_rfl) (fun _ _ _ h => h) (Or.inl ⟨by rfl, ?y10_10⟩) hS ?r10_10
        case y10_10 =>
          rintro W hH
          go_simp
          with_reducible rfl
        simp only [Act.put]
        try simp only [List.getElem_toArray, List.getElem_cons_succ, List.getElem_cons_zero]
        try simp only [List.setIfInBounds_toArray, List.set_cons_succ, List.set_cons_zero]
        refine wpAnyH_ready (rs := [11]) (by kernel_rfl) (by simp) ?_
        refine AllReadyH.cons rfl (fun K' hK' => ?_) AllReadyH.nil
        go_simp
        have hSs : Below w.heap.size w (wa.setCell ⟨w.heap.size + 1 + 1, 3, none⟩ (.slice (some ⟨gg, 0, none⟩) (k + 1) cc)) := hSa.setCell (p := ⟨w.heap.size + 1 + 1, 3, none⟩) (by show w.heap.size ≤ w.heap.size + 1 + 1; omega) _
        clear hS
        refine hK'.out _ _ hSs (fun hS => ?_)
        clear hK' K'
        refine wpAnyH_done (by kernel_rfl) ?_ _
        go_wp2_with fail
        go_roundw
        case rel => exact ⟨k + 1, (.slice (some ⟨gg, 0, none⟩) (k + 1) cc), by omega, by go_num, hRa.set 3 _, by rw [HSN.out, List.map_append]; exact ho2, hPa.far (p := ⟨w.heap.size + 1 + 1, 3, none⟩) (by show w.heap.size ≠ w.heap.size + 1 + 1; omega) _, hOa.far (p := ⟨w.heap.size + 1 + 1, 3, none⟩) (by show w.heap.size + 1 ≠ w.heap.size + 1 + 1; omega) _, hSs, by show w2.heap.size ≤ _; rw [World.size_setCell]; exact hgea⟩
        case measure => simp [intOf]; omega
  · obtain rfl : k = N := by omega
    obtain ⟨Au, cu, rfl, sv⟩ := SlI.of_own (xs := (wordsP (b.drop 2)).take k) hrow
    have ht1 : ¬ 2 * (k : Int) + 3 < (n : Int) := by omega
    go_wp2_with fail
    have htk : (wordsP (b.drop 2)).take k = wordsP (b.drop 2) := List.take_of_length_le (by rw [wordsP_len, List.length_drop, HL.out]; omega)
    rw [htk] at sv
    have HAN := Lib.hid (answer_ref (.agg #[.int .i64 fn, .int .i64 addr, .int .i64 count, .int .i64 to, .slice A nb cb, .slice R nr cr]) (.agg #[.int .i64 fn, .int .i64 0, .slice none 0 0, .slice Au k cu]) ⟨fn, addr, count, to, bs, regs⟩ (⟨fn, 0, [], wordsP (b.drop 2)⟩ : RepP) wr ⟨A, nb, cb, R, nr, cr, rfl, HA.out wr hbwrw, HR.out wr hbwrw⟩ ⟨none, 0, 0, Au, k, cu, rfl, SlB.nil _ _, sv⟩ hy (wordsP_reg (fun x hx => hb8 x (List.mem_of_mem_drop hx))))
    go_wp2_with (first | ((with_reducible refine at_loadT 25 2 ?_); refine wpList_load_rowG rfl 25 (.tmp 2) rfl w.heap.size rfl 25 _ _ hPwr hu rfl hsz ?_) | ((with_reducible refine at_loadT 34 6 ?_); refine wpList_load_rowG rfl 34 (.tmp 6) rfl (w.heap.size + 1 + 1) rfl 34 _ _ hRwr hu4 rfl hsz4 ?_))
    refine HAN.out.mono ?_
    rintro e wq ⟨Aq, nq, cq, rfl, sq, hbq⟩
    have hbqw := hbwrw.trans (hbq.mono hbwrw.size)
    have hPwq := hPwr.below hbq hPwr.lt
    have hOwq := hOwr.below hbq hOwr.lt
    have hRwq := hRwr.below hbq hRwr.lt
    have pwq0 : wq.cell? ⟨w.heap.size, 0, none⟩ = some (.int .i64 fn) := hPwq.cell 0
    have pwq1 : wq.cell? ⟨w.heap.size, 1, none⟩ = some (.int .i64 addr) := hPwq.cell 1
    have pwq2 : wq.cell? ⟨w.heap.size, 2, none⟩ = some (.int .i64 count) := hPwq.cell 2
    have pwq3 : wq.cell? ⟨w.heap.size, 3, none⟩ = some (.int .i64 to) := hPwq.cell 3
    have pwq4 : wq.cell? ⟨w.heap.size, 4, none⟩ = some (.slice A nb cb) := hPwq.cell 4
    have pwq5 : wq.cell? ⟨w.heap.size, 5, none⟩ = some (.slice R nr cr) := hPwq.cell 5
    have owq0 : wq.cell? ⟨w.heap.size + 1, 0, none⟩ = some (.int .i64 0) := hOwq.cell 0
    have owq1 : wq.cell? ⟨w.heap.size + 1, 1, none⟩ = some (.int .i64 0) := hOwq.cell 1
    have owq2 : wq.cell? ⟨w.heap.size + 1, 2, none⟩ = some (.slice none 0 0) := hOwq.cell 2
    have owq3 : wq.cell? ⟨w.heap.size + 1, 3, none⟩ = some (.slice none 0 0) := hOwq.cell 3
    have rwq0 : wq.cell? ⟨w.heap.size + 1 + 1, 0, none⟩ = some (.int .i64 fn) := hRwq.cell 0
    have rwq1 : wq.cell? ⟨w.heap.size + 1 + 1, 1, none⟩ = some (.int .i64 0) := hRwq.cell 1
    have rwq2 : wq.cell? ⟨w.heap.size + 1 + 1, 2, none⟩ = some (.slice none 0 0) := hRwq.cell 2
    have rwq3 : wq.cell? ⟨w.heap.size + 1 + 1, 3, none⟩ = some (.slice Au k cu) := hRwq.cell 3
    have fowq := hOwq.frozen
    have frwq := hRwq.frozen
    have zPwq := hPwq.lt
    have zOwq := hOwq.lt
    have zRwq := hRwq.lt
    have hbwqw := hbqw
    cases han : answerP ⟨fn, addr, count, to, bs, regs⟩ (⟨fn, 0, [], wordsP (b.drop 2)⟩ : RepP) with
    | none =>
      have hfz : readAnswerP ⟨fn, addr, count, to, bs, regs⟩ b = none := by rw [HF.out, han]; rfl
      have HZ := Lib.hid hfz
      have he : errV (none : Option (List Int)).isSome = 190 := rfl
      rw [he]
      clear han hfz he
      go_wp2_with fail
      obtain ⟨wz, hwz⟩ : ∃ W, ((((wq.setCell ⟨w.heap.size + 1, 0, none⟩ (.int .i64 0)).setCell ⟨w.heap.size + 1, 1, none⟩ (.int .i64 0)).setCell ⟨w.heap.size + 1, 2, none⟩ (.slice none 0 0)).setCell ⟨w.heap.size + 1, 3, none⟩ (.slice none 0 0)) = W := ⟨_, rfl⟩
      have hZ : Held wz (w.heap.size + 1) 34 #[.int .i64 0, .int .i64 0, .slice none 0 0, .slice none 0 0] := by rw [← hwz]; exact (((hOwq.set 0 _).set 1 _).set 2 _).set 3 _
      have hbz : Below w.heap.size w wz := by rw [← hwz]; exact ((((hbwqw.setCell (p := ⟨w.heap.size + 1, 0, none⟩) (by simp) _).setCell (p := ⟨w.heap.size + 1, 1, none⟩) (by simp) _).setCell (p := ⟨w.heap.size + 1, 2, none⟩) (by simp) _).setCell (p := ⟨w.heap.size + 1, 3, none⟩) (by simp) _)
      have hoff : OffB wq wz (w.heap.size + 1) := by rw [← hwz]; exact ((((OffB.refl _ _).set 0 _).set 1 _).set 2 _).set 3 _
      have z0 : wz.cell? ⟨w.heap.size + 1, 0, none⟩ = some (.int .i64 0) := hZ.cell 0
      have z1 : wz.cell? ⟨w.heap.size + 1, 1, none⟩ = some (.int .i64 0) := hZ.cell 1
      have z2 : wz.cell? ⟨w.heap.size + 1, 2, none⟩ = some (.slice none 0 0) := hZ.cell 2
      have z3 : wz.cell? ⟨w.heap.size + 1, 3, none⟩ = some (.slice none 0 0) := hZ.cell 3
      rw [hwz]
      exact bodyPost_ret (v := .tuple #[.agg #[.int .i64 0, .int .i64 0, .slice none 0 0, .slice none 0 0], .int .i64 190]) (by simp [results, Tryd.results16, go_sem, z0, z1, z2, z3]) rfl (ra_none (HZ.out) hbz)
    | some x =>
      have he : errV (some x : Option (List Int)).isSome = 0 := rfl
      rw [he]
      rw [han] at sq
      have hx8 : Byte8 x := (reply_read _ _ x (wordsP_reg (fun x hx => hb8 x (List.mem_of_mem_drop hx))) hy han).2.2.2.1
      have k1 := conv_sli sq
      have k2 := conv_sli (HB.out wq hbqw)
      have hst := str_eq x b hx8 hb8
      obtain ⟨S1, hS1⟩ : ∃ S, strOfNums x = S := ⟨_, rfl⟩
      obtain ⟨S2, hS2⟩ : ∃ S, strOfNums b = S := ⟨_, rfl⟩
      simp only [Option.getD_some] at k1
      rw [hS1] at k1
      rw [hS2] at k2
      rw [hS1, hS2] at hst
      clear hS1 hS2
      by_cases hxb : x = b
      · have hfz : readAnswerP ⟨fn, addr, count, to, bs, regs⟩ b = some (⟨fn, 0, [], wordsP (b.drop 2)⟩ : RepP) := by rw [HF.out, han, if_pos (by rw [hxb])]
        have HZ := Lib.hid hfz
        rw [decide_eq_true hxb] at hst
        clear han hfz he hxb sq hx8
        go_wp2_with fail
        obtain ⟨wz, hwz⟩ : ∃ W, ((((wq.setCell ⟨w.heap.size + 1, 0, none⟩ (.int .i64 fn)).setCell ⟨w.heap.size + 1, 1, none⟩ (.int .i64 0)).setCell ⟨w.heap.size + 1, 2, none⟩ (.slice none 0 0)).setCell ⟨w.heap.size + 1, 3, none⟩ (.slice Au k cu)) = W := ⟨_, rfl⟩
        have hZ : Held wz (w.heap.size + 1) 34 #[.int .i64 fn, .int .i64 0, .slice none 0 0, .slice Au k cu] := by rw [← hwz]; exact (((hOwq.set 0 _).set 1 _).set 2 _).set 3 _
        have hbz : Below w.heap.size w wz := by rw [← hwz]; exact ((((hbwqw.setCell (p := ⟨w.heap.size + 1, 0, none⟩) (by simp) _).setCell (p := ⟨w.heap.size + 1, 1, none⟩) (by simp) _).setCell (p := ⟨w.heap.size + 1, 2, none⟩) (by simp) _).setCell (p := ⟨w.heap.size + 1, 3, none⟩) (by simp) _)
        have hoff : OffB wq wz (w.heap.size + 1) := by rw [← hwz]; exact ((((OffB.refl _ _).set 0 _).set 1 _).set 2 _).set 3 _
        have z0 : wz.cell? ⟨w.heap.size + 1, 0, none⟩ = some (.int .i64 fn) := hZ.cell 0
        have z1 : wz.cell? ⟨w.heap.size + 1, 1, none⟩ = some (.int .i64 0) := hZ.cell 1
        have z2 : wz.cell? ⟨w.heap.size + 1, 2, none⟩ = some (.slice none 0 0) := hZ.cell 2
        have z3 : wz.cell? ⟨w.heap.size + 1, 3, none⟩ = some (.slice Au k cu) := hZ.cell 3
        rw [hwz]
        exact bodyPost_ret (v := .tuple #[.agg #[.int .i64 fn, .int .i64 0, .slice none 0 0, .slice Au k cu], .int .i64 0]) (by simp [results, Tryd.results16, go_sem, z0, z1, z2, z3]) rfl (ra_some HZ.out ⟨none, 0, 0, Au, k, cu, rfl, SlB.nil _ _, (sv.up hbq).off hoff hOwq (by intro v hv x e; subst e; simp at hv)⟩ hbz)
      · have hfz : readAnswerP ⟨fn, addr, count, to, bs, regs⟩ b = none := by rw [HF.out, han, if_neg (by simpa using hxb)]
        have HZ := Lib.hid hfz
        rw [decide_eq_false hxb] at hst
        clear han hfz he hxb sq hx8
        go_wp2_with fail
        obtain ⟨wz, hwz⟩ : ∃ W, ((((wq.setCell ⟨w.heap.size + 1, 0, none⟩ (.int .i64 0)).setCell ⟨w.heap.size + 1, 1, none⟩ (.int .i64 0)).setCell ⟨w.heap.size + 1, 2, none⟩ (.slice none 0 0)).setCell ⟨w.heap.size + 1, 3, none⟩ (.slice none 0 0)) = W := ⟨_, rfl⟩
        have hZ : Held wz (w.heap.size + 1) 34 #[.int .i64 0, .int .i64 0, .slice none 0 0, .slice none 0 0] := by rw [← hwz]; exact (((hOwq.set 0 _).set 1 _).set 2 _).set 3 _
        have hbz : Below w.heap.size w wz := by rw [← hwz]; exact ((((hbwqw.setCell (p := ⟨w.heap.size + 1, 0, none⟩) (by simp) _).setCell (p := ⟨w.heap.size + 1, 1, none⟩) (by simp) _).setCell (p := ⟨w.heap.size + 1, 2, none⟩) (by simp) _).setCell (p := ⟨w.heap.size + 1, 3, none⟩) (by simp) _)
        have hoff : OffB wq wz (w.heap.size + 1) := by rw [← hwz]; exact ((((OffB.refl _ _).set 0 _).set 1 _).set 2 _).set 3 _
        have z0 : wz.cell? ⟨w.heap.size + 1, 0, none⟩ = some (.int .i64 0) := hZ.cell 0
        have z1 : wz.cell? ⟨w.heap.size + 1, 1, none⟩ = some (.int .i64 0) := hZ.cell 1
        have z2 : wz.cell? ⟨w.heap.size + 1, 2, none⟩ = some (.slice none 0 0) := hZ.cell 2
        have z3 : wz.cell? ⟨w.heap.size + 1, 3, none⟩ = some (.slice none 0 0) := hZ.cell 3
        rw [hwz]
        exact bodyPost_ret (v := .tuple #[.agg #[.int .i64 0, .int .i64 0, .slice none 0 0, .slice none 0 0], .int .i64 190]) (by simp [results, Tryd.results16, go_sem, z0, z1, z2, z3]) rfl (ra_none (HZ.out) hbz)
end Go.Proofs.YtflbiichdjhaeaaDoor
namespace Go.Proofs.YtflbiichdjhaeaaDoor
open Go.RowKit
set_option linter.unusedVariables false

set_option maxRecDepth 100000 in
set_option maxHeartbeats 2000000 in
theorem rr34 (fn addr count to : Int) (bs : List Bool) (regs : List Int) (A : Option Addr) (nb cb : Nat) (R : Option Addr) (nr cr : Nat) (g off n c : Nat) (b : List Int) (w : World) (hA : SlB w w.heap.size A nb cb bs) (hR : SlI w w.heap.size .u16 R nr cr regs) (hy : Reg16 regs) (hB : SlI w w.heap.size .u8 (some ⟨g, off, none⟩) n c b) (hb8 : Byte8 b) (hn : n ≤ 1000) (hn2 : 2 ≤ n) (x0 : Int) (hx0 : b[0]? = some x0) (hm : mayP ⟨fn, addr, count, to, bs, regs⟩ = true) (hc1 : 0 < count) (N : Nat) (hN1 : 2 * N + 2 ≤ n) (hN2 : n ≤ 2 * N + 3) (hfin : readAnswerP ⟨fn, addr, count, to, bs, regs⟩ b = if answerP ⟨fn, addr, count, to, bs, regs⟩ (⟨fn, 0, [], wordsP (b.drop 2)⟩ : RepP) = some b then some (⟨fn, 0, [], wordsP (b.drop 2)⟩ : RepP) else none) (ht : x0 < 128) (h2 : ¬ fn < 3) (h3 : (fn == 3) = false) (h4 : (fn == 4) = true) (h23 : (fn == 23) = false) : Calls Tryd.prog 16 #[.agg #[.int .i64 fn, .int .i64 addr, .int .i64 count, .int .i64 to, .slice A nb cb, .slice R nr cr], .slice (some ⟨g, off, none⟩) n c] w (RaPost w ⟨fn, addr, count, to, bs, regs⟩ b) := by
  obtain ⟨w1, hw1⟩ : ∃ w1, ((w.alloc (.cells #[.int .i64 fn, .int .i64 addr, .int .i64 count, .int .i64 to, .slice A nb cb, .slice R nr cr] 25)).alloc (.cells #[.int .i64 0, .int .i64 0, .slice none 0 0, .slice none 0 0] 34)).alloc (.cells #[.int .i64 fn, .int .i64 0, .slice none 0 0, .slice none 0 0] 34) = w1 := ⟨_, rfl⟩
  have hb1 : Below w.heap.size w w1 := by rw [← hw1]; exact (((Below.refl _ w).alloc (Nat.le_refl _) _).alloc (by simp) _).alloc (by simp; omega) _
  have hz1 : w1.heap.size = w.heap.size + 3 := by rw [← hw1]; simp
  have hP1 : Held w1 w.heap.size 25 #[.int .i64 fn, .int .i64 addr, .int .i64 count, .int .i64 to, .slice A nb cb, .slice R nr cr] := by rw [← hw1]; exact ((Held.new w _ _).alloc _).alloc _
  have hO1 : Held w1 (w.heap.size + 1) 34 #[.int .i64 0, .int .i64 0, .slice none 0 0, .slice none 0 0] := by rw [← hw1]; have := Held.new (w.alloc (.cells #[.int .i64 fn, .int .i64 addr, .int .i64 count, .int .i64 to, .slice A nb cb, .slice R nr cr] 25)) 34 #[.int .i64 0, .int .i64 0, .slice none 0 0, .slice none 0 0]; rw [World.size_alloc] at this; exact this.alloc _
  have hR1 : Held w1 (w.heap.size + 1 + 1) 34 #[.int .i64 fn, .int .i64 0, .slice none 0 0, .slice none 0 0] := by rw [← hw1]; have := Held.new ((w.alloc (.cells #[.int .i64 fn, .int .i64 addr, .int .i64 count, .int .i64 to, .slice A nb cb, .slice R nr cr] 25)).alloc (.cells #[.int .i64 0, .int .i64 0, .slice none 0 0, .slice none 0 0] 34)) 34 #[.int .i64 fn, .int .i64 0, .slice none 0 0, .slice none 0 0]; rw [World.size_alloc, World.size_alloc] at this; exact this
  have hu := Tryd.underlying25
  have hsz : (Tryd.prog.info? 25).map (·.size) = some 6 := by kernel_rfl
  have hu4 := Tryd.underlying34
  have hsz4 : (Tryd.prog.info? 34).map (·.size) = some 4 := by kernel_rfl
  have HA := Lib.hid (fun (X : World) (h : Below w.heap.size w X) => hA.up h)
  have HR := Lib.hid (fun (X : World) (h : Below w.heap.size w X) => hR.up h)
  have HB := Lib.hid (fun (X : World) (h : Below w.heap.size w X) => hB.up h)
  have HW1 := Lib.hid hw1
  clear hw1
  have HL := Lib.hid hB.1
  have HCP := Lib.hid hB.2.1
  have hn2' : ¬ (n : Int) < 2 := by omega
  have hn0 : 0 < n := by omega
  obtain ⟨x00, x01⟩ := hb8 x0 (List.mem_of_getElem? hx0)
  have hmy := may_any (.agg #[.int .i64 fn, .int .i64 addr, .int .i64 count, .int .i64 to, .slice A nb cb, .slice R nr cr]) ⟨fn, addr, count, to, bs, regs⟩ w1 ⟨A, nb, cb, R, nr, cr, rfl, hA.up hb1, hR.up hb1⟩
  rw [hm] at hmy
  have HM := Lib.hid hmy
  clear hmy
  have HF : Hid (readAnswerP ⟨fn, addr, count, to, bs, regs⟩ b = if answerP ⟨fn, addr, count, to, bs, regs⟩ (⟨fn, 0, [], wordsP (b.drop 2)⟩ : RepP) = some b then some (⟨fn, 0, [], wordsP (b.drop 2)⟩ : RepP) else none) := Lib.hid hfin
  clear hfin hm
  have HX0 := Lib.hid hx0
  clear hx0
  have hnc : (n : Int) ≤ (c : Int) := by have := HCP.out; omega
  obtain ⟨AD, hAD⟩ : ∃ X, (if c = 2 then some (⟨g, off, none⟩ : Addr) else some ⟨g, off + 2, none⟩) = X := ⟨_, rfl⟩
  clear hA hR hB
  go_in
  go_upto_region 2 with (fail)
  rw [HW1.out]
  go_wp2_with ((with_reducible refine at_loadT 25 2 ?_); refine wpList_load_rowG rfl 25 (.tmp 2) rfl w.heap.size rfl 25 _ _ hP1 hu rfl hsz ?_)
  refine HM.out.mono ?_
  rintro e w2 ⟨rfl, hb2⟩
  have hb2w := hb1.trans (hb2.mono hb1.size)
  have hPw2 := hP1.below hb2 hP1.lt
  have hOw2 := hO1.below hb2 hO1.lt
  have hRw2 := hR1.below hb2 hR1.lt
  have hbw2w := hb2w
  clear hP1 hO1 hR1 hb2 HW1
  have pw20 : w2.cell? ⟨w.heap.size, 0, none⟩ = some (.int .i64 fn) := hPw2.cell 0
  have pw21 : w2.cell? ⟨w.heap.size, 1, none⟩ = some (.int .i64 addr) := hPw2.cell 1
  have pw22 : w2.cell? ⟨w.heap.size, 2, none⟩ = some (.int .i64 count) := hPw2.cell 2
  have pw23 : w2.cell? ⟨w.heap.size, 3, none⟩ = some (.int .i64 to) := hPw2.cell 3
  have pw24 : w2.cell? ⟨w.heap.size, 4, none⟩ = some (.slice A nb cb) := hPw2.cell 4
  have pw25 : w2.cell? ⟨w.heap.size, 5, none⟩ = some (.slice R nr cr) := hPw2.cell 5
  have ow20 : w2.cell? ⟨w.heap.size + 1, 0, none⟩ = some (.int .i64 0) := hOw2.cell 0
  have ow21 : w2.cell? ⟨w.heap.size + 1, 1, none⟩ = some (.int .i64 0) := hOw2.cell 1
  have ow22 : w2.cell? ⟨w.heap.size + 1, 2, none⟩ = some (.slice none 0 0) := hOw2.cell 2
  have ow23 : w2.cell? ⟨w.heap.size + 1, 3, none⟩ = some (.slice none 0 0) := hOw2.cell 3
  have rw20 : w2.cell? ⟨w.heap.size + 1 + 1, 0, none⟩ = some (.int .i64 fn) := hRw2.cell 0
  have rw21 : w2.cell? ⟨w.heap.size + 1 + 1, 1, none⟩ = some (.int .i64 0) := hRw2.cell 1
  have rw22 : w2.cell? ⟨w.heap.size + 1 + 1, 2, none⟩ = some (.slice none 0 0) := hRw2.cell 2
  have rw23 : w2.cell? ⟨w.heap.size + 1 + 1, 3, none⟩ = some (.slice none 0 0) := hRw2.cell 3
  have fow2 := hOw2.frozen
  have frw2 := hRw2.frozen
  have zPw2 := hPw2.lt
  have zOw2 := hOw2.lt
  have zRw2 := hRw2.lt
  have hc0 : w2.cell? ⟨g, off, none⟩ = some (.int .u8 x0) := by
    obtain ⟨g', o', e, hlt, hc⟩ := (HB.out w2 hb2w).2.2.2.2 (by rw [HL.out]; omega)
    injection e with e
    injection e with e1 e2
    subst e1 e2
    exact hc 0 x0 HX0.out
  have HD : Hid (∀ X, Below w.heap.size w X → RdI X X.heap.size .u8 AD (b.drop 2)) := Lib.hid (fun X h => by
    rw [← hAD]
    split
    · rename_i hc2
      have h1 := HL.out
      have h2 := HCP.out
      rw [List.drop_eq_nil_of_le (by omega)]
      exact RdI.nil
    · exact (HB.out X h).2.2.2.2.drop 2 _ (fun g' o' e _ => by injection e with e; injection e with e1 e2; subst e1 e2; rfl))
  obtain ⟨i0, hi, hz0, hz1', hz2'⟩ := info_parts infoW
  go_wp2_with fail
  refine wp_loop_rounds 1 ?_
  rw [rounds_succ]
  go_wp2_with fail
  go_loopw [8] (fun u wx => ∃ (k : Nat) (v : Value), k ≤ N ∧ u = .int .i64 (k : Int) ∧ Held wx (w.heap.size + 1 + 1) 34 #[.int .i64 fn, .int .i64 0, .slice none 0 0, v] ∧ wx.ownsRow w2.heap.size 54 1 v k (((wordsP (b.drop 2)).take k).map (Value.int .u16)) ∧ Held wx w.heap.size 25 #[.int .i64 fn, .int .i64 addr, .int .i64 count, .int .i64 to, .slice A nb cb, .slice R nr cr] ∧ Held wx (w.heap.size + 1) 34 #[.int .i64 0, .int .i64 0, .slice none 0 0, .slice none 0 0] ∧ Below w.heap.size w wx ∧ w2.heap.size ≤ wx.heap.size) (fun u _ => N - (intOf u).toNat)
  case atStart => exact ⟨0, .slice none 0 0, by omega, rfl, hRw2, World.ownsRow_nil _ _ _ _, hPw2, hOw2, hb2w, Nat.le_refl _⟩
  case round =>
  obtain ⟨k, v, hk, rfl, hRwr, hrow, hPwr, hOwr, hbwr, hge⟩ := hrel
  have hbwrw := hbwr
  have hzw2 := hb2w.size
  clear pw20 pw21 pw22 pw23 pw24 pw25 ow20 ow21 ow22 ow23 rw20 rw21 rw22 rw23 fow2 frw2
  have pwr0 : wr.cell? ⟨w.heap.size, 0, none⟩ = some (.int .i64 fn) := hPwr.cell 0
  have pwr1 : wr.cell? ⟨w.heap.size, 1, none⟩ = some (.int .i64 addr) := hPwr.cell 1
  have pwr2 : wr.cell? ⟨w.heap.size, 2, none⟩ = some (.int .i64 count) := hPwr.cell 2
  have pwr3 : wr.cell? ⟨w.heap.size, 3, none⟩ = some (.int .i64 to) := hPwr.cell 3
  have pwr4 : wr.cell? ⟨w.heap.size, 4, none⟩ = some (.slice A nb cb) := hPwr.cell 4
  have pwr5 : wr.cell? ⟨w.heap.size, 5, none⟩ = some (.slice R nr cr) := hPwr.cell 5
  have owr0 : wr.cell? ⟨w.heap.size + 1, 0, none⟩ = some (.int .i64 0) := hOwr.cell 0
  have owr1 : wr.cell? ⟨w.heap.size + 1, 1, none⟩ = some (.int .i64 0) := hOwr.cell 1
  have owr2 : wr.cell? ⟨w.heap.size + 1, 2, none⟩ = some (.slice none 0 0) := hOwr.cell 2
  have owr3 : wr.cell? ⟨w.heap.size + 1, 3, none⟩ = some (.slice none 0 0) := hOwr.cell 3
  have rwr0 : wr.cell? ⟨w.heap.size + 1 + 1, 0, none⟩ = some (.int .i64 fn) := hRwr.cell 0
  have rwr1 : wr.cell? ⟨w.heap.size + 1 + 1, 1, none⟩ = some (.int .i64 0) := hRwr.cell 1
  have rwr2 : wr.cell? ⟨w.heap.size + 1 + 1, 2, none⟩ = some (.slice none 0 0) := hRwr.cell 2
  have rwr3 : wr.cell? ⟨w.heap.size + 1 + 1, 3, none⟩ = some (v) := hRwr.cell 3
  have fowr := hOwr.frozen
  have frwr := hRwr.frozen
  have zPwr := hPwr.lt
  have zOwr := hOwr.lt
  have zRwr := hRwr.lt
  by_cases hlt : k < N
  · skip
    have ht1 : 2 * (k : Int) + 3 < (n : Int) := by omega
    obtain ⟨wd, hwd⟩ : ∃ wd : World, wr.drew = wd := ⟨_, rfl⟩
    have hb0 : Below wr.heap.size wr wd := by rw [← hwd]; exact (Below.refl _ _).drew
    have hbdw : Below w.heap.size w wd := hbwr.trans (hb0.mono hbwr.size)
    have hPwd := hPwr.below hb0 hPwr.lt
    have hOwd := hOwr.below hb0 hOwr.lt
    have hRwd := hRwr.below hb0 hRwr.lt
    have hrowd := own_up hrow hb0
    have hzd1 : wd.heap.size ≤ wr.heap.size := by rw [← hwd]; exact Nat.le_refl _
    have hzd2 : wr.heap.size ≤ wd.heap.size := by rw [← hwd]; exact Nat.le_refl _
    have hrv : wd.cell? ⟨w.heap.size + 1 + 1, 3, none⟩ = some v := hRwd.cell 3
    have hzRd := hRwd.lt
    have hz2d : w2.heap.size ≤ wd.heap.size := by
      omega
    have hat0 := fun (X : World) (h : Below w.heap.size w X) => at_any (some ⟨g, off, none⟩) n c b (2 + 2 * k) (by omega) X (HB.out X h) hb8
    rw [at_drop b k (by rw [HL.out]; omega), show ((2 + 2 * k : Nat) : Int) = 2 + 2 * (k : Int) by omega] at hat0
    obtain ⟨x0w, x1w⟩ := wordP_in (b.drop 2) (fun x hx => hb8 x (List.mem_of_mem_drop hx)) (2 * k) (by rw [List.length_drop, HL.out]; omega)
    have HSN := Lib.hid (words_take (b.drop 2) k (by rw [wordsP_len, List.length_drop, HL.out]; omega))
    obtain ⟨X, hX⟩ : ∃ X, wordP (b.drop 2) (2 * k) = X := ⟨_, rfl⟩
    simp only [hX] at hat0 x0w x1w HSN
    have HAT := Lib.hid hat0
    clear hat0 hX
    have wm1 : IntKind.i64.wrap (2 * (k : Int)) = 2 * (k : Int) := IntWalk.i64_in _ (by omega)
    have wm2 : IntKind.i64.wrap (2 + 2 * (k : Int)) = 2 + 2 * (k : Int) := IntWalk.i64_in _ (by omega)
    have wm3 : IntKind.u16.wrap X = X := IntWalk.u16_in _ (by omega)
    go_wp2_with fail
    refine wp_region_held (S := Below w.heap.size w) (by kernel_rfl) ?_
    change wpAnyH _ _ _ _ _ _ _ _ wr.drew
    rw [hwd]
    have hS : Below w.heap.size w wd := hbdw
    refine wpAnyH_take (i := 0) (v := ?v0_1) rfl (by kernel_rfl) (by kernel_rfl) (by kernel_rfl) (fun _ _ _ h => h) (Or.inl ⟨by rfl, ?y0_1⟩) hS ?r0_1
    case y0_1 =>
      rintro W hH
      go_simp
      with_reducible rfl
    simp only [Act.put]
    try simp only [List.getElem_toArray, List.getElem_cons_zero]
    try simp only [List.setIfInBounds_toArray, List.set_cons_succ, List.set_cons_zero]
    refine wpAnyH_take (i := 2) (v := ?v2_2) rfl (by kernel_rfl) (by kernel_rfl) (by kernel_rfl) (fun _ _ _ h => h) (Or.inl ⟨by rfl, ?y2_2⟩) hS ?r2_2
    case y2_2 =>
      rintro W hH
      go_simp
      with_reducible rfl
    simp only [Act.put]
    try simp only [List.getElem_toArray, List.getElem_cons_succ, List.getElem_cons_zero]
    try simp only [List.setIfInBounds_toArray, List.set_cons_succ, List.set_cons_zero]
    refine wpAnyH_take (i := 3) (v := ?v3_3) rfl (by kernel_rfl) (by kernel_rfl) (by kernel_rfl) (fun _ _ _ h => h) (Or.inl ⟨by rfl, ?y3_3⟩) hS ?r3_3
    case y3_3 =>
      rintro W hH
      go_simp
      with_reducible rfl
    simp only [Act.put]
    try simp only [List.getElem_toArray, List.getElem_cons_succ, List.getElem_cons_zero]
    try simp only [List.setIfInBounds_toArray, List.set_cons_succ, List.set_cons_zero]
    refine wpAnyH_take (i := 4) (v := ?v4_4) rfl (by kernel_rfl) (by kernel_rfl) (by kernel_rfl) (fun _ _ _ h => h) (Or.inl ⟨by rfl, ?y4_4⟩) hS ?r4_4
    case y4_4 =>
      rintro W hH
      go_simp
      with_reducible rfl
    simp only [Act.put]
    try simp only [List.getElem_toArray, List.getElem_cons_succ, List.getElem_cons_zero]
    try simp only [List.setIfInBounds_toArray, List.set_cons_succ, List.set_cons_zero]
    refine wpAnyH_take (i := 5) (v := ?v5_5) rfl (by kernel_rfl) (by kernel_rfl) (by kernel_rfl) (fun _ _ _ h => h) (Or.inl ⟨by rfl, ?y5_5⟩) hS ?r5_5
    case y5_5 =>
      rintro W hH
      go_simp
      with_reducible rfl
    simp only [Act.put]
    try simp only [List.getElem_toArray, List.getElem_cons_succ, List.getElem_cons_zero]
    try simp only [List.setIfInBounds_toArray, List.set_cons_succ, List.set_cons_zero]
    refine wpAnyH_ready (rs := [1, 6]) (by kernel_rfl) (by simp) ?_
    refine AllReadyH.cons rfl (fun K' hK' => ?_) (AllReadyH.cons rfl (fun K' hK' => ?_) AllReadyH.nil)
    · skip
      go_simp
      refine hK'.out _ _ hS (fun hS => ?_)
      clear hK' K'
      refine wpAnyH_ready (rs := [6]) (by kernel_rfl) (by simp) ?_
      refine AllReadyH.cons rfl (fun K' hK' => ?_) AllReadyH.nil
      go_simp
      refine (HAT.out wd hbdw).mono ?_
      rintro e wc ⟨rfl, mc, hwc⟩
      have hbc : Below wd.heap.size wd wc := by rw [hwc]; exact below_drewN (Below.refl _ _) _
      have hzc1 : wc.heap.size ≤ wd.heap.size := by rw [hwc]; exact Nat.le_refl _
      have hzc2 : wd.heap.size ≤ wc.heap.size := by rw [hwc]; exact Nat.le_refl _
      have hrowc := own_up hrowd hbc
      have hRc := hRwd.below hbc hRwd.lt
      have hrvc := hRc.cell 3
      have hrvc' : wc.cell? ⟨w.heap.size + 1 + 1, 3, none⟩ = some v := hrvc
      have hPc := hPwd.below hbc hPwd.lt
      have hOc := hOwd.below hbc hOwd.lt
      have hzRc := hRc.lt
      have hSc : Below w.heap.size w wc := hbdw.trans (hbc.mono hbdw.size)
      clear hwc
      go_simp
      refine hK'.out _ _ hSc (fun hS => ?_)
      clear hK' K'
      refine wpAnyH_take (i := 7) (v := ?v7_6) rfl (by kernel_rfl) (by kernel_rfl) (by kernel_rfl) (fun _ _ _ h => h) (Or.inl ⟨by rfl, ?y7_6⟩) hS ?r7_6
      case y7_6 =>
        rintro W hH
        go_simp
        with_reducible rfl
      simp only [Act.put]
      try simp only [List.getElem_toArray, List.getElem_cons_succ, List.getElem_cons_zero]
      try simp only [List.setIfInBounds_toArray, List.set_cons_succ, List.set_cons_zero]
      refine wpAnyH_ready (rs := [8]) (by kernel_rfl) (by simp) ?_
      refine AllReadyH.cons rfl (fun K' hK' => ?_) AllReadyH.nil
      go_simp
      have hzX : w2.heap.size ≤ wc.heap.size := by omega
      refine hK'.out _ _ (hS.alloc hS.size _) (fun hS => ?_)
      clear hK' K'
      refine wpAnyH_ready (rs := [9]) (by kernel_rfl) (by simp) ?_
      refine AllReadyH.cons rfl (fun K' hK' => ?_) AllReadyH.nil
      refine step_append_lies _ (by rfl) _ _ _ (by rfl) w2.heap.size 54 i0 (.int .u16 0) 1 2 Tryd.underlying23 hi hz0 hz1' hz2' rfl (by decide) v k _ (by rfl) (hrowc.alloc (.cells #[.int .u16 X] 54)) ⟨wc.heap.size, 0, none⟩ 1 1 [.int .u16 X] (by rfl) (by rfl) (World.news_of_block (cs := #[.int .u16 X]) (t := 54) (fr := (0, 0)) (heap_alloc_new wc _)) (by simp [Value.oneCell']) (by omega) (by unfold maxLen; omega) (by omega) (by simp; omega) (wc.heap.size + 1) (by simp) ?_
      intro gg cc wa own' hgr hat hlt2
      have hne : ∀ B, B < w2.heap.size → some B ≠ v.ownBlock := fun B hB e => by have := (hrowc.lt B e.symm).1; omega
      have hRa : Held wa (w.heap.size + 1 + 1) 34 #[.int .i64 fn, .int .i64 0, .slice none 0 0, v] := (hRc.alloc _).kept hgr (hne _ (by omega))
      have hPa : Held wa w.heap.size 25 #[.int .i64 fn, .int .i64 addr, .int .i64 count, .int .i64 to, .slice A nb cb, .slice R nr cr] := (hPc.alloc _).kept hgr (hne _ (by omega))
      have hOa : Held wa (w.heap.size + 1) 34 #[.int .i64 0, .int .i64 0, .slice none 0 0, .slice none 0 0] := (hOc.alloc _).kept hgr (hne _ (by omega))
      have hSa : Below w.heap.size w wa := hS.grown hgr (by rw [World.size_alloc]; omega) (fun B hB => by have := (hrowc.lt B hB).1; omega)
      have hra : wa.cell? ⟨w.heap.size + 1 + 1, 3, none⟩ = some v := hRa.cell 3
      have hfa := hRa.frozen
      have hga := own'.lt gg rfl
      have hgea : w2.heap.size ≤ wa.heap.size := by omega
      have ho2 := own_off own' (B := w.heap.size + 1 + 1) (by omega) 3 (.slice (some ⟨gg, 0, none⟩) (k + 1) cc)
      clear hS hgr hat
      refine hK'.out _ _ hSa (fun hS => ?_)
      clear hK' K'
      refine wpAnyH_take (i := 10) (v := ?v10_7) rfl (by kernel_rfl) (by kernel_rfl) (by kernel_rfl) (fun _ _ _ h => h) (Or.inl ⟨by rfl, ?y10_7⟩) hS ?r10_7
      case y10_7 =>
        rintro W hH
        go_simp
        with_reducible rfl
      simp only [Act.put]
      try simp only [List.getElem_toArray, List.getElem_cons_succ, List.getElem_cons_zero]
      try simp only [List.setIfInBounds_toArray, List.set_cons_succ, List.set_cons_zero]
      refine wpAnyH_ready (rs := [11]) (by kernel_rfl) (by simp) ?_
      refine AllReadyH.cons rfl (fun K' hK' => ?_) AllReadyH.nil
      go_simp
      have hSs : Below w.heap.size w (wa.setCell ⟨w.heap.size + 1 + 1, 3, none⟩ (.slice (some ⟨gg, 0, none⟩) (k + 1) cc)) := hSa.setCell (p := ⟨w.heap.size + 1 + 1, 3, none⟩) (by show w.heap.size ≤ w.heap.size + 1 + 1; omega) _
      clear hS
      refine hK'.out _ _ hSs (fun hS => ?_)
      clear hK' K'
      refine wpAnyH_done (by kernel_rfl) ?_ _
      go_wp2_with fail
      go_roundw
      case rel => exact ⟨k + 1, (.slice (some ⟨gg, 0, none⟩) (k + 1) cc), by omega, by go_num, hRa.set 3 _, by rw [HSN.out, List.map_append]; exact ho2, hPa.far (p := ⟨w.heap.size + 1 + 1, 3, none⟩) (by show w.heap.size ≠ w.heap.size + 1 + 1; omega) _, hOa.far (p := ⟨w.heap.size + 1 + 1, 3, none⟩) (by show w.heap.size + 1 ≠ w.heap.size + 1 + 1; omega) _, hSs, by show w2.heap.size ≤ _; rw [World.size_setCell]; exact hgea⟩
      case measure => simp [intOf]; omega
    · skip
      go_simp
      refine (HAT.out wd hbdw).mono ?_
      rintro e wc ⟨rfl, mc, hwc⟩
      have hbc : Below wd.heap.size wd wc := by rw [hwc]; exact below_drewN (Below.refl _ _) _
      have hzc1 : wc.heap.size ≤ wd.heap.size := by rw [hwc]; exact Nat.le_refl _
      have hzc2 : wd.heap.size ≤ wc.heap.size := by rw [hwc]; exact Nat.le_refl _
      have hrowc := own_up hrowd hbc
      have hRc := hRwd.below hbc hRwd.lt
      have hrvc := hRc.cell 3
      have hrvc' : wc.cell? ⟨w.heap.size + 1 + 1, 3, none⟩ = some v := hrvc
      have hPc := hPwd.below hbc hPwd.lt
      have hOc := hOwd.below hbc hOwd.lt
      have hzRc := hRc.lt
      have hSc : Below w.heap.size w wc := hbdw.trans (hbc.mono hbdw.size)
      clear hwc
      go_simp
      refine hK'.out _ _ hSc (fun hS => ?_)
      clear hK' K'
      refine wpAnyH_take (i := 7) (v := ?v7_8) rfl (by kernel_rfl) (by kernel_rfl) (by kernel_rfl) (fun _ _ _ h => h) (Or.inl ⟨by rfl, ?y7_8⟩) hS ?r7_8
      case y7_8 =>
        rintro W hH
        go_simp
        with_reducible rfl
      simp only [Act.put]
      try simp only [List.getElem_toArray, List.getElem_cons_succ, List.getElem_cons_zero]
      try simp only [List.setIfInBounds_toArray, List.set_cons_succ, List.set_cons_zero]
      refine wpAnyH_ready (rs := [1, 8]) (by kernel_rfl) (by simp) ?_
      refine AllReadyH.cons rfl (fun K' hK' => ?_) (AllReadyH.cons rfl (fun K' hK' => ?_) AllReadyH.nil)
      · skip
        go_simp
        refine hK'.out _ _ hS (fun hS => ?_)
        clear hK' K'
        refine wpAnyH_ready (rs := [8]) (by kernel_rfl) (by simp) ?_
        refine AllReadyH.cons rfl (fun K' hK' => ?_) AllReadyH.nil
        go_simp
        have hzX : w2.heap.size ≤ wc.heap.size := by omega
        refine hK'.out _ _ (hS.alloc hS.size _) (fun hS => ?_)
        clear hK' K'
        refine wpAnyH_ready (rs := [9]) (by kernel_rfl) (by simp) ?_
        refine AllReadyH.cons rfl (fun K' hK' => ?_) AllReadyH.nil
        refine step_append_lies _ (by rfl) _ _ _ (by rfl) w2.heap.size 54 i0 (.int .u16 0) 1 2 Tryd.underlying23 hi hz0 hz1' hz2' rfl (by decide) v k _ (by rfl) (hrowc.alloc (.cells #[.int .u16 X] 54)) ⟨wc.heap.size, 0, none⟩ 1 1 [.int .u16 X] (by rfl) (by rfl) (World.news_of_block (cs := #[.int .u16 X]) (t := 54) (fr := (0, 0)) (heap_alloc_new wc _)) (by simp [Value.oneCell']) (by omega) (by unfold maxLen; omega) (by omega) (by simp; omega) (wc.heap.size + 1) (by simp) ?_
        intro gg cc wa own' hgr hat hlt2
        have hne : ∀ B, B < w2.heap.size → some B ≠ v.ownBlock := fun B hB e => by have := (hrowc.lt B e.symm).1; omega
        have hRa : Held wa (w.heap.size + 1 + 1) 34 #[.int .i64 fn, .int .i64 0, .slice none 0 0, v] := (hRc.alloc _).kept hgr (hne _ (by omega))
        have hPa : Held wa w.heap.size 25 #[.int .i64 fn, .int .i64 addr, .int .i64 count, .int .i64 to, .slice A nb cb, .slice R nr cr] := (hPc.alloc _).kept hgr (hne _ (by omega))
        have hOa : Held wa (w.heap.size + 1) 34 #[.int .i64 0, .int .i64 0, .slice none 0 0, .slice none 0 0] := (hOc.alloc _).kept hgr (hne _ (by omega))
        have hSa : Below w.heap.size w wa := hS.grown hgr (by rw [World.size_alloc]; omega) (fun B hB => by have := (hrowc.lt B hB).1; omega)
        have hra : wa.cell? ⟨w.heap.size + 1 + 1, 3, none⟩ = some v := hRa.cell 3
        have hfa := hRa.frozen
        have hga := own'.lt gg rfl
        have hgea : w2.heap.size ≤ wa.heap.size := by omega
        have ho2 := own_off own' (B := w.heap.size + 1 + 1) (by omega) 3 (.slice (some ⟨gg, 0, none⟩) (k + 1) cc)
        clear hS hgr hat
        refine hK'.out _ _ hSa (fun hS => ?_)
        clear hK' K'
        refine wpAnyH_take (i := 10) (v := ?v10_9) rfl (by kernel_rfl) (by kernel_rfl) (by kernel_rfl) (fun _ _ _ h => h) (Or.inl ⟨by rfl, ?y10_9⟩) hS ?r10_9
        case y10_9 =>
          rintro W hH
          go_simp
          with_reducible rfl
        simp only [Act.put]
        try simp only [List.getElem_toArray, List.getElem_cons_succ, List.getElem_cons_zero]
        try simp only [List.setIfInBounds_toArray, List.set_cons_succ, List.set_cons_zero]
        refine wpAnyH_ready (rs := [11]) (by kernel_rfl) (by simp) ?_
        refine AllReadyH.cons rfl (fun K' hK' => ?_) AllReadyH.nil
        go_simp
        have hSs : Below w.heap.size w (wa.setCell ⟨w.heap.size + 1 + 1, 3, none⟩ (.slice (some ⟨gg, 0, none⟩) (k + 1) cc)) := hSa.setCell (p := ⟨w.heap.size + 1 + 1, 3, none⟩) (by show w.heap.size ≤ w.heap.size + 1 + 1; omega) _
        clear hS
        refine hK'.out _ _ hSs (fun hS => ?_)
        clear hK' K'
        refine wpAnyH_done (by kernel_rfl) ?_ _
        go_wp2_with fail
        go_roundw
        case rel => exact ⟨k + 1, (.slice (some ⟨gg, 0, none⟩) (k + 1) cc), by omega, by go_num, hRa.set 3 _, by rw [HSN.out, List.map_append]; exact ho2, hPa.far (p := ⟨w.heap.size + 1 + 1, 3, none⟩) (by show w.heap.size ≠ w.heap.size + 1 + 1; omega) _, hOa.far (p := ⟨w.heap.size + 1 + 1, 3, none⟩) (by show w.heap.size + 1 ≠ w.heap.size + 1 + 1; omega) _, hSs, by show w2.heap.size ≤ _; rw [World.size_setCell]; exact hgea⟩
        case measure => simp [intOf]; omega
      · skip
        go_simp
        have hzX : w2.heap.size ≤ wc.heap.size := by omega
        refine hK'.out _ _ (hS.alloc hS.size _) (fun hS => ?_)
        clear hK' K'
        refine wpAnyH_ready (rs := [1]) (by kernel_rfl) (by simp) ?_
        refine AllReadyH.cons rfl (fun K' hK' => ?_) AllReadyH.nil
        go_simp
        refine hK'.out _ _ hS (fun hS => ?_)
        clear hK' K'
        refine wpAnyH_ready (rs := [9]) (by kernel_rfl) (by simp) ?_
        refine AllReadyH.cons rfl (fun K' hK' => ?_) AllReadyH.nil
        refine step_append_lies _ (by rfl) _ _ _ (by rfl) w2.heap.size 54 i0 (.int .u16 0) 1 2 Tryd.underlying23 hi hz0 hz1' hz2' rfl (by decide) v k _ (by rfl) (hrowc.alloc (.cells #[.int .u16 X] 54)) ⟨wc.heap.size, 0, none⟩ 1 1 [.int .u16 X] (by rfl) (by rfl) (World.news_of_block (cs := #[.int .u16 X]) (t := 54) (fr := (0, 0)) (heap_alloc_new wc _)) (by simp [Value.oneCell']) (by omega) (by unfold maxLen; omega) (by omega) (by simp; omega) (wc.heap.size + 1) (by simp) ?_
        intro gg cc wa own' hgr hat hlt2
        have hne : ∀ B, B < w2.heap.size → some B ≠ v.ownBlock := fun B hB e => by have := (hrowc.lt B e.symm).1; omega
        have hRa : Held wa (w.heap.size + 1 + 1) 34 #[.int .i64 fn, .int .i64 0, .slice none 0 0, v] := (hRc.alloc _).kept hgr (hne _ (by omega))
        have hPa : Held wa w.heap.size 25 #[.int .i64 fn, .int .i64 addr, .int .i64 count, .int .i64 to, .slice A nb cb, .slice R nr cr] := (hPc.alloc _).kept hgr (hne _ (by omega))
        have hOa : Held wa (w.heap.size + 1) 34 #[.int .i64 0, .int .i64 0, .slice none 0 0, .slice none 0 0] := (hOc.alloc _).kept hgr (hne _ (by omega))
        have hSa : Below w.heap.size w wa := hS.grown hgr (by rw [World.size_alloc]; omega) (fun B hB => by have := (hrowc.lt B hB).1; omega)
        have hra : wa.cell? ⟨w.heap.size + 1 + 1, 3, none⟩ = some v := hRa.cell 3
        have hfa := hRa.frozen
        have hga := own'.lt gg rfl
        have hgea : w2.heap.size ≤ wa.heap.size := by omega
        have ho2 := own_off own' (B := w.heap.size + 1 + 1) (by omega) 3 (.slice (some ⟨gg, 0, none⟩) (k + 1) cc)
        clear hS hgr hat
        refine hK'.out _ _ hSa (fun hS => ?_)
        clear hK' K'
        refine wpAnyH_take (i := 10) (v := ?v10_10) rfl (by kernel_rfl) (by kernel_rfl) (by kernel_rfl) (fun _ _ _ h => h) (Or.inl ⟨by rfl, ?y10_10⟩) hS ?r10_10
        case y10_10 =>
          rintro W hH
          go_simp
          with_reducible rfl
        simp only [Act.put]
        try simp only [List.getElem_toArray, List.getElem_cons_succ, List.getElem_cons_zero]
        try simp only [List.setIfInBounds_toArray, List.set_cons_succ, List.set_cons_zero]
        refine wpAnyH_ready (rs := [11]) (by kernel_rfl) (by simp) ?_
        refine AllReadyH.cons rfl (fun K' hK' => ?_) AllReadyH.nil
        go_simp
        have hSs : Below w.heap.size w (wa.setCell ⟨w.heap.size + 1 + 1, 3, none⟩ (.slice (some ⟨gg, 0, none⟩) (k + 1) cc)) := hSa.setCell (p := ⟨w.heap.size + 1 + 1, 3, none⟩) (by show w.heap.size ≤ w.heap.size + 1 + 1; omega) _
        clear hS
        refine hK'.out _ _ hSs (fun hS => ?_)
        clear hK' K'
        refine wpAnyH_done (by kernel_rfl) ?_ _
        go_wp2_with fail
        go_roundw
        case rel => exact ⟨k + 1, (.slice (some ⟨gg, 0, none⟩) (k + 1) cc), by omega, by go_num, hRa.set 3 _, by rw [HSN.out, List.map_append]; exact ho2, hPa.far (p := ⟨w.heap.size + 1 + 1, 3, none⟩) (by show w.heap.size ≠ w.heap.size + 1 + 1; omega) _, hOa.far (p := ⟨w.heap.size + 1 + 1, 3, none⟩) (by show w.heap.size + 1 ≠ w.heap.size + 1 + 1; omega) _, hSs, by show w2.heap.size ≤ _; rw [World.size_setCell]; exact hgea⟩
        case measure => simp [intOf]; omega
  · obtain rfl : k = N := by omega
    obtain ⟨Au, cu, rfl, sv⟩ := SlI.of_own (xs := (wordsP (b.drop 2)).take k) hrow
    have ht1 : ¬ 2 * (k : Int) + 3 < (n : Int) := by omega
    go_wp2_with fail
    have htk : (wordsP (b.drop 2)).take k = wordsP (b.drop 2) := List.take_of_length_le (by rw [wordsP_len, List.length_drop, HL.out]; omega)
    rw [htk] at sv
    have HAN := Lib.hid (answer_ref (.agg #[.int .i64 fn, .int .i64 addr, .int .i64 count, .int .i64 to, .slice A nb cb, .slice R nr cr]) (.agg #[.int .i64 fn, .int .i64 0, .slice none 0 0, .slice Au k cu]) ⟨fn, addr, count, to, bs, regs⟩ (⟨fn, 0, [], wordsP (b.drop 2)⟩ : RepP) wr ⟨A, nb, cb, R, nr, cr, rfl, HA.out wr hbwrw, HR.out wr hbwrw⟩ ⟨none, 0, 0, Au, k, cu, rfl, SlB.nil _ _, sv⟩ hy (wordsP_reg (fun x hx => hb8 x (List.mem_of_mem_drop hx))))
    go_wp2_with (first | ((with_reducible refine at_loadT 25 2 ?_); refine wpList_load_rowG rfl 25 (.tmp 2) rfl w.heap.size rfl 25 _ _ hPwr hu rfl hsz ?_) | ((with_reducible refine at_loadT 34 6 ?_); refine wpList_load_rowG rfl 34 (.tmp 6) rfl (w.heap.size + 1 + 1) rfl 34 _ _ hRwr hu4 rfl hsz4 ?_))
    refine HAN.out.mono ?_
    rintro e wq ⟨Aq, nq, cq, rfl, sq, hbq⟩
    have hbqw := hbwrw.trans (hbq.mono hbwrw.size)
    have hPwq := hPwr.below hbq hPwr.lt
    have hOwq := hOwr.below hbq hOwr.lt
    have hRwq := hRwr.below hbq hRwr.lt
    have pwq0 : wq.cell? ⟨w.heap.size, 0, none⟩ = some (.int .i64 fn) := hPwq.cell 0
    have pwq1 : wq.cell? ⟨w.heap.size, 1, none⟩ = some (.int .i64 addr) := hPwq.cell 1
    have pwq2 : wq.cell? ⟨w.heap.size, 2, none⟩ = some (.int .i64 count) := hPwq.cell 2
    have pwq3 : wq.cell? ⟨w.heap.size, 3, none⟩ = some (.int .i64 to) := hPwq.cell 3
    have pwq4 : wq.cell? ⟨w.heap.size, 4, none⟩ = some (.slice A nb cb) := hPwq.cell 4
    have pwq5 : wq.cell? ⟨w.heap.size, 5, none⟩ = some (.slice R nr cr) := hPwq.cell 5
    have owq0 : wq.cell? ⟨w.heap.size + 1, 0, none⟩ = some (.int .i64 0) := hOwq.cell 0
    have owq1 : wq.cell? ⟨w.heap.size + 1, 1, none⟩ = some (.int .i64 0) := hOwq.cell 1
    have owq2 : wq.cell? ⟨w.heap.size + 1, 2, none⟩ = some (.slice none 0 0) := hOwq.cell 2
    have owq3 : wq.cell? ⟨w.heap.size + 1, 3, none⟩ = some (.slice none 0 0) := hOwq.cell 3
    have rwq0 : wq.cell? ⟨w.heap.size + 1 + 1, 0, none⟩ = some (.int .i64 fn) := hRwq.cell 0
    have rwq1 : wq.cell? ⟨w.heap.size + 1 + 1, 1, none⟩ = some (.int .i64 0) := hRwq.cell 1
    have rwq2 : wq.cell? ⟨w.heap.size + 1 + 1, 2, none⟩ = some (.slice none 0 0) := hRwq.cell 2
    have rwq3 : wq.cell? ⟨w.heap.size + 1 + 1, 3, none⟩ = some (.slice Au k cu) := hRwq.cell 3
    have fowq := hOwq.frozen
    have frwq := hRwq.frozen
    have zPwq := hPwq.lt
    have zOwq := hOwq.lt
    have zRwq := hRwq.lt
    have hbwqw := hbqw
    cases han : answerP ⟨fn, addr, count, to, bs, regs⟩ (⟨fn, 0, [], wordsP (b.drop 2)⟩ : RepP) with
    | none =>
      have hfz : readAnswerP ⟨fn, addr, count, to, bs, regs⟩ b = none := by rw [HF.out, han]; rfl
      have HZ := Lib.hid hfz
      have he : errV (none : Option (List Int)).isSome = 190 := rfl
      rw [he]
      clear han hfz he
      go_wp2_with fail
      obtain ⟨wz, hwz⟩ : ∃ W, ((((wq.setCell ⟨w.heap.size + 1, 0, none⟩ (.int .i64 0)).setCell ⟨w.heap.size + 1, 1, none⟩ (.int .i64 0)).setCell ⟨w.heap.size + 1, 2, none⟩ (.slice none 0 0)).setCell ⟨w.heap.size + 1, 3, none⟩ (.slice none 0 0)) = W := ⟨_, rfl⟩
      have hZ : Held wz (w.heap.size + 1) 34 #[.int .i64 0, .int .i64 0, .slice none 0 0, .slice none 0 0] := by rw [← hwz]; exact (((hOwq.set 0 _).set 1 _).set 2 _).set 3 _
      have hbz : Below w.heap.size w wz := by rw [← hwz]; exact ((((hbwqw.setCell (p := ⟨w.heap.size + 1, 0, none⟩) (by simp) _).setCell (p := ⟨w.heap.size + 1, 1, none⟩) (by simp) _).setCell (p := ⟨w.heap.size + 1, 2, none⟩) (by simp) _).setCell (p := ⟨w.heap.size + 1, 3, none⟩) (by simp) _)
      have hoff : OffB wq wz (w.heap.size + 1) := by rw [← hwz]; exact ((((OffB.refl _ _).set 0 _).set 1 _).set 2 _).set 3 _
      have z0 : wz.cell? ⟨w.heap.size + 1, 0, none⟩ = some (.int .i64 0) := hZ.cell 0
      have z1 : wz.cell? ⟨w.heap.size + 1, 1, none⟩ = some (.int .i64 0) := hZ.cell 1
      have z2 : wz.cell? ⟨w.heap.size + 1, 2, none⟩ = some (.slice none 0 0) := hZ.cell 2
      have z3 : wz.cell? ⟨w.heap.size + 1, 3, none⟩ = some (.slice none 0 0) := hZ.cell 3
      rw [hwz]
      exact bodyPost_ret (v := .tuple #[.agg #[.int .i64 0, .int .i64 0, .slice none 0 0, .slice none 0 0], .int .i64 190]) (by simp [results, Tryd.results16, go_sem, z0, z1, z2, z3]) rfl (ra_none (HZ.out) hbz)
    | some x =>
      have he : errV (some x : Option (List Int)).isSome = 0 := rfl
      rw [he]
      rw [han] at sq
      have hx8 : Byte8 x := (reply_read _ _ x (wordsP_reg (fun x hx => hb8 x (List.mem_of_mem_drop hx))) hy han).2.2.2.1
      have k1 := conv_sli sq
      have k2 := conv_sli (HB.out wq hbqw)
      have hst := str_eq x b hx8 hb8
      obtain ⟨S1, hS1⟩ : ∃ S, strOfNums x = S := ⟨_, rfl⟩
      obtain ⟨S2, hS2⟩ : ∃ S, strOfNums b = S := ⟨_, rfl⟩
      simp only [Option.getD_some] at k1
      rw [hS1] at k1
      rw [hS2] at k2
      rw [hS1, hS2] at hst
      clear hS1 hS2
      by_cases hxb : x = b
      · have hfz : readAnswerP ⟨fn, addr, count, to, bs, regs⟩ b = some (⟨fn, 0, [], wordsP (b.drop 2)⟩ : RepP) := by rw [HF.out, han, if_pos (by rw [hxb])]
        have HZ := Lib.hid hfz
        rw [decide_eq_true hxb] at hst
        clear han hfz he hxb sq hx8
        go_wp2_with fail
        obtain ⟨wz, hwz⟩ : ∃ W, ((((wq.setCell ⟨w.heap.size + 1, 0, none⟩ (.int .i64 fn)).setCell ⟨w.heap.size + 1, 1, none⟩ (.int .i64 0)).setCell ⟨w.heap.size + 1, 2, none⟩ (.slice none 0 0)).setCell ⟨w.heap.size + 1, 3, none⟩ (.slice Au k cu)) = W := ⟨_, rfl⟩
        have hZ : Held wz (w.heap.size + 1) 34 #[.int .i64 fn, .int .i64 0, .slice none 0 0, .slice Au k cu] := by rw [← hwz]; exact (((hOwq.set 0 _).set 1 _).set 2 _).set 3 _
        have hbz : Below w.heap.size w wz := by rw [← hwz]; exact ((((hbwqw.setCell (p := ⟨w.heap.size + 1, 0, none⟩) (by simp) _).setCell (p := ⟨w.heap.size + 1, 1, none⟩) (by simp) _).setCell (p := ⟨w.heap.size + 1, 2, none⟩) (by simp) _).setCell (p := ⟨w.heap.size + 1, 3, none⟩) (by simp) _)
        have hoff : OffB wq wz (w.heap.size + 1) := by rw [← hwz]; exact ((((OffB.refl _ _).set 0 _).set 1 _).set 2 _).set 3 _
        have z0 : wz.cell? ⟨w.heap.size + 1, 0, none⟩ = some (.int .i64 fn) := hZ.cell 0
        have z1 : wz.cell? ⟨w.heap.size + 1, 1, none⟩ = some (.int .i64 0) := hZ.cell 1
        have z2 : wz.cell? ⟨w.heap.size + 1, 2, none⟩ = some (.slice none 0 0) := hZ.cell 2
        have z3 : wz.cell? ⟨w.heap.size + 1, 3, none⟩ = some (.slice Au k cu) := hZ.cell 3
        rw [hwz]
        exact bodyPost_ret (v := .tuple #[.agg #[.int .i64 fn, .int .i64 0, .slice none 0 0, .slice Au k cu], .int .i64 0]) (by simp [results, Tryd.results16, go_sem, z0, z1, z2, z3]) rfl (ra_some HZ.out ⟨none, 0, 0, Au, k, cu, rfl, SlB.nil _ _, (sv.up hbq).off hoff hOwq (by intro v hv x e; subst e; simp at hv)⟩ hbz)
      · have hfz : readAnswerP ⟨fn, addr, count, to, bs, regs⟩ b = none := by rw [HF.out, han, if_neg (by simpa using hxb)]
        have HZ := Lib.hid hfz
        rw [decide_eq_false hxb] at hst
        clear han hfz he hxb sq hx8
        go_wp2_with fail
        obtain ⟨wz, hwz⟩ : ∃ W, ((((wq.setCell ⟨w.heap.size + 1, 0, none⟩ (.int .i64 0)).setCell ⟨w.heap.size + 1, 1, none⟩ (.int .i64 0)).setCell ⟨w.heap.size + 1, 2, none⟩ (.slice none 0 0)).setCell ⟨w.heap.size + 1, 3, none⟩ (.slice none 0 0)) = W := ⟨_, rfl⟩
        have hZ : Held wz (w.heap.size + 1) 34 #[.int .i64 0, .int .i64 0, .slice none 0 0, .slice none 0 0] := by rw [← hwz]; exact (((hOwq.set 0 _).set 1 _).set 2 _).set 3 _
        have hbz : Below w.heap.size w wz := by rw [← hwz]; exact ((((hbwqw.setCell (p := ⟨w.heap.size + 1, 0, none⟩) (by simp) _).setCell (p := ⟨w.heap.size + 1, 1, none⟩) (by simp) _).setCell (p := ⟨w.heap.size + 1, 2, none⟩) (by simp) _).setCell (p := ⟨w.heap.size + 1, 3, none⟩) (by simp) _)
        have hoff : OffB wq wz (w.heap.size + 1) := by rw [← hwz]; exact ((((OffB.refl _ _).set 0 _).set 1 _).set 2 _).set 3 _
        have z0 : wz.cell? ⟨w.heap.size + 1, 0, none⟩ = some (.int .i64 0) := hZ.cell 0
        have z1 : wz.cell? ⟨w.heap.size + 1, 1, none⟩ = some (.int .i64 0) := hZ.cell 1
        have z2 : wz.cell? ⟨w.heap.size + 1, 2, none⟩ = some (.slice none 0 0) := hZ.cell 2
        have z3 : wz.cell? ⟨w.heap.size + 1, 3, none⟩ = some (.slice none 0 0) := hZ.cell 3
        rw [hwz]
        exact bodyPost_ret (v := .tuple #[.agg #[.int .i64 0, .int .i64 0, .slice none 0 0, .slice none 0 0], .int .i64 190]) (by simp [results, Tryd.results16, go_sem, z0, z1, z2, z3]) rfl (ra_none (HZ.out) hbz)
end Go.Proofs.YtflbiichdjhaeaaDoor
namespace Go.Proofs.YtflbiichdjhaeaaDoor
open Go.RowKit
set_option linter.unusedVariables false

set_option maxRecDepth 100000 in
set_option maxHeartbeats 2000000 in
theorem rr3t (fn addr count to : Int) (bs : List Bool) (regs : List Int) (A : Option Addr) (nb cb : Nat) (R : Option Addr) (nr cr : Nat) (g off n c : Nat) (b : List Int) (w : World) (hA : SlB w w.heap.size A nb cb bs) (hR : SlI w w.heap.size .u16 R nr cr regs) (hy : Reg16 regs) (hB : SlI w w.heap.size .u8 (some ⟨g, off, none⟩) n c b) (hb8 : Byte8 b) (hn : n ≤ 1000) (hn2 : 2 ≤ n) (x0 : Int) (hx0 : b[0]? = some x0) (hm : mayP ⟨fn, addr, count, to, bs, regs⟩ = true) (hc1 : 0 < count) (N : Nat) (hN1 : 2 * N + 2 ≤ n) (hN2 : n ≤ 2 * N + 3) (hfin : readAnswerP ⟨fn, addr, count, to, bs, regs⟩ b = if answerP ⟨fn, addr, count, to, bs, regs⟩ (⟨fn, 0, [], wordsP (b.drop 2)⟩ : RepP) = some b then some (⟨fn, 0, [], wordsP (b.drop 2)⟩ : RepP) else none) (ht : x0 < 128) (h2 : ¬ fn < 3) (h3 : (fn == 3) = false) (h4 : (fn == 4) = false) (h23 : (fn == 23) = true) : Calls Tryd.prog 16 #[.agg #[.int .i64 fn, .int .i64 addr, .int .i64 count, .int .i64 to, .slice A nb cb, .slice R nr cr], .slice (some ⟨g, off, none⟩) n c] w (RaPost w ⟨fn, addr, count, to, bs, regs⟩ b) := by
  obtain ⟨w1, hw1⟩ : ∃ w1, ((w.alloc (.cells #[.int .i64 fn, .int .i64 addr, .int .i64 count, .int .i64 to, .slice A nb cb, .slice R nr cr] 25)).alloc (.cells #[.int .i64 0, .int .i64 0, .slice none 0 0, .slice none 0 0] 34)).alloc (.cells #[.int .i64 fn, .int .i64 0, .slice none 0 0, .slice none 0 0] 34) = w1 := ⟨_, rfl⟩
  have hb1 : Below w.heap.size w w1 := by rw [← hw1]; exact (((Below.refl _ w).alloc (Nat.le_refl _) _).alloc (by simp) _).alloc (by simp; omega) _
  have hz1 : w1.heap.size = w.heap.size + 3 := by rw [← hw1]; simp
  have hP1 : Held w1 w.heap.size 25 #[.int .i64 fn, .int .i64 addr, .int .i64 count, .int .i64 to, .slice A nb cb, .slice R nr cr] := by rw [← hw1]; exact ((Held.new w _ _).alloc _).alloc _
  have hO1 : Held w1 (w.heap.size + 1) 34 #[.int .i64 0, .int .i64 0, .slice none 0 0, .slice none 0 0] := by rw [← hw1]; have := Held.new (w.alloc (.cells #[.int .i64 fn, .int .i64 addr, .int .i64 count, .int .i64 to, .slice A nb cb, .slice R nr cr] 25)) 34 #[.int .i64 0, .int .i64 0, .slice none 0 0, .slice none 0 0]; rw [World.size_alloc] at this; exact this.alloc _
  have hR1 : Held w1 (w.heap.size + 1 + 1) 34 #[.int .i64 fn, .int .i64 0, .slice none 0 0, .slice none 0 0] := by rw [← hw1]; have := Held.new ((w.alloc (.cells #[.int .i64 fn, .int .i64 addr, .int .i64 count, .int .i64 to, .slice A nb cb, .slice R nr cr] 25)).alloc (.cells #[.int .i64 0, .int .i64 0, .slice none 0 0, .slice none 0 0] 34)) 34 #[.int .i64 fn, .int .i64 0, .slice none 0 0, .slice none 0 0]; rw [World.size_alloc, World.size_alloc] at this; exact this
  have hu := Tryd.underlying25
  have hsz : (Tryd.prog.info? 25).map (·.size) = some 6 := by kernel_rfl
  have hu4 := Tryd.underlying34
  have hsz4 : (Tryd.prog.info? 34).map (·.size) = some 4 := by kernel_rfl
  have HA := Lib.hid (fun (X : World) (h : Below w.heap.size w X) => hA.up h)
  have HR := Lib.hid (fun (X : World) (h : Below w.heap.size w X) => hR.up h)
  have HB := Lib.hid (fun (X : World) (h : Below w.heap.size w X) => hB.up h)
  have HW1 := Lib.hid hw1
  clear hw1
  have HL := Lib.hid hB.1
  have HCP := Lib.hid hB.2.1
  have hn2' : ¬ (n : Int) < 2 := by omega
  have hn0 : 0 < n := by omega
  obtain ⟨x00, x01⟩ := hb8 x0 (List.mem_of_getElem? hx0)
  have hmy := may_any (.agg #[.int .i64 fn, .int .i64 addr, .int .i64 count, .int .i64 to, .slice A nb cb, .slice R nr cr]) ⟨fn, addr, count, to, bs, regs⟩ w1 ⟨A, nb, cb, R, nr, cr, rfl, hA.up hb1, hR.up hb1⟩
  rw [hm] at hmy
  have HM := Lib.hid hmy
  clear hmy
  have HF : Hid (readAnswerP ⟨fn, addr, count, to, bs, regs⟩ b = if answerP ⟨fn, addr, count, to, bs, regs⟩ (⟨fn, 0, [], wordsP (b.drop 2)⟩ : RepP) = some b then some (⟨fn, 0, [], wordsP (b.drop 2)⟩ : RepP) else none) := Lib.hid hfin
  clear hfin hm
  have HX0 := Lib.hid hx0
  clear hx0
  have hnc : (n : Int) ≤ (c : Int) := by have := HCP.out; omega
  obtain ⟨AD, hAD⟩ : ∃ X, (if c = 2 then some (⟨g, off, none⟩ : Addr) else some ⟨g, off + 2, none⟩) = X := ⟨_, rfl⟩
  clear hA hR hB
  go_in
  go_upto_region 2 with (fail)
  rw [HW1.out]
  go_wp2_with ((with_reducible refine at_loadT 25 2 ?_); refine wpList_load_rowG rfl 25 (.tmp 2) rfl w.heap.size rfl 25 _ _ hP1 hu rfl hsz ?_)
  refine HM.out.mono ?_
  rintro e w2 ⟨rfl, hb2⟩
  have hb2w := hb1.trans (hb2.mono hb1.size)
  have hPw2 := hP1.below hb2 hP1.lt
  have hOw2 := hO1.below hb2 hO1.lt
  have hRw2 := hR1.below hb2 hR1.lt
  have hbw2w := hb2w
  clear hP1 hO1 hR1 hb2 HW1
  have pw20 : w2.cell? ⟨w.heap.size, 0, none⟩ = some (.int .i64 fn) := hPw2.cell 0
  have pw21 : w2.cell? ⟨w.heap.size, 1, none⟩ = some (.int .i64 addr) := hPw2.cell 1
  have pw22 : w2.cell? ⟨w.heap.size, 2, none⟩ = some (.int .i64 count) := hPw2.cell 2
  have pw23 : w2.cell? ⟨w.heap.size, 3, none⟩ = some (.int .i64 to) := hPw2.cell 3
  have pw24 : w2.cell? ⟨w.heap.size, 4, none⟩ = some (.slice A nb cb) := hPw2.cell 4
  have pw25 : w2.cell? ⟨w.heap.size, 5, none⟩ = some (.slice R nr cr) := hPw2.cell 5
  have ow20 : w2.cell? ⟨w.heap.size + 1, 0, none⟩ = some (.int .i64 0) := hOw2.cell 0
  have ow21 : w2.cell? ⟨w.heap.size + 1, 1, none⟩ = some (.int .i64 0) := hOw2.cell 1
  have ow22 : w2.cell? ⟨w.heap.size + 1, 2, none⟩ = some (.slice none 0 0) := hOw2.cell 2
  have ow23 : w2.cell? ⟨w.heap.size + 1, 3, none⟩ = some (.slice none 0 0) := hOw2.cell 3
  have rw20 : w2.cell? ⟨w.heap.size + 1 + 1, 0, none⟩ = some (.int .i64 fn) := hRw2.cell 0
  have rw21 : w2.cell? ⟨w.heap.size + 1 + 1, 1, none⟩ = some (.int .i64 0) := hRw2.cell 1
  have rw22 : w2.cell? ⟨w.heap.size + 1 + 1, 2, none⟩ = some (.slice none 0 0) := hRw2.cell 2
  have rw23 : w2.cell? ⟨w.heap.size + 1 + 1, 3, none⟩ = some (.slice none 0 0) := hRw2.cell 3
  have fow2 := hOw2.frozen
  have frw2 := hRw2.frozen
  have zPw2 := hPw2.lt
  have zOw2 := hOw2.lt
  have zRw2 := hRw2.lt
  have hc0 : w2.cell? ⟨g, off, none⟩ = some (.int .u8 x0) := by
    obtain ⟨g', o', e, hlt, hc⟩ := (HB.out w2 hb2w).2.2.2.2 (by rw [HL.out]; omega)
    injection e with e
    injection e with e1 e2
    subst e1 e2
    exact hc 0 x0 HX0.out
  have HD : Hid (∀ X, Below w.heap.size w X → RdI X X.heap.size .u8 AD (b.drop 2)) := Lib.hid (fun X h => by
    rw [← hAD]
    split
    · rename_i hc2
      have h1 := HL.out
      have h2 := HCP.out
      rw [List.drop_eq_nil_of_le (by omega)]
      exact RdI.nil
    · exact (HB.out X h).2.2.2.2.drop 2 _ (fun g' o' e _ => by injection e with e; injection e with e1 e2; subst e1 e2; rfl))
  obtain ⟨i0, hi, hz0, hz1', hz2'⟩ := info_parts infoW
  go_wp2_with fail
  refine wp_loop_rounds 1 ?_
  rw [rounds_succ]
  go_wp2_with fail
  go_loopw [8] (fun u wx => ∃ (k : Nat) (v : Value), k ≤ N ∧ u = .int .i64 (k : Int) ∧ Held wx (w.heap.size + 1 + 1) 34 #[.int .i64 fn, .int .i64 0, .slice none 0 0, v] ∧ wx.ownsRow w2.heap.size 54 1 v k (((wordsP (b.drop 2)).take k).map (Value.int .u16)) ∧ Held wx w.heap.size 25 #[.int .i64 fn, .int .i64 addr, .int .i64 count, .int .i64 to, .slice A nb cb, .slice R nr cr] ∧ Held wx (w.heap.size + 1) 34 #[.int .i64 0, .int .i64 0, .slice none 0 0, .slice none 0 0] ∧ Below w.heap.size w wx ∧ w2.heap.size ≤ wx.heap.size) (fun u _ => N - (intOf u).toNat)
  case atStart => exact ⟨0, .slice none 0 0, by omega, rfl, hRw2, World.ownsRow_nil _ _ _ _, hPw2, hOw2, hb2w, Nat.le_refl _⟩
  case round =>
  obtain ⟨k, v, hk, rfl, hRwr, hrow, hPwr, hOwr, hbwr, hge⟩ := hrel
  have hbwrw := hbwr
  have hzw2 := hb2w.size
  clear pw20 pw21 pw22 pw23 pw24 pw25 ow20 ow21 ow22 ow23 rw20 rw21 rw22 rw23 fow2 frw2
  have pwr0 : wr.cell? ⟨w.heap.size, 0, none⟩ = some (.int .i64 fn) := hPwr.cell 0
  have pwr1 : wr.cell? ⟨w.heap.size, 1, none⟩ = some (.int .i64 addr) := hPwr.cell 1
  have pwr2 : wr.cell? ⟨w.heap.size, 2, none⟩ = some (.int .i64 count) := hPwr.cell 2
  have pwr3 : wr.cell? ⟨w.heap.size, 3, none⟩ = some (.int .i64 to) := hPwr.cell 3
  have pwr4 : wr.cell? ⟨w.heap.size, 4, none⟩ = some (.slice A nb cb) := hPwr.cell 4
  have pwr5 : wr.cell? ⟨w.heap.size, 5, none⟩ = some (.slice R nr cr) := hPwr.cell 5
  have owr0 : wr.cell? ⟨w.heap.size + 1, 0, none⟩ = some (.int .i64 0) := hOwr.cell 0
  have owr1 : wr.cell? ⟨w.heap.size + 1, 1, none⟩ = some (.int .i64 0) := hOwr.cell 1
  have owr2 : wr.cell? ⟨w.heap.size + 1, 2, none⟩ = some (.slice none 0 0) := hOwr.cell 2
  have owr3 : wr.cell? ⟨w.heap.size + 1, 3, none⟩ = some (.slice none 0 0) := hOwr.cell 3
  have rwr0 : wr.cell? ⟨w.heap.size + 1 + 1, 0, none⟩ = some (.int .i64 fn) := hRwr.cell 0
  have rwr1 : wr.cell? ⟨w.heap.size + 1 + 1, 1, none⟩ = some (.int .i64 0) := hRwr.cell 1
  have rwr2 : wr.cell? ⟨w.heap.size + 1 + 1, 2, none⟩ = some (.slice none 0 0) := hRwr.cell 2
  have rwr3 : wr.cell? ⟨w.heap.size + 1 + 1, 3, none⟩ = some (v) := hRwr.cell 3
  have fowr := hOwr.frozen
  have frwr := hRwr.frozen
  have zPwr := hPwr.lt
  have zOwr := hOwr.lt
  have zRwr := hRwr.lt
  by_cases hlt : k < N
  · skip
    have ht1 : 2 * (k : Int) + 3 < (n : Int) := by omega
    obtain ⟨wd, hwd⟩ : ∃ wd : World, wr.drew = wd := ⟨_, rfl⟩
    have hb0 : Below wr.heap.size wr wd := by rw [← hwd]; exact (Below.refl _ _).drew
    have hbdw : Below w.heap.size w wd := hbwr.trans (hb0.mono hbwr.size)
    have hPwd := hPwr.below hb0 hPwr.lt
    have hOwd := hOwr.below hb0 hOwr.lt
    have hRwd := hRwr.below hb0 hRwr.lt
    have hrowd := own_up hrow hb0
    have hzd1 : wd.heap.size ≤ wr.heap.size := by rw [← hwd]; exact Nat.le_refl _
    have hzd2 : wr.heap.size ≤ wd.heap.size := by rw [← hwd]; exact Nat.le_refl _
    have hrv : wd.cell? ⟨w.heap.size + 1 + 1, 3, none⟩ = some v := hRwd.cell 3
    have hzRd := hRwd.lt
    have hz2d : w2.heap.size ≤ wd.heap.size := by
      omega
    have hat0 := fun (X : World) (h : Below w.heap.size w X) => at_any (some ⟨g, off, none⟩) n c b (2 + 2 * k) (by omega) X (HB.out X h) hb8
    rw [at_drop b k (by rw [HL.out]; omega), show ((2 + 2 * k : Nat) : Int) = 2 + 2 * (k : Int) by omega] at hat0
    obtain ⟨x0w, x1w⟩ := wordP_in (b.drop 2) (fun x hx => hb8 x (List.mem_of_mem_drop hx)) (2 * k) (by rw [List.length_drop, HL.out]; omega)
    have HSN := Lib.hid (words_take (b.drop 2) k (by rw [wordsP_len, List.length_drop, HL.out]; omega))
    obtain ⟨X, hX⟩ : ∃ X, wordP (b.drop 2) (2 * k) = X := ⟨_, rfl⟩
    simp only [hX] at hat0 x0w x1w HSN
    have HAT := Lib.hid hat0
    clear hat0 hX
    have wm1 : IntKind.i64.wrap (2 * (k : Int)) = 2 * (k : Int) := IntWalk.i64_in _ (by omega)
    have wm2 : IntKind.i64.wrap (2 + 2 * (k : Int)) = 2 + 2 * (k : Int) := IntWalk.i64_in _ (by omega)
    have wm3 : IntKind.u16.wrap X = X := IntWalk.u16_in _ (by omega)
    go_wp2_with fail
    refine wp_region_held (S := Below w.heap.size w) (by kernel_rfl) ?_
    change wpAnyH _ _ _ _ _ _ _ _ wr.drew
    rw [hwd]
    have hS : Below w.heap.size w wd := hbdw
    refine wpAnyH_take (i := 0) (v := ?v0_1) rfl (by kernel_rfl) (by kernel_rfl) (by kernel_rfl) (fun _ _ _ h => h) (Or.inl ⟨by rfl, ?y0_1⟩) hS ?r0_1
    case y0_1 =>
      rintro W hH
      go_simp
      with_reducible rfl
    simp only [Act.put]
    try simp only [List.getElem_toArray, List.getElem_cons_zero]
    try simp only [List.setIfInBounds_toArray, List.set_cons_succ, List.set_cons_zero]
    refine wpAnyH_take (i := 2) (v := ?v2_2) rfl (by kernel_rfl) (by kernel_rfl) (by kernel_rfl) (fun _ _ _ h => h) (Or.inl ⟨by rfl, ?y2_2⟩) hS ?r2_2
    case y2_2 =>
      rintro W hH
      go_simp
      with_reducible rfl
    simp only [Act.put]
    try simp only [List.getElem_toArray, List.getElem_cons_succ, List.getElem_cons_zero]
    try simp only [List.setIfInBounds_toArray, List.set_cons_succ, List.set_cons_zero]
    refine wpAnyH_take (i := 3) (v := ?v3_3) rfl (by kernel_rfl) (by kernel_rfl) (by kernel_rfl) (fun _ _ _ h => h) (Or.inl ⟨by rfl, ?y3_3⟩) hS ?r3_3
    case y3_3 =>
      rintro W hH
      go_simp
      with_reducible rfl
    simp only [Act.put]
    try simp only [List.getElem_toArray, List.getElem_cons_succ, List.getElem_cons_zero]
    try simp only [List.setIfInBounds_toArray, List.set_cons_succ, List.set_cons_zero]
    refine wpAnyH_take (i := 4) (v := ?v4_4) rfl (by kernel_rfl) (by kernel_rfl) (by kernel_rfl) (fun _ _ _ h => h) (Or.inl ⟨by rfl, ?y4_4⟩) hS ?r4_4
    case y4_4 =>
      rintro W hH
      go_simp
      with_reducible rfl
    simp only [Act.put]
    try simp only [List.getElem_toArray, List.getElem_cons_succ, List.getElem_cons_zero]
    try simp only [List.setIfInBounds_toArray, List.set_cons_succ, List.set_cons_zero]
    refine wpAnyH_take (i := 5) (v := ?v5_5) rfl (by kernel_rfl) (by kernel_rfl) (by kernel_rfl) (fun _ _ _ h => h) (Or.inl ⟨by rfl, ?y5_5⟩) hS ?r5_5
    case y5_5 =>
      rintro W hH
      go_simp
      with_reducible rfl
    simp only [Act.put]
    try simp only [List.getElem_toArray, List.getElem_cons_succ, List.getElem_cons_zero]
    try simp only [List.setIfInBounds_toArray, List.set_cons_succ, List.set_cons_zero]
    refine wpAnyH_ready (rs := [1, 6]) (by kernel_rfl) (by simp) ?_
    refine AllReadyH.cons rfl (fun K' hK' => ?_) (AllReadyH.cons rfl (fun K' hK' => ?_) AllReadyH.nil)
    · skip
      go_simp
      refine hK'.out _ _ hS (fun hS => ?_)
      clear hK' K'
      refine wpAnyH_ready (rs := [6]) (by kernel_rfl) (by simp) ?_
      refine AllReadyH.cons rfl (fun K' hK' => ?_) AllReadyH.nil
      go_simp
      refine (HAT.out wd hbdw).mono ?_
      rintro e wc ⟨rfl, mc, hwc⟩
      have hbc : Below wd.heap.size wd wc := by rw [hwc]; exact below_drewN (Below.refl _ _) _
      have hzc1 : wc.heap.size ≤ wd.heap.size := by rw [hwc]; exact Nat.le_refl _
      have hzc2 : wd.heap.size ≤ wc.heap.size := by rw [hwc]; exact Nat.le_refl _
      have hrowc := own_up hrowd hbc
      have hRc := hRwd.below hbc hRwd.lt
      have hrvc := hRc.cell 3
      have hrvc' : wc.cell? ⟨w.heap.size + 1 + 1, 3, none⟩ = some v := hrvc
      have hPc := hPwd.below hbc hPwd.lt
      have hOc := hOwd.below hbc hOwd.lt
      have hzRc := hRc.lt
      have hSc : Below w.heap.size w wc := hbdw.trans (hbc.mono hbdw.size)
      clear hwc
      go_simp
      refine hK'.out _ _ hSc (fun hS => ?_)
      clear hK' K'
      refine wpAnyH_take (i := 7) (v := ?v7_6) rfl (by kernel_rfl) (by kernel_rfl) (by kernel_rfl) (fun _ _ _ h => h) (Or.inl ⟨by rfl, ?y7_6⟩) hS ?r7_6
      case y7_6 =>
        rintro W hH
        go_simp
        with_reducible rfl
      simp only [Act.put]
      try simp only [List.getElem_toArray, List.getElem_cons_succ, List.getElem_cons_zero]
      try simp only [List.setIfInBounds_toArray, List.set_cons_succ, List.set_cons_zero]
      refine wpAnyH_ready (rs := [8]) (by kernel_rfl) (by simp) ?_
      refine AllReadyH.cons rfl (fun K' hK' => ?_) AllReadyH.nil
      go_simp
      have hzX : w2.heap.size ≤ wc.heap.size := by omega
      refine hK'.out _ _ (hS.alloc hS.size _) (fun hS => ?_)
      clear hK' K'
      refine wpAnyH_ready (rs := [9]) (by kernel_rfl) (by simp) ?_
      refine AllReadyH.cons rfl (fun K' hK' => ?_) AllReadyH.nil
      refine step_append_lies _ (by rfl) _ _ _ (by rfl) w2.heap.size 54 i0 (.int .u16 0) 1 2 Tryd.underlying23 hi hz0 hz1' hz2' rfl (by decide) v k _ (by rfl) (hrowc.alloc (.cells #[.int .u16 X] 54)) ⟨wc.heap.size, 0, none⟩ 1 1 [.int .u16 X] (by rfl) (by rfl) (World.news_of_block (cs := #[.int .u16 X]) (t := 54) (fr := (0, 0)) (heap_alloc_new wc _)) (by simp [Value.oneCell']) (by omega) (by unfold maxLen; omega) (by omega) (by simp; omega) (wc.heap.size + 1) (by simp) ?_
      intro gg cc wa own' hgr hat hlt2
      have hne : ∀ B, B < w2.heap.size → some B ≠ v.ownBlock := fun B hB e => by have := (hrowc.lt B e.symm).1; omega
      have hRa : Held wa (w.heap.size + 1 + 1) 34 #[.int .i64 fn, .int .i64 0, .slice none 0 0, v] := (hRc.alloc _).kept hgr (hne _ (by omega))
      have hPa : Held wa w.heap.size 25 #[.int .i64 fn, .int .i64 addr, .int .i64 count, .int .i64 to, .slice A nb cb, .slice R nr cr] := (hPc.alloc _).kept hgr (hne _ (by omega))
      have hOa : Held wa (w.heap.size + 1) 34 #[.int .i64 0, .int .i64 0, .slice none 0 0, .slice none 0 0] := (hOc.alloc _).kept hgr (hne _ (by omega))
      have hSa : Below w.heap.size w wa := hS.grown hgr (by rw [World.size_alloc]; omega) (fun B hB => by have := (hrowc.lt B hB).1; omega)
      have hra : wa.cell? ⟨w.heap.size + 1 + 1, 3, none⟩ = some v := hRa.cell 3
      have hfa := hRa.frozen
      have hga := own'.lt gg rfl
      have hgea : w2.heap.size ≤ wa.heap.size := by omega
      have ho2 := own_off own' (B := w.heap.size + 1 + 1) (by omega) 3 (.slice (some ⟨gg, 0, none⟩) (k + 1) cc)
      clear hS hgr hat
      refine hK'.out _ _ hSa (fun hS => ?_)
      clear hK' K'
      refine wpAnyH_take (i := 10) (v := ?v10_7) rfl (by kernel_rfl) (by kernel_rfl) (by kernel_rfl) (fun _ _ _ h => h) (Or.inl ⟨by rfl, ?y10_7⟩) hS ?r10_7
      case y10_7 =>
        rintro W hH
        go_simp
        with_reducible rfl
      simp only [Act.put]
      try simp only [List.getElem_toArray, List.getElem_cons_succ, List.getElem_cons_zero]
      try simp only [List.setIfInBounds_toArray, List.set_cons_succ, List.set_cons_zero]
      refine wpAnyH_ready (rs := [11]) (by kernel_rfl) (by simp) ?_
      refine AllReadyH.cons rfl (fun K' hK' => ?_) AllReadyH.nil
      go_simp
      have hSs : Below w.heap.size w (wa.setCell ⟨w.heap.size + 1 + 1, 3, none⟩ (.slice (some ⟨gg, 0, none⟩) (k + 1) cc)) := hSa.setCell (p := ⟨w.heap.size + 1 + 1, 3, none⟩) (by show w.heap.size ≤ w.heap.size + 1 + 1; omega) _
      clear hS
      refine hK'.out _ _ hSs (fun hS => ?_)
      clear hK' K'
      refine wpAnyH_done (by kernel_rfl) ?_ _
      go_wp2_with fail
      go_roundw
      case rel => exact ⟨k + 1, (.slice (some ⟨gg, 0, none⟩) (k + 1) cc), by omega, by go_num, hRa.set 3 _, by rw [HSN.out, List.map_append]; exact ho2, hPa.far (p := ⟨w.heap.size + 1 + 1, 3, none⟩) (by show w.heap.size ≠ w.heap.size + 1 + 1; omega) _, hOa.far (p := ⟨w.heap.size + 1 + 1, 3, none⟩) (by show w.heap.size + 1 ≠ w.heap.size + 1 + 1; omega) _, hSs, by show w2.heap.size ≤ _; rw [World.size_setCell]; exact hgea⟩
      case measure => simp [intOf]; omega
    · skip
      go_simp
      refine (HAT.out wd hbdw).mono ?_
      rintro e wc ⟨rfl, mc, hwc⟩
      have hbc : Below wd.heap.size wd wc := by rw [hwc]; exact below_drewN (Below.refl _ _) _
      have hzc1 : wc.heap.size ≤ wd.heap.size := by rw [hwc]; exact Nat.le_refl _
      have hzc2 : wd.heap.size ≤ wc.heap.size := by rw [hwc]; exact Nat.le_refl _
      have hrowc := own_up hrowd hbc
      have hRc := hRwd.below hbc hRwd.lt
      have hrvc := hRc.cell 3
      have hrvc' : wc.cell? ⟨w.heap.size + 1 + 1, 3, none⟩ = some v := hrvc
      have hPc := hPwd.below hbc hPwd.lt
      have hOc := hOwd.below hbc hOwd.lt
      have hzRc := hRc.lt
      have hSc : Below w.heap.size w wc := hbdw.trans (hbc.mono hbdw.size)
      clear hwc
      go_simp
      refine hK'.out _ _ hSc (fun hS => ?_)
      clear hK' K'
      refine wpAnyH_take (i := 7) (v := ?v7_8) rfl (by kernel_rfl) (by kernel_rfl) (by kernel_rfl) (fun _ _ _ h => h) (Or.inl ⟨by rfl, ?y7_8⟩) hS ?r7_8
      case y7_8 =>
        rintro W hH
        go_simp
        with_reducible rfl
      simp only [Act.put]
      try simp only [List.getElem_toArray, List.getElem_cons_succ, List.getElem_cons_zero]
      try simp only [List.setIfInBounds_toArray, List.set_cons_succ, List.set_cons_zero]
      refine wpAnyH_ready (rs := [1, 8]) (by kernel_rfl) (by simp) ?_
      refine AllReadyH.cons rfl (fun K' hK' => ?_) (AllReadyH.cons rfl (fun K' hK' => ?_) AllReadyH.nil)
      · skip
        go_simp
        refine hK'.out _ _ hS (fun hS => ?_)
        clear hK' K'
        refine wpAnyH_ready (rs := [8]) (by kernel_rfl) (by simp) ?_
        refine AllReadyH.cons rfl (fun K' hK' => ?_) AllReadyH.nil
        go_simp
        have hzX : w2.heap.size ≤ wc.heap.size := by omega
        refine hK'.out _ _ (hS.alloc hS.size _) (fun hS => ?_)
        clear hK' K'
        refine wpAnyH_ready (rs := [9]) (by kernel_rfl) (by simp) ?_
        refine AllReadyH.cons rfl (fun K' hK' => ?_) AllReadyH.nil
        refine step_append_lies _ (by rfl) _ _ _ (by rfl) w2.heap.size 54 i0 (.int .u16 0) 1 2 Tryd.underlying23 hi hz0 hz1' hz2' rfl (by decide) v k _ (by rfl) (hrowc.alloc (.cells #[.int .u16 X] 54)) ⟨wc.heap.size, 0, none⟩ 1 1 [.int .u16 X] (by rfl) (by rfl) (World.news_of_block (cs := #[.int .u16 X]) (t := 54) (fr := (0, 0)) (heap_alloc_new wc _)) (by simp [Value.oneCell']) (by omega) (by unfold maxLen; omega) (by omega) (by simp; omega) (wc.heap.size + 1) (by simp) ?_
        intro gg cc wa own' hgr hat hlt2
        have hne : ∀ B, B < w2.heap.size → some B ≠ v.ownBlock := fun B hB e => by have := (hrowc.lt B e.symm).1; omega
        have hRa : Held wa (w.heap.size + 1 + 1) 34 #[.int .i64 fn, .int .i64 0, .slice none 0 0, v] := (hRc.alloc _).kept hgr (hne _ (by omega))
        have hPa : Held wa w.heap.size 25 #[.int .i64 fn, .int .i64 addr, .int .i64 count, .int .i64 to, .slice A nb cb, .slice R nr cr] := (hPc.alloc _).kept hgr (hne _ (by omega))
        have hOa : Held wa (w.heap.size + 1) 34 #[.int .i64 0, .int .i64 0, .slice none 0 0, .slice none 0 0] := (hOc.alloc _).kept hgr (hne _ (by omega))
        have hSa : Below w.heap.size w wa := hS.grown hgr (by rw [World.size_alloc]; omega) (fun B hB => by have := (hrowc.lt B hB).1; omega)
        have hra : wa.cell? ⟨w.heap.size + 1 + 1, 3, none⟩ = some v := hRa.cell 3
        have hfa := hRa.frozen
        have hga := own'.lt gg rfl
        have hgea : w2.heap.size ≤ wa.heap.size := by omega
        have ho2 := own_off own' (B := w.heap.size + 1 + 1) (by omega) 3 (.slice (some ⟨gg, 0, none⟩) (k + 1) cc)
        clear hS hgr hat
        refine hK'.out _ _ hSa (fun hS => ?_)
        clear hK' K'
        refine wpAnyH_take (i := 10) (v := ?v10_9) rfl (by kernel_rfl) (by kernel_rfl) (by kernel_rfl) (fun _ _ _ h => h) (Or.inl ⟨by rfl, ?y10_9⟩) hS ?r10_9
        case y10_9 =>
          rintro W hH
          go_simp
          with_reducible rfl
        simp only [Act.put]
        try simp only [List.getElem_toArray, List.getElem_cons_succ, List.getElem_cons_zero]
        try simp only [List.setIfInBounds_toArray, List.set_cons_succ, List.set_cons_zero]
        refine wpAnyH_ready (rs := [11]) (by kernel_rfl) (by simp) ?_
        refine AllReadyH.cons rfl (fun K' hK' => ?_) AllReadyH.nil
        go_simp
        have hSs : Below w.heap.size w (wa.setCell ⟨w.heap.size + 1 + 1, 3, none⟩ (.slice (some ⟨gg, 0, none⟩) (k + 1) cc)) := hSa.setCell (p := ⟨w.heap.size + 1 + 1, 3, none⟩) (by show w.heap.size ≤ w.heap.size + 1 + 1; omega) _
        clear hS
        refine hK'.out _ _ hSs (fun hS => ?_)
        clear hK' K'
        refine wpAnyH_done (by kernel_rfl) ?_ _
        go_wp2_with fail
        go_roundw
        case rel => exact ⟨k + 1, (.slice (some ⟨gg, 0, none⟩) (k + 1) cc), by omega, by go_num, hRa.set 3 _, by rw [HSN.out, List.map_append]; exact ho2, hPa.far (p := ⟨w.heap.size + 1 + 1, 3, none⟩) (by show w.heap.size ≠ w.heap.size + 1 + 1; omega) _, hOa.far (p := ⟨w.heap.size + 1 + 1, 3, none⟩) (by show w.heap.size + 1 ≠ w.heap.size + 1 + 1; omega) _, hSs, by show w2.heap.size ≤ _; rw [World.size_setCell]; exact hgea⟩
        case measure => simp [intOf]; omega
      · skip
        go_simp
        have hzX : w2.heap.size ≤ wc.heap.size := by omega
        refine hK'.out _ _ (hS.alloc hS.size _) (fun hS => ?_)
        clear hK' K'
        refine wpAnyH_ready (rs := [1]) (by kernel_rfl) (by simp) ?_
        refine AllReadyH.cons rfl (fun K' hK' => ?_) AllReadyH.nil
        go_simp
        refine hK'.out _ _ hS (fun hS => ?_)
        clear hK' K'
        refine wpAnyH_ready (rs := [9]) (by kernel_rfl) (by simp) ?_
        refine AllReadyH.cons rfl (fun K' hK' => ?_) AllReadyH.nil
        refine step_append_lies _ (by rfl) _ _ _ (by rfl) w2.heap.size 54 i0 (.int .u16 0) 1 2 Tryd.underlying23 hi hz0 hz1' hz2' rfl (by decide) v k _ (by rfl) (hrowc.alloc (.cells #[.int .u16 X] 54)) ⟨wc.heap.size, 0, none⟩ 1 1 [.int .u16 X] (by rfl) (by rfl) (World.news_of_block (cs := #[.int .u16 X]) (t := 54) (fr := (0, 0)) (heap_alloc_new wc _)) (by simp [Value.oneCell']) (by omega) (by unfold maxLen; omega) (by omega) (by simp; omega) (wc.heap.size + 1) (by simp) ?_
        intro gg cc wa own' hgr hat hlt2
        have hne : ∀ B, B < w2.heap.size → some B ≠ v.ownBlock := fun B hB e => by have := (hrowc.lt B e.symm).1; omega
        have hRa : Held wa (w.heap.size + 1 + 1) 34 #[.int .i64 fn, .int .i64 0, .slice none 0 0, v] := (hRc.alloc _).kept hgr (hne _ (by omega))
        have hPa : Held wa w.heap.size 25 #[.int .i64 fn, .int .i64 addr, .int .i64 count, .int .i64 to, .slice A nb cb, .slice R nr cr] := (hPc.alloc _).kept hgr (hne _ (by omega))
        have hOa : Held wa (w.heap.size + 1) 34 #[.int .i64 0, .int .i64 0, .slice none 0 0, .slice none 0 0] := (hOc.alloc _).kept hgr (hne _ (by omega))
        have hSa : Below w.heap.size w wa := hS.grown hgr (by rw [World.size_alloc]; omega) (fun B hB => by have := (hrowc.lt B hB).1; omega)
        have hra : wa.cell? ⟨w.heap.size + 1 + 1, 3, none⟩ = some v := hRa.cell 3
        have hfa := hRa.frozen
        have hga := own'.lt gg rfl
        have hgea : w2.heap.size ≤ wa.heap.size := by omega
        have ho2 := own_off own' (B := w.heap.size + 1 + 1) (by omega) 3 (.slice (some ⟨gg, 0, none⟩) (k + 1) cc)
        clear hS hgr hat
        refine hK'.out _ _ hSa (fun hS => ?_)
        clear hK' K'
        refine wpAnyH_take (i := 10) (v := ?v10_10) rfl (by kernel_rfl) (by kernel_rfl) (by kernel_rfl) (fun _ _ _ h => h) (Or.inl ⟨by rfl, ?y10_10⟩) hS ?r10_10
        case y10_10 =>
          rintro W hH
          go_simp
          with_reducible rfl
        simp only [Act.put]
        try simp only [List.getElem_toArray, List.getElem_cons_succ, List.getElem_cons_zero]
        try simp only [List.setIfInBounds_toArray, List.set_cons_succ, List.set_cons_zero]
        refine wpAnyH_ready (rs := [11]) (by kernel_rfl) (by simp) ?_
        refine AllReadyH.cons rfl (fun K' hK' => ?_) AllReadyH.nil
        go_simp
        have hSs : Below w.heap.size w (wa.setCell ⟨w.heap.size + 1 + 1, 3, none⟩ (.slice (some ⟨gg, 0, none⟩) (k + 1) cc)) := hSa.setCell (p := ⟨w.heap.size + 1 + 1, 3, none⟩) (by show w.heap.size ≤ w.heap.size + 1 + 1; omega) _
        clear hS
        refine hK'.out _ _ hSs (fun hS => ?_)
        clear hK' K'
        refine wpAnyH_done (by kernel_rfl) ?_ _
        go_wp2_with fail
        go_roundw
        case rel => exact ⟨k + 1, (.slice (some ⟨gg, 0, none⟩) (k + 1) cc), by omega, by go_num, hRa.set 3 _, by rw [HSN.out, List.map_append]; exact ho2, hPa.far (p := ⟨w.heap.size + 1 + 1, 3, none⟩) (by show w.heap.size ≠ w.heap.size + 1 + 1; omega) _, hOa.far (p := ⟨w.heap.size + 1 + 1, 3, none⟩) (by show w.heap.size + 1 ≠ w.heap.size + 1 + 1; omega) _, hSs, by show w2.heap.size ≤ _; rw [World.size_setCell]; exact hgea⟩
        case measure => simp [intOf]; omega
  · obtain rfl : k = N := by omega
    obtain ⟨Au, cu, rfl, sv⟩ := SlI.of_own (xs := (wordsP (b.drop 2)).take k) hrow
    have ht1 : ¬ 2 * (k : Int) + 3 < (n : Int) := by omega
    go_wp2_with fail
    have htk : (wordsP (b.drop 2)).take k = wordsP (b.drop 2) := List.take_of_length_le (by rw [wordsP_len, List.length_drop, HL.out]; omega)
    rw [htk] at sv
    have HAN := Lib.hid (answer_ref (.agg #[.int .i64 fn, .int .i64 addr, .int .i64 count, .int .i64 to, .slice A nb cb, .slice R nr cr]) (.agg #[.int .i64 fn, .int .i64 0, .slice none 0 0, .slice Au k cu]) ⟨fn, addr, count, to, bs, regs⟩ (⟨fn, 0, [], wordsP (b.drop 2)⟩ : RepP) wr ⟨A, nb, cb, R, nr, cr, rfl, HA.out wr hbwrw, HR.out wr hbwrw⟩ ⟨none, 0, 0, Au, k, cu, rfl, SlB.nil _ _, sv⟩ hy (wordsP_reg (fun x hx => hb8 x (List.mem_of_mem_drop hx))))
    go_wp2_with (first | ((with_reducible refine at_loadT 25 2 ?_); refine wpList_load_rowG rfl 25 (.tmp 2) rfl w.heap.size rfl 25 _ _ hPwr hu rfl hsz ?_) | ((with_reducible refine at_loadT 34 6 ?_); refine wpList_load_rowG rfl 34 (.tmp 6) rfl (w.heap.size + 1 + 1) rfl 34 _ _ hRwr hu4 rfl hsz4 ?_))
    refine HAN.out.mono ?_
    rintro e wq ⟨Aq, nq, cq, rfl, sq, hbq⟩
    have hbqw := hbwrw.trans (hbq.mono hbwrw.size)
    have hPwq := hPwr.below hbq hPwr.lt
    have hOwq := hOwr.below hbq hOwr.lt
    have hRwq := hRwr.below hbq hRwr.lt
    have pwq0 : wq.cell? ⟨w.heap.size, 0, none⟩ = some (.int .i64 fn) := hPwq.cell 0
    have pwq1 : wq.cell? ⟨w.heap.size, 1, none⟩ = some (.int .i64 addr) := hPwq.cell 1
    have pwq2 : wq.cell? ⟨w.heap.size, 2, none⟩ = some (.int .i64 count) := hPwq.cell 2
    have pwq3 : wq.cell? ⟨w.heap.size, 3, none⟩ = some (.int .i64 to) := hPwq.cell 3
    have pwq4 : wq.cell? ⟨w.heap.size, 4, none⟩ = some (.slice A nb cb) := hPwq.cell 4
    have pwq5 : wq.cell? ⟨w.heap.size, 5, none⟩ = some (.slice R nr cr) := hPwq.cell 5
    have owq0 : wq.cell? ⟨w.heap.size + 1, 0, none⟩ = some (.int .i64 0) := hOwq.cell 0
    have owq1 : wq.cell? ⟨w.heap.size + 1, 1, none⟩ = some (.int .i64 0) := hOwq.cell 1
    have owq2 : wq.cell? ⟨w.heap.size + 1, 2, none⟩ = some (.slice none 0 0) := hOwq.cell 2
    have owq3 : wq.cell? ⟨w.heap.size + 1, 3, none⟩ = some (.slice none 0 0) := hOwq.cell 3
    have rwq0 : wq.cell? ⟨w.heap.size + 1 + 1, 0, none⟩ = some (.int .i64 fn) := hRwq.cell 0
    have rwq1 : wq.cell? ⟨w.heap.size + 1 + 1, 1, none⟩ = some (.int .i64 0) := hRwq.cell 1
    have rwq2 : wq.cell? ⟨w.heap.size + 1 + 1, 2, none⟩ = some (.slice none 0 0) := hRwq.cell 2
    have rwq3 : wq.cell? ⟨w.heap.size + 1 + 1, 3, none⟩ = some (.slice Au k cu) := hRwq.cell 3
    have fowq := hOwq.frozen
    have frwq := hRwq.frozen
    have zPwq := hPwq.lt
    have zOwq := hOwq.lt
    have zRwq := hRwq.lt
    have hbwqw := hbqw
    cases han : answerP ⟨fn, addr, count, to, bs, regs⟩ (⟨fn, 0, [], wordsP (b.drop 2)⟩ : RepP) with
    | none =>
      have hfz : readAnswerP ⟨fn, addr, count, to, bs, regs⟩ b = none := by rw [HF.out, han]; rfl
      have HZ := Lib.hid hfz
      have he : errV (none : Option (List Int)).isSome = 190 := rfl
      rw [he]
      clear han hfz he
      go_wp2_with fail
      obtain ⟨wz, hwz⟩ : ∃ W, ((((wq.setCell ⟨w.heap.size + 1, 0, none⟩ (.int .i64 0)).setCell ⟨w.heap.size + 1, 1, none⟩ (.int .i64 0)).setCell ⟨w.heap.size + 1, 2, none⟩ (.slice none 0 0)).setCell ⟨w.heap.size + 1, 3, none⟩ (.slice none 0 0)) = W := ⟨_, rfl⟩
      have hZ : Held wz (w.heap.size + 1) 34 #[.int .i64 0, .int .i64 0, .slice none 0 0, .slice none 0 0] := by rw [← hwz]; exact (((hOwq.set 0 _).set 1 _).set 2 _).set 3 _
      have hbz : Below w.heap.size w wz := by rw [← hwz]; exact ((((hbwqw.setCell (p := ⟨w.heap.size + 1, 0, none⟩) (by simp) _).setCell (p := ⟨w.heap.size + 1, 1, none⟩) (by simp) _).setCell (p := ⟨w.heap.size + 1, 2, none⟩) (by simp) _).setCell (p := ⟨w.heap.size + 1, 3, none⟩) (by simp) _)
      have hoff : OffB wq wz (w.heap.size + 1) := by rw [← hwz]; exact ((((OffB.refl _ _).set 0 _).set 1 _).set 2 _).set 3 _
      have z0 : wz.cell? ⟨w.heap.size + 1, 0, none⟩ = some (.int .i64 0) := hZ.cell 0
      have z1 : wz.cell? ⟨w.heap.size + 1, 1, none⟩ = some (.int .i64 0) := hZ.cell 1
      have z2 : wz.cell? ⟨w.heap.size + 1, 2, none⟩ = some (.slice none 0 0) := hZ.cell 2
      have z3 : wz.cell? ⟨w.heap.size + 1, 3, none⟩ = some (.slice none 0 0) := hZ.cell 3
      rw [hwz]
      exact bodyPost_ret (v := .tuple #[.agg #[.int .i64 0, .int .i64 0, .slice none 0 0, .slice none 0 0], .int .i64 190]) (by simp [results, Tryd.results16, go_sem, z0, z1, z2, z3]) rfl (ra_none (HZ.out) hbz)
    | some x =>
      have he : errV (some x : Option (List Int)).isSome = 0 := rfl
      rw [he]
      rw [han] at sq
      have hx8 : Byte8 x := (reply_read _ _ x (wordsP_reg (fun x hx => hb8 x (List.mem_of_mem_drop hx))) hy han).2.2.2.1
      have k1 := conv_sli sq
      have k2 := conv_sli (HB.out wq hbqw)
      have hst := str_eq x b hx8 hb8
      obtain ⟨S1, hS1⟩ : ∃ S, strOfNums x = S := ⟨_, rfl⟩
      obtain ⟨S2, hS2⟩ : ∃ S, strOfNums b = S := ⟨_, rfl⟩
      simp only [Option.getD_some] at k1
      rw [hS1] at k1
      rw [hS2] at k2
      rw [hS1, hS2] at hst
      clear hS1 hS2
      by_cases hxb : x = b
      · have hfz : readAnswerP ⟨fn, addr, count, to, bs, regs⟩ b = some (⟨fn, 0, [], wordsP (b.drop 2)⟩ : RepP) := by rw [HF.out, han, if_pos (by rw [hxb])]
        have HZ := Lib.hid hfz
        rw [decide_eq_true hxb] at hst
        clear han hfz he hxb sq hx8
        go_wp2_with fail
        obtain ⟨wz, hwz⟩ : ∃ W, ((((wq.setCell ⟨w.heap.size + 1, 0, none⟩ (.int .i64 fn)).setCell ⟨w.heap.size + 1, 1, none⟩ (.int .i64 0)).setCell ⟨w.heap.size + 1, 2, none⟩ (.slice none 0 0)).setCell ⟨w.heap.size + 1, 3, none⟩ (.slice Au k cu)) = W := ⟨_, rfl⟩
        have hZ : Held wz (w.heap.size + 1) 34 #[.int .i64 fn, .int .i64 0, .slice none 0 0, .slice Au k cu] := by rw [← hwz]; exact (((hOwq.set 0 _).set 1 _).set 2 _).set 3 _
        have hbz : Below w.heap.size w wz := by rw [← hwz]; exact ((((hbwqw.setCell (p := ⟨w.heap.size + 1, 0, none⟩) (by simp) _).setCell (p := ⟨w.heap.size + 1, 1, none⟩) (by simp) _).setCell (p := ⟨w.heap.size + 1, 2, none⟩) (by simp) _).setCell (p := ⟨w.heap.size + 1, 3, none⟩) (by simp) _)
        have hoff : OffB wq wz (w.heap.size + 1) := by rw [← hwz]; exact ((((OffB.refl _ _).set 0 _).set 1 _).set 2 _).set 3 _
        have z0 : wz.cell? ⟨w.heap.size + 1, 0, none⟩ = some (.int .i64 fn) := hZ.cell 0
        have z1 : wz.cell? ⟨w.heap.size + 1, 1, none⟩ = some (.int .i64 0) := hZ.cell 1
        have z2 : wz.cell? ⟨w.heap.size + 1, 2, none⟩ = some (.slice none 0 0) := hZ.cell 2
        have z3 : wz.cell? ⟨w.heap.size + 1, 3, none⟩ = some (.slice Au k cu) := hZ.cell 3
        rw [hwz]
        exact bodyPost_ret (v := .tuple #[.agg #[.int .i64 fn, .int .i64 0, .slice none 0 0, .slice Au k cu], .int .i64 0]) (by simp [results, Tryd.results16, go_sem, z0, z1, z2, z3]) rfl (ra_some HZ.out ⟨none, 0, 0, Au, k, cu, rfl, SlB.nil _ _, (sv.up hbq).off hoff hOwq (by intro v hv x e; subst e; simp at hv)⟩ hbz)
      · have hfz : readAnswerP ⟨fn, addr, count, to, bs, regs⟩ b = none := by rw [HF.out, han, if_neg (by simpa using hxb)]
        have HZ := Lib.hid hfz
        rw [decide_eq_false hxb] at hst
        clear han hfz he hxb sq hx8
        go_wp2_with fail
        obtain ⟨wz, hwz⟩ : ∃ W, ((((wq.setCell ⟨w.heap.size + 1, 0, none⟩ (.int .i64 0)).setCell ⟨w.heap.size + 1, 1, none⟩ (.int .i64 0)).setCell ⟨w.heap.size + 1, 2, none⟩ (.slice none 0 0)).setCell ⟨w.heap.size + 1, 3, none⟩ (.slice none 0 0)) = W := ⟨_, rfl⟩
        have hZ : Held wz (w.heap.size + 1) 34 #[.int .i64 0, .int .i64 0, .slice none 0 0, .slice none 0 0] := by rw [← hwz]; exact (((hOwq.set 0 _).set 1 _).set 2 _).set 3 _
        have hbz : Below w.heap.size w wz := by rw [← hwz]; exact ((((hbwqw.setCell (p := ⟨w.heap.size + 1, 0, none⟩) (by simp) _).setCell (p := ⟨w.heap.size + 1, 1, none⟩) (by simp) _).setCell (p := ⟨w.heap.size + 1, 2, none⟩) (by simp) _).setCell (p := ⟨w.heap.size + 1, 3, none⟩) (by simp) _)
        have hoff : OffB wq wz (w.heap.size + 1) := by rw [← hwz]; exact ((((OffB.refl _ _).set 0 _).set 1 _).set 2 _).set 3 _
        have z0 : wz.cell? ⟨w.heap.size + 1, 0, none⟩ = some (.int .i64 0) := hZ.cell 0
        have z1 : wz.cell? ⟨w.heap.size + 1, 1, none⟩ = some (.int .i64 0) := hZ.cell 1
        have z2 : wz.cell? ⟨w.heap.size + 1, 2, none⟩ = some (.slice none 0 0) := hZ.cell 2
        have z3 : wz.cell? ⟨w.heap.size + 1, 3, none⟩ = some (.slice none 0 0) := hZ.cell 3
        rw [hwz]
        exact bodyPost_ret (v := .tuple #[.agg #[.int .i64 0, .int .i64 0, .slice none 0 0, .slice none 0 0], .int .i64 190]) (by simp [results, Tryd.results16, go_sem, z0, z1, z2, z3]) rfl (ra_none (HZ.out) hbz)
end Go.Proofs.YtflbiichdjhaeaaDoor
namespace Go.Proofs.YtflbiichdjhaeaaDoor
open Go.RowKit

theorem readanswer_ref (u : Value) (a : AskP) (B : Option Addr) (n c : Nat) (b : List Int) (w : World) (hu : AskAt w u a) (hy : Reg16 a.regs) (hB : SlI w w.heap.size .u8 B n c b) (hb8 : Byte8 b) (hn : n ≤ 1000) :
    Calls Tryd.prog 16 #[u, .slice B n c] w (RaPost w a b) := by
  obtain ⟨A, nb, cb, R, nr, cr, rfl, hA, hR⟩ := hu
  obtain ⟨fn, addr, count, to, bs, regs⟩ := a
  dsimp only at hA hR hy ⊢
  by_cases hs : n < 2
  · exact rr_short fn addr count to bs regs A nb cb R nr cr B n c b w hA hR hy hB hb8 hn hs
  have hl := hB.1
  obtain ⟨g, off, rfl, _⟩ := hB.some_ (by omega)
  obtain ⟨x0, hx0⟩ : ∃ x, b[0]? = some x := ⟨_, List.getElem?_eq_getElem (by omega)⟩
  obtain ⟨x1, hx1⟩ : ∃ x, b[1]? = some x := ⟨_, List.getElem?_eq_getElem (by omega)⟩
  have g0 : b.getD 0 0 = x0 := by rw [List.getD, hx0]; rfl
  have g1 : b.getD 1 0 = x1 := by rw [List.getD, hx1]; rfl
  cases hm : mayP ⟨fn, addr, count, to, bs, regs⟩ with
  | false => exact rr_no fn addr count to bs regs A nb cb R nr cr g off n c b w hA hR hy hB hb8 hn (by omega) x0 hx0 hm
  | true =>
    have hfin := (refR_guess ⟨fn, addr, count, to, bs, regs⟩ b hm (by omega)).symm
    have hcs := (may_cases _ hm).2
    dsimp only at hcs
    by_cases h1 : 128 ≤ x0
    · have e : refR ⟨fn, addr, count, to, bs, regs⟩ b = ⟨fn, x1, [], []⟩ := by
        unfold refR
        rw [if_pos (by rw [g0]; exact h1), g1]
      rw [e] at hfin
      exact rr1 fn addr count to bs regs A nb cb R nr cr g off n c b w hA hR hy hB hb8 hn (by omega) x0 hx0 hm x1 hx1 hfin h1
    have e : refR ⟨fn, addr, count, to, bs, regs⟩ b = ⟨fn, 0, if fn < 3 then unpackP (b.drop 2) count.toNat else [], if fn = 3 ∨ fn = 4 ∨ fn = 23 then wordsP (b.drop 2) else []⟩ := by
      unfold refR
      rw [if_neg (by rw [g0]; exact h1)]
    rw [e] at hfin
    clear e
    have hf {k : Int} (h : fn ≠ k) : (fn == k) = false := by simpa using h
    have ht {k : Int} (h : fn = k) : (fn == k) = true := by simpa using h
    by_cases h3 : fn < 3
    · rw [if_pos h3, if_neg (show ¬ (fn = 3 ∨ fn = 4 ∨ fn = 23) by omega)] at hfin
      exact rr2 fn addr count to bs regs A nb cb R nr cr g off n c b w hA hR hy hB hb8 hn (by omega) x0 hx0 hm count.toNat (by omega) (by omega) (by omega) hfin (by omega) h3 (hf (by omega)) (hf (by omega)) (hf (by omega))
    rw [if_neg h3] at hfin
    by_cases f3 : fn = 3
    · rw [if_pos (show fn = 3 ∨ fn = 4 ∨ fn = 23 from .inl f3)] at hfin
      exact rr33 fn addr count to bs regs A nb cb R nr cr g off n c b w hA hR hy hB hb8 hn (by omega) x0 hx0 hm (by omega) ((n - 2) / 2) (by omega) (by omega) hfin (by omega) h3 (ht f3) (hf (by omega)) (hf (by omega))
    by_cases f4 : fn = 4
    · rw [if_pos (show fn = 3 ∨ fn = 4 ∨ fn = 23 from .inr (.inl f4))] at hfin
      exact rr34 fn addr count to bs regs A nb cb R nr cr g off n c b w hA hR hy hB hb8 hn (by omega) x0 hx0 hm (by omega) ((n - 2) / 2) (by omega) (by omega) hfin (by omega) h3 (hf f3) (ht f4) (hf (by omega))
    by_cases f23 : fn = 23
    · rw [if_pos (show fn = 3 ∨ fn = 4 ∨ fn = 23 from .inr (.inr f23))] at hfin
      exact rr3t fn addr count to bs regs A nb cb R nr cr g off n c b w hA hR hy hB hb8 hn (by omega) x0 hx0 hm (by omega) ((n - 2) / 2) (by omega) (by omega) hfin (by omega) h3 (hf f3) (hf f4) (ht f23)
    · rw [if_neg (show ¬ (fn = 3 ∨ fn = 4 ∨ fn = 23) by omega)] at hfin
      exact rr4 fn addr count to bs regs A nb cb R nr cr g off n c b w hA hR hy hB hb8 hn (by omega) x0 hx0 hm hfin (by omega) (by omega) (hf f3) (hf f4) (hf f23)
end Go.Proofs.YtflbiichdjhaeaaDoor
