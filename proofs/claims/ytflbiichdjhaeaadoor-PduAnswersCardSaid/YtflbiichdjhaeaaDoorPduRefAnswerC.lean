/- kilowattref19.Answer: (1, 2). -/
import Derived.Test.YtflbiichdjhaeaaDoorPduRefBytes
import Derived.Test.YtflbiichdjhaeaaDoorPduAnswer
namespace Go.Proofs.YtflbiichdjhaeaaDoor
open Go.RowKit
set_option linter.unusedVariables false

set_option maxRecDepth 100000 in
set_option maxHeartbeats 2000000 in
theorem ra_1a (fn addr count to : Int) (bits : List Bool) (regs : List Int) (A : Option Addr) (nb cb : Nat) (R : Option Addr) (nr cr : Nat) (rfn code : Int) (bits2 : List Bool) (regs2 : List Int) (A2 : Option Addr) (nb2 cb2 : Nat) (R2 : Option Addr) (nr2 cr2 : Nat) (w : World) (hA : SlB w w.heap.size A nb cb bits) (hR : SlI w w.heap.size .u16 R nr cr regs) (hA2 : SlB w w.heap.size A2 nb2 cb2 bits2) (hR2 : SlI w w.heap.size .u16 R2 nr2 cr2 regs2) (o : Option (List Int)) (hm : mayP ⟨fn, addr, count, to, bits, regs⟩ = true) (hq : rfn = fn) (hfn : fn = 1) (hz : code = 0) (hy : Reg16 regs) (hy2 : Reg16 regs2) (ha : 0 ≤ addr ∧ addr < 65536) (k1 : nb ≤ 1968) (k2 : nr ≤ 123) (hcnt : 1 ≤ count ∧ count ≤ 2000) (hn : o = if (nb2 : Int) ≠ count ∨ (nr2 : Int) ≠ 0 then none else some (1 :: ((packN bits2).length : Int) :: packN bits2)) (b1 : (nb2 : Int) ≠ count) : Calls Tryd.prog 14 #[.agg #[.int .i64 fn, .int .i64 addr, .int .i64 count, .int .i64 to, .slice A nb cb, .slice R nr cr], .agg #[.int .i64 rfn, .int .i64 code, .slice A2 nb2 cb2, .slice R2 nr2 cr2]] w (AnsPost w o) := by
  subst hq hfn hz
  obtain ⟨w1, hw1⟩ : ∃ w1, (w.alloc (.cells #[.int .i64 1, .int .i64 addr, .int .i64 count, .int .i64 to, .slice A nb cb, .slice R nr cr] 25)).alloc (.cells #[.int .i64 1, .int .i64 0, .slice A2 nb2 cb2, .slice R2 nr2 cr2] 34) = w1 := ⟨_, rfl⟩
  have hb1 : Below w.heap.size w w1 := by rw [← hw1]; exact ((Below.refl _ w).alloc (Nat.le_refl _) _).alloc (by simp) _
  have hz1 : w1.heap.size = w.heap.size + 2 := by rw [← hw1]; simp
  have hP1 : Held w1 w.heap.size 25 #[.int .i64 1, .int .i64 addr, .int .i64 count, .int .i64 to, .slice A nb cb, .slice R nr cr] := by rw [← hw1]; exact (Held.new w _ _).alloc _
  have hQ1 : Held w1 (w.heap.size + 1) 34 #[.int .i64 1, .int .i64 0, .slice A2 nb2 cb2, .slice R2 nr2 cr2] := by rw [← hw1]; have := Held.new (w.alloc (.cells #[.int .i64 1, .int .i64 addr, .int .i64 count, .int .i64 to, .slice A nb cb, .slice R nr cr] 25)) 34 #[.int .i64 1, .int .i64 0, .slice A2 nb2 cb2, .slice R2 nr2 cr2]; rw [World.size_alloc] at this; exact this
  have hu := Tryd.underlying25
  have hsz : (Tryd.prog.info? 25).map (·.size) = some 6 := by kernel_rfl
  have hc := may_any (.agg #[.int .i64 1, .int .i64 addr, .int .i64 count, .int .i64 to, .slice A nb cb, .slice R nr cr]) ⟨1, addr, count, to, bits, regs⟩ w1 ⟨A, nb, cb, R, nr, cr, rfl, hA.up hb1, hR.up hb1⟩
  rw [hm] at hc
  have HC := Lib.hid hc
  clear hc
  have HN := Lib.hid hn
  have HA := Lib.hid (fun (X : World) (h : Below w.heap.size w X) => hA.up h)
  have HR := Lib.hid (fun (X : World) (h : Below w.heap.size w X) => hR.up h)
  have HA2 := Lib.hid (fun (X : World) (h : Below w.heap.size w X) => hA2.up h)
  have HR2 := Lib.hid (fun (X : World) (h : Below w.heap.size w X) => hR2.up h)
  have HM := Lib.hid hm
  have hl2 := Lib.hid hA2.1
  have hlr2 := Lib.hid hR2.1
  obtain ⟨i0, hi, hz0, hz1', hz2'⟩ := info_parts infoU8
  clear hA hR hA2 hR2 hm hn
  have t1 : (((nb2 : Nat) : Int) != count) = true := by simpa using b1
  go_in
  go_wp2_with ((with_reducible refine at_loadT 25 2 ?_); refine wpList_load_rowG rfl 25 (.tmp 2) rfl w.heap.size rfl 25 _ _ hP1 hu rfl hsz ?_)
  refine HC.out.mono ?_
  rintro e w2 ⟨rfl, hb2⟩
  have hz2 := hb2.size
  have hP2 := hP1.below hb2 hP1.lt
  have hQ2 := hQ1.below hb2 hQ1.lt
  have hlt2 := hP2.lt
  have hlq2 := hQ2.lt
  have hb2w := hb1.trans (hb2.mono (by omega))
  have ka0 : w2.cell? ⟨w.heap.size, 0, none⟩ = some (.int .i64 1) := hP2.cell 0
  have ka1 : w2.cell? ⟨w.heap.size, 1, none⟩ = some (.int .i64 addr) := hP2.cell 1
  have ka2 : w2.cell? ⟨w.heap.size, 2, none⟩ = some (.int .i64 count) := hP2.cell 2
  have ka3 : w2.cell? ⟨w.heap.size, 3, none⟩ = some (.int .i64 to) := hP2.cell 3
  have ka4 : w2.cell? ⟨w.heap.size, 4, none⟩ = some (.slice A nb cb) := hP2.cell 4
  have ka5 : w2.cell? ⟨w.heap.size, 5, none⟩ = some (.slice R nr cr) := hP2.cell 5
  have kr0 : w2.cell? ⟨w.heap.size + 1, 0, none⟩ = some (.int .i64 1) := hQ2.cell 0
  have kr1 : w2.cell? ⟨w.heap.size + 1, 1, none⟩ = some (.int .i64 0) := hQ2.cell 1
  have kr2 : w2.cell? ⟨w.heap.size + 1, 2, none⟩ = some (.slice A2 nb2 cb2) := hQ2.cell 2
  have kr3 : w2.cell? ⟨w.heap.size + 1, 3, none⟩ = some (.slice R2 nr2 cr2) := hQ2.cell 3
  go_wp2_with fail
  go_ret2
  exact ans_none (by rw [HN.out, if_pos (by left; exact b1)]) hb2w
set_option maxRecDepth 100000 in
set_option maxHeartbeats 2000000 in
theorem ra_1b (fn addr count to : Int) (bits : List Bool) (regs : List Int) (A : Option Addr) (nb cb : Nat) (R : Option Addr) (nr cr : Nat) (rfn code : Int) (bits2 : List Bool) (regs2 : List Int) (A2 : Option Addr) (nb2 cb2 : Nat) (R2 : Option Addr) (nr2 cr2 : Nat) (w : World) (hA : SlB w w.heap.size A nb cb bits) (hR : SlI w w.heap.size .u16 R nr cr regs) (hA2 : SlB w w.heap.size A2 nb2 cb2 bits2) (hR2 : SlI w w.heap.size .u16 R2 nr2 cr2 regs2) (o : Option (List Int)) (hm : mayP ⟨fn, addr, count, to, bits, regs⟩ = true) (hq : rfn = fn) (hfn : fn = 1) (hz : code = 0) (hy : Reg16 regs) (hy2 : Reg16 regs2) (ha : 0 ≤ addr ∧ addr < 65536) (k1 : nb ≤ 1968) (k2 : nr ≤ 123) (hcnt : 1 ≤ count ∧ count ≤ 2000) (hn : o = if (nb2 : Int) ≠ count ∨ (nr2 : Int) ≠ 0 then none else some (1 :: ((packN bits2).length : Int) :: packN bits2)) (b1 : (nb2 : Int) = count) (b2 : (nr2 : Int) ≠ 0) : Calls Tryd.prog 14 #[.agg #[.int .i64 fn, .int .i64 addr, .int .i64 count, .int .i64 to, .slice A nb cb, .slice R nr cr], .agg #[.int .i64 rfn, .int .i64 code, .slice A2 nb2 cb2, .slice R2 nr2 cr2]] w (AnsPost w o) := by
  subst hq hfn hz
  obtain ⟨w1, hw1⟩ : ∃ w1, (w.alloc (.cells #[.int .i64 1, .int .i64 addr, .int .i64 count, .int .i64 to, .slice A nb cb, .slice R nr cr] 25)).alloc (.cells #[.int .i64 1, .int .i64 0, .slice A2 nb2 cb2, .slice R2 nr2 cr2] 34) = w1 := ⟨_, rfl⟩
  have hb1 : Below w.heap.size w w1 := by rw [← hw1]; exact ((Below.refl _ w).alloc (Nat.le_refl _) _).alloc (by simp) _
  have hz1 : w1.heap.size = w.heap.size + 2 := by rw [← hw1]; simp
  have hP1 : Held w1 w.heap.size 25 #[.int .i64 1, .int .i64 addr, .int .i64 count, .int .i64 to, .slice A nb cb, .slice R nr cr] := by rw [← hw1]; exact (Held.new w _ _).alloc _
  have hQ1 : Held w1 (w.heap.size + 1) 34 #[.int .i64 1, .int .i64 0, .slice A2 nb2 cb2, .slice R2 nr2 cr2] := by rw [← hw1]; have := Held.new (w.alloc (.cells #[.int .i64 1, .int .i64 addr, .int .i64 count, .int .i64 to, .slice A nb cb, .slice R nr cr] 25)) 34 #[.int .i64 1, .int .i64 0, .slice A2 nb2 cb2, .slice R2 nr2 cr2]; rw [World.size_alloc] at this; exact this
  have hu := Tryd.underlying25
  have hsz : (Tryd.prog.info? 25).map (·.size) = some 6 := by kernel_rfl
  have hc := may_any (.agg #[.int .i64 1, .int .i64 addr, .int .i64 count, .int .i64 to, .slice A nb cb, .slice R nr cr]) ⟨1, addr, count, to, bits, regs⟩ w1 ⟨A, nb, cb, R, nr, cr, rfl, hA.up hb1, hR.up hb1⟩
  rw [hm] at hc
  have HC := Lib.hid hc
  clear hc
  have HN := Lib.hid hn
  have HA := Lib.hid (fun (X : World) (h : Below w.heap.size w X) => hA.up h)
  have HR := Lib.hid (fun (X : World) (h : Below w.heap.size w X) => hR.up h)
  have HA2 := Lib.hid (fun (X : World) (h : Below w.heap.size w X) => hA2.up h)
  have HR2 := Lib.hid (fun (X : World) (h : Below w.heap.size w X) => hR2.up h)
  have HM := Lib.hid hm
  have hl2 := Lib.hid hA2.1
  have hlr2 := Lib.hid hR2.1
  obtain ⟨i0, hi, hz0, hz1', hz2'⟩ := info_parts infoU8
  clear hA hR hA2 hR2 hm hn
  have t1 : (((nb2 : Nat) : Int) != count) = false := by simp; omega
  have B1 := Lib.hid b1
  clear b1
  have t2 : (((nr2 : Nat) : Int) != 0) = true := by simpa using b2
  go_in
  go_wp2_with ((with_reducible refine at_loadT 25 2 ?_); refine wpList_load_rowG rfl 25 (.tmp 2) rfl w.heap.size rfl 25 _ _ hP1 hu rfl hsz ?_)
  refine HC.out.mono ?_
  rintro e w2 ⟨rfl, hb2⟩
  have hz2 := hb2.size
  have hP2 := hP1.below hb2 hP1.lt
  have hQ2 := hQ1.below hb2 hQ1.lt
  have hlt2 := hP2.lt
  have hlq2 := hQ2.lt
  have hb2w := hb1.trans (hb2.mono (by omega))
  have ka0 : w2.cell? ⟨w.heap.size, 0, none⟩ = some (.int .i64 1) := hP2.cell 0
  have ka1 : w2.cell? ⟨w.heap.size, 1, none⟩ = some (.int .i64 addr) := hP2.cell 1
  have ka2 : w2.cell? ⟨w.heap.size, 2, none⟩ = some (.int .i64 count) := hP2.cell 2
  have ka3 : w2.cell? ⟨w.heap.size, 3, none⟩ = some (.int .i64 to) := hP2.cell 3
  have ka4 : w2.cell? ⟨w.heap.size, 4, none⟩ = some (.slice A nb cb) := hP2.cell 4
  have ka5 : w2.cell? ⟨w.heap.size, 5, none⟩ = some (.slice R nr cr) := hP2.cell 5
  have kr0 : w2.cell? ⟨w.heap.size + 1, 0, none⟩ = some (.int .i64 1) := hQ2.cell 0
  have kr1 : w2.cell? ⟨w.heap.size + 1, 1, none⟩ = some (.int .i64 0) := hQ2.cell 1
  have kr2 : w2.cell? ⟨w.heap.size + 1, 2, none⟩ = some (.slice A2 nb2 cb2) := hQ2.cell 2
  have kr3 : w2.cell? ⟨w.heap.size + 1, 3, none⟩ = some (.slice R2 nr2 cr2) := hQ2.cell 3
  go_wp2_with fail
  go_ret2
  exact ans_none (by rw [HN.out, if_pos (by right; exact b2)]) hb2w
set_option maxRecDepth 100000 in
set_option maxHeartbeats 2000000 in
theorem ra_1c (fn addr count to : Int) (bits : List Bool) (regs : List Int) (A : Option Addr) (nb cb : Nat) (R : Option Addr) (nr cr : Nat) (rfn code : Int) (bits2 : List Bool) (regs2 : List Int) (A2 : Option Addr) (nb2 cb2 : Nat) (R2 : Option Addr) (nr2 cr2 : Nat) (w : World) (hA : SlB w w.heap.size A nb cb bits) (hR : SlI w w.heap.size .u16 R nr cr regs) (hA2 : SlB w w.heap.size A2 nb2 cb2 bits2) (hR2 : SlI w w.heap.size .u16 R2 nr2 cr2 regs2) (o : Option (List Int)) (hm : mayP ⟨fn, addr, count, to, bits, regs⟩ = true) (hq : rfn = fn) (hfn : fn = 1) (hz : code = 0) (hy : Reg16 regs) (hy2 : Reg16 regs2) (ha : 0 ≤ addr ∧ addr < 65536) (k1 : nb ≤ 1968) (k2 : nr ≤ 123) (hcnt : 1 ≤ count ∧ count ≤ 2000) (hn : o = if (nb2 : Int) ≠ count ∨ (nr2 : Int) ≠ 0 then none else some (1 :: ((packN bits2).length : Int) :: packN bits2)) (b1 : (nb2 : Int) = count) (b2 : (nr2 : Int) = 0) : Calls Tryd.prog 14 #[.agg #[.int .i64 fn, .int .i64 addr, .int .i64 count, .int .i64 to, .slice A nb cb, .slice R nr cr], .agg #[.int .i64 rfn, .int .i64 code, .slice A2 nb2 cb2, .slice R2 nr2 cr2]] w (AnsPost w o) := by
  subst hq hfn hz
  obtain rfl : nr2 = 0 := by omega
  obtain ⟨w1, hw1⟩ : ∃ w1, (w.alloc (.cells #[.int .i64 1, .int .i64 addr, .int .i64 count, .int .i64 to, .slice A nb cb, .slice R nr cr] 25)).alloc (.cells #[.int .i64 1, .int .i64 0, .slice A2 nb2 cb2, .slice R2 0 cr2] 34) = w1 := ⟨_, rfl⟩
  have hb1 : Below w.heap.size w w1 := by rw [← hw1]; exact ((Below.refl _ w).alloc (Nat.le_refl _) _).alloc (by simp) _
  have hz1 : w1.heap.size = w.heap.size + 2 := by rw [← hw1]; simp
  have hP1 : Held w1 w.heap.size 25 #[.int .i64 1, .int .i64 addr, .int .i64 count, .int .i64 to, .slice A nb cb, .slice R nr cr] := by rw [← hw1]; exact (Held.new w _ _).alloc _
  have hQ1 : Held w1 (w.heap.size + 1) 34 #[.int .i64 1, .int .i64 0, .slice A2 nb2 cb2, .slice R2 0 cr2] := by rw [← hw1]; have := Held.new (w.alloc (.cells #[.int .i64 1, .int .i64 addr, .int .i64 count, .int .i64 to, .slice A nb cb, .slice R nr cr] 25)) 34 #[.int .i64 1, .int .i64 0, .slice A2 nb2 cb2, .slice R2 0 cr2]; rw [World.size_alloc] at this; exact this
  have hu := Tryd.underlying25
  have hsz : (Tryd.prog.info? 25).map (·.size) = some 6 := by kernel_rfl
  have hc := may_any (.agg #[.int .i64 1, .int .i64 addr, .int .i64 count, .int .i64 to, .slice A nb cb, .slice R nr cr]) ⟨1, addr, count, to, bits, regs⟩ w1 ⟨A, nb, cb, R, nr, cr, rfl, hA.up hb1, hR.up hb1⟩
  rw [hm] at hc
  have HC := Lib.hid hc
  clear hc
  have HN := Lib.hid hn
  have HA := Lib.hid (fun (X : World) (h : Below w.heap.size w X) => hA.up h)
  have HR := Lib.hid (fun (X : World) (h : Below w.heap.size w X) => hR.up h)
  have HA2 := Lib.hid (fun (X : World) (h : Below w.heap.size w X) => hA2.up h)
  have HR2 := Lib.hid (fun (X : World) (h : Below w.heap.size w X) => hR2.up h)
  have HM := Lib.hid hm
  have hl2 := Lib.hid hA2.1
  have hlr2 := Lib.hid hR2.1
  obtain ⟨i0, hi, hz0, hz1', hz2'⟩ := info_parts infoU8
  clear hA hR hA2 hR2 hm hn
  have t1 : (((nb2 : Nat) : Int) != count) = false := by simp; omega
  have hk2 : nb2 ≤ 2000 := by omega
  have hk3 : 1 ≤ nb2 := by omega
  have hpl : (packN bits2).length < 256 := by rw [packN_len, hl2.out]; omega
  have hpos : 0 < (packN bits2).length := by rw [packN_len, hl2.out]; omega
  have hpm : ((packN bits2).length : Int) % 256 = (packN bits2).length := by omega
  have B1 := Lib.hid b1
  have B2 := Lib.hid b2
  clear b1 b2
  go_in
  go_wp2_with ((with_reducible refine at_loadT 25 2 ?_); refine wpList_load_rowG rfl 25 (.tmp 2) rfl w.heap.size rfl 25 _ _ hP1 hu rfl hsz ?_)
  refine HC.out.mono ?_
  rintro e w2 ⟨rfl, hb2⟩
  have hz2 := hb2.size
  have hP2 := hP1.below hb2 hP1.lt
  have hQ2 := hQ1.below hb2 hQ1.lt
  have hlt2 := hP2.lt
  have hlq2 := hQ2.lt
  have hb2w := hb1.trans (hb2.mono (by omega))
  have ka0 : w2.cell? ⟨w.heap.size, 0, none⟩ = some (.int .i64 1) := hP2.cell 0
  have ka1 : w2.cell? ⟨w.heap.size, 1, none⟩ = some (.int .i64 addr) := hP2.cell 1
  have ka2 : w2.cell? ⟨w.heap.size, 2, none⟩ = some (.int .i64 count) := hP2.cell 2
  have ka3 : w2.cell? ⟨w.heap.size, 3, none⟩ = some (.int .i64 to) := hP2.cell 3
  have ka4 : w2.cell? ⟨w.heap.size, 4, none⟩ = some (.slice A nb cb) := hP2.cell 4
  have ka5 : w2.cell? ⟨w.heap.size, 5, none⟩ = some (.slice R nr cr) := hP2.cell 5
  have kr0 : w2.cell? ⟨w.heap.size + 1, 0, none⟩ = some (.int .i64 1) := hQ2.cell 0
  have kr1 : w2.cell? ⟨w.heap.size + 1, 1, none⟩ = some (.int .i64 0) := hQ2.cell 1
  have kr2 : w2.cell? ⟨w.heap.size + 1, 2, none⟩ = some (.slice A2 nb2 cb2) := hQ2.cell 2
  have kr3 : w2.cell? ⟨w.heap.size + 1, 3, none⟩ = some (.slice R2 0 cr2) := hQ2.cell 3
  obtain ⟨w3, hw3⟩ : ∃ w3, w2.alloc (.cells #[.int .u8 1] 5) = w3 := ⟨_, rfl⟩
  have hb3 : Below w2.heap.size w2 w3 := by rw [← hw3]; exact (Below.refl _ w2).alloc (Nat.le_refl _) _
  have ho3 : w3.ownsRow w2.heap.size 5 1 (.slice (some ⟨w2.heap.size, 0, none⟩) 1 1) 1 ([(1 : Int)].map (Value.int .u8)) := by rw [← hw3]; exact lit_own _ _ _ (Nat.le_refl _)
  have hb3w := hb2w.trans (hb3.mono hb2w.size)
  have Bw3 : Below w2.heap.size w2 w3 := hb3
  have Zw3 := Bw3.size
  have hP0 := hP2
  have hQ0 := hQ2
  have hPw3 := hP2.below Bw3 hP2.lt
  have hQw3 := hQ2.below Bw3 hQ2.lt
  have lhPw3 := hPw3.lt
  have lhQw3 := hQw3.lt
  have hPw30 : w3.cell? ⟨w.heap.size, 0, none⟩ = some (.int .i64 1) := hPw3.cell 0
  have hPw31 : w3.cell? ⟨w.heap.size, 1, none⟩ = some (.int .i64 addr) := hPw3.cell 1
  have hPw32 : w3.cell? ⟨w.heap.size, 2, none⟩ = some (.int .i64 count) := hPw3.cell 2
  have hPw33 : w3.cell? ⟨w.heap.size, 3, none⟩ = some (.int .i64 to) := hPw3.cell 3
  have hPw34 : w3.cell? ⟨w.heap.size, 4, none⟩ = some (.slice A nb cb) := hPw3.cell 4
  have hPw35 : w3.cell? ⟨w.heap.size, 5, none⟩ = some (.slice R nr cr) := hPw3.cell 5
  have hQw30 : w3.cell? ⟨(w.heap.size + 1), 0, none⟩ = some (.int .i64 1) := hQw3.cell 0
  have hQw31 : w3.cell? ⟨(w.heap.size + 1), 1, none⟩ = some (.int .i64 0) := hQw3.cell 1
  have hQw32 : w3.cell? ⟨(w.heap.size + 1), 2, none⟩ = some (.slice A2 nb2 cb2) := hQw3.cell 2
  have hQw33 : w3.cell? ⟨(w.heap.size + 1), 3, none⟩ = some (.slice R2 0 cr2) := hQw3.cell 3
  have HC1 := Lib.hid (refpack_any A2 nb2 cb2 bits2 (by omega) w3 (HA2.out w3 (hb2w.trans (Bw3.mono hb2w.size))))
  go_wp2_with fail
  refine HC1.out.mono ?_
  rintro e wc1 ⟨vp, rfl, op, hbwc1⟩
  have gp := fun g h => (op.lt g h).1
  obtain ⟨Ap, cp, rfl, sp0⟩ := SlI.of_own op
  have fp0 : OffRow (.slice (some ⟨w2.heap.size, 0, none⟩) 1 1) Ap := fun g hg a ha e => by { subst ha; have h1 := gp a.block rfl; have h2 := (ho3.lt g hg).2; omega }
  have ot1 := own_up ho3 hbwc1
  clear op gp
  have hzwc1 : w3.heap.size ≤ wc1.heap.size := hbwc1.size
  have Bwc1 : Below w2.heap.size w2 wc1 := Bw3.trans (hbwc1.mono Bw3.size)
  have Zwc1 := Bwc1.size
  have hPwc1 := hPw3.below hbwc1 hPw3.lt
  have lhPwc1 := hPwc1.lt
  have hQwc1 := hQw3.below hbwc1 hQw3.lt
  have lhQwc1 := hQwc1.lt
  have hPwc10 : wc1.cell? ⟨w.heap.size, 0, none⟩ = some (.int .i64 1) := hPwc1.cell 0
  have hPwc11 : wc1.cell? ⟨w.heap.size, 1, none⟩ = some (.int .i64 addr) := hPwc1.cell 1
  have hPwc12 : wc1.cell? ⟨w.heap.size, 2, none⟩ = some (.int .i64 count) := hPwc1.cell 2
  have hPwc13 : wc1.cell? ⟨w.heap.size, 3, none⟩ = some (.int .i64 to) := hPwc1.cell 3
  have hPwc14 : wc1.cell? ⟨w.heap.size, 4, none⟩ = some (.slice A nb cb) := hPwc1.cell 4
  have hPwc15 : wc1.cell? ⟨w.heap.size, 5, none⟩ = some (.slice R nr cr) := hPwc1.cell 5
  have hQwc10 : wc1.cell? ⟨(w.heap.size + 1), 0, none⟩ = some (.int .i64 1) := hQwc1.cell 0
  have hQwc11 : wc1.cell? ⟨(w.heap.size + 1), 1, none⟩ = some (.int .i64 0) := hQwc1.cell 1
  have hQwc12 : wc1.cell? ⟨(w.heap.size + 1), 2, none⟩ = some (.slice A2 nb2 cb2) := hQwc1.cell 2
  have hQwc13 : wc1.cell? ⟨(w.heap.size + 1), 3, none⟩ = some (.slice R2 0 cr2) := hQwc1.cell 3
  have spwc1 := sp0
  have fpwc1 := fp0
  go_wp2_with (first
    | ((with_reducible refine at_append ?_); refine wpList_append_sl (wc1.alloc (.cells #[.int .u8 ((packN bits2).length : Int)] 5)) rfl _ _ 28 rfl w2.heap.size 5 i0 (.int .u8 0) 1 Tryd.underlying28 hi hz0 hz1' hz2' rfl (.slice (some ⟨w2.heap.size, 0, none⟩) 1 1) 1 _ rfl (ot1.alloc (.cells #[.int .u8 ((packN bits2).length : Int)] 5)) (wc1.alloc (.cells #[.int .u8 ((packN bits2).length : Int)] 5)).heap.size .u8 (some ⟨wc1.heap.size, 0, none⟩) 1 1 [((packN bits2).length : Int)] rfl (SlI.of_lit (w := wc1) (T := 5) (cs := #[.int .u8 ((packN bits2).length : Int)]) rfl rfl (by omega)) (by unfold maxLen; omega) (by omega) (by rw [World.size_alloc]; omega) ?_; intro va2 wa2 oa2 hgr hlies; have spwa2 := (spwc1.alloc (.cells #[.int .u8 ((packN bits2).length : Int)] 5)).grown hgr fpwc1; have fpwa2 := fpwc1.next (spwc1.alloc (.cells #[.int .u8 ((packN bits2).length : Int)] 5)) hpos hlies; have Bwa2 : Below w2.heap.size w2 wa2 := (Bwc1.alloc Zwc1 (.cells #[.int .u8 ((packN bits2).length : Int)] 5)).grown hgr (by rw [World.size_alloc]; omega) (fun j hj => (ot1.lt j hj).1); have Zwa2 := Bwa2.size; have hPwa2 := hP0.below Bwa2 hP0.lt; have lhPwa2 := hPwa2.lt; have hQwa2 := hQ0.below Bwa2 hQ0.lt; have lhQwa2 := hQwa2.lt; have hPwa20 : wa2.cell? ⟨w.heap.size, 0, none⟩ = some (.int .i64 1) := hPwa2.cell 0; have hPwa21 : wa2.cell? ⟨w.heap.size, 1, none⟩ = some (.int .i64 addr) := hPwa2.cell 1; have hPwa22 : wa2.cell? ⟨w.heap.size, 2, none⟩ = some (.int .i64 count) := hPwa2.cell 2; have hPwa23 : wa2.cell? ⟨w.heap.size, 3, none⟩ = some (.int .i64 to) := hPwa2.cell 3; have hPwa24 : wa2.cell? ⟨w.heap.size, 4, none⟩ = some (.slice A nb cb) := hPwa2.cell 4; have hPwa25 : wa2.cell? ⟨w.heap.size, 5, none⟩ = some (.slice R nr cr) := hPwa2.cell 5; have hQwa20 : wa2.cell? ⟨(w.heap.size + 1), 0, none⟩ = some (.int .i64 1) := hQwa2.cell 0; have hQwa21 : wa2.cell? ⟨(w.heap.size + 1), 1, none⟩ = some (.int .i64 0) := hQwa2.cell 1; have hQwa22 : wa2.cell? ⟨(w.heap.size + 1), 2, none⟩ = some (.slice A2 nb2 cb2) := hQwa2.cell 2; have hQwa23 : wa2.cell? ⟨(w.heap.size + 1), 3, none⟩ = some (.slice R2 0 cr2) := hQwa2.cell 3; rw [← List.map_append] at oa2; have Ooa2 := Lib.hid oa2; clear hgr hlies)
    | ((with_reducible refine at_append ?_); refine wpList_append_sl wa2 rfl _ _ 28 rfl w2.heap.size 5 i0 (.int .u8 0) 1 Tryd.underlying28 hi hz0 hz1' hz2' rfl va2 (1 + 1) _ rfl oa2 wa2.heap.size .u8 Ap (packN bits2).length cp (packN bits2) rfl spwa2 (by unfold maxLen; omega) (by omega) Zwa2 ?_; intro va3 wa3 oa3 hgr hlies; have spwa3 := spwa2.grown hgr fpwa2; have fpwa3 := fpwa2.next spwa2 hpos hlies; have Bwa3 : Below w2.heap.size w2 wa3 := Bwa2.grown hgr Zwa2 (fun j hj => (oa2.lt j hj).1); have Zwa3 := Bwa3.size; have hPwa3 := hP0.below Bwa3 hP0.lt; have lhPwa3 := hPwa3.lt; have hQwa3 := hQ0.below Bwa3 hQ0.lt; have lhQwa3 := hQwa3.lt; have hPwa30 : wa3.cell? ⟨w.heap.size, 0, none⟩ = some (.int .i64 1) := hPwa3.cell 0; have hPwa31 : wa3.cell? ⟨w.heap.size, 1, none⟩ = some (.int .i64 addr) := hPwa3.cell 1; have hPwa32 : wa3.cell? ⟨w.heap.size, 2, none⟩ = some (.int .i64 count) := hPwa3.cell 2; have hPwa33 : wa3.cell? ⟨w.heap.size, 3, none⟩ = some (.int .i64 to) := hPwa3.cell 3; have hPwa34 : wa3.cell? ⟨w.heap.size, 4, none⟩ = some (.slice A nb cb) := hPwa3.cell 4; have hPwa35 : wa3.cell? ⟨w.heap.size, 5, none⟩ = some (.slice R nr cr) := hPwa3.cell 5; have hQwa30 : wa3.cell? ⟨(w.heap.size + 1), 0, none⟩ = some (.int .i64 1) := hQwa3.cell 0; have hQwa31 : wa3.cell? ⟨(w.heap.size + 1), 1, none⟩ = some (.int .i64 0) := hQwa3.cell 1; have hQwa32 : wa3.cell? ⟨(w.heap.size + 1), 2, none⟩ = some (.slice A2 nb2 cb2) := hQwa3.cell 2; have hQwa33 : wa3.cell? ⟨(w.heap.size + 1), 3, none⟩ = some (.slice R2 0 cr2) := hQwa3.cell 3; rw [← List.map_append] at oa3; have Ooa3 := Lib.hid oa3; clear hgr hlies))
  go_ret2
  exact ans_some (by rw [HN.out, if_neg (by have := B1.out; have := B2.out; omega)]; simp) oa3 (hb2w.trans (Bwa3.mono hb2w.size))
set_option maxRecDepth 100000 in
set_option maxHeartbeats 2000000 in
theorem ra_2a (fn addr count to : Int) (bits : List Bool) (regs : List Int) (A : Option Addr) (nb cb : Nat) (R : Option Addr) (nr cr : Nat) (rfn code : Int) (bits2 : List Bool) (regs2 : List Int) (A2 : Option Addr) (nb2 cb2 : Nat) (R2 : Option Addr) (nr2 cr2 : Nat) (w : World) (hA : SlB w w.heap.size A nb cb bits) (hR : SlI w w.heap.size .u16 R nr cr regs) (hA2 : SlB w w.heap.size A2 nb2 cb2 bits2) (hR2 : SlI w w.heap.size .u16 R2 nr2 cr2 regs2) (o : Option (List Int)) (hm : mayP ⟨fn, addr, count, to, bits, regs⟩ = true) (hq : rfn = fn) (hfn : fn = 2) (hz : code = 0) (hy : Reg16 regs) (hy2 : Reg16 regs2) (ha : 0 ≤ addr ∧ addr < 65536) (k1 : nb ≤ 1968) (k2 : nr ≤ 123) (hcnt : 1 ≤ count ∧ count ≤ 2000) (hn : o = if (nb2 : Int) ≠ count ∨ (nr2 : Int) ≠ 0 then none else some (2 :: ((packN bits2).length : Int) :: packN bits2)) (b1 : (nb2 : Int) ≠ count) : Calls Tryd.prog 14 #[.agg #[.int .i64 fn, .int .i64 addr, .int .i64 count, .int .i64 to, .slice A nb cb, .slice R nr cr], .agg #[.int .i64 rfn, .int .i64 code, .slice A2 nb2 cb2, .slice R2 nr2 cr2]] w (AnsPost w o) := by
  subst hq hfn hz
  obtain ⟨w1, hw1⟩ : ∃ w1, (w.alloc (.cells #[.int .i64 2, .int .i64 addr, .int .i64 count, .int .i64 to, .slice A nb cb, .slice R nr cr] 25)).alloc (.cells #[.int .i64 2, .int .i64 0, .slice A2 nb2 cb2, .slice R2 nr2 cr2] 34) = w1 := ⟨_, rfl⟩
  have hb1 : Below w.heap.size w w1 := by rw [← hw1]; exact ((Below.refl _ w).alloc (Nat.le_refl _) _).alloc (by simp) _
  have hz1 : w1.heap.size = w.heap.size + 2 := by rw [← hw1]; simp
  have hP1 : Held w1 w.heap.size 25 #[.int .i64 2, .int .i64 addr, .int .i64 count, .int .i64 to, .slice A nb cb, .slice R nr cr] := by rw [← hw1]; exact (Held.new w _ _).alloc _
  have hQ1 : Held w1 (w.heap.size + 1) 34 #[.int .i64 2, .int .i64 0, .slice A2 nb2 cb2, .slice R2 nr2 cr2] := by rw [← hw1]; have := Held.new (w.alloc (.cells #[.int .i64 2, .int .i64 addr, .int .i64 count, .int .i64 to, .slice A nb cb, .slice R nr cr] 25)) 34 #[.int .i64 2, .int .i64 0, .slice A2 nb2 cb2, .slice R2 nr2 cr2]; rw [World.size_alloc] at this; exact this
  have hu := Tryd.underlying25
  have hsz : (Tryd.prog.info? 25).map (·.size) = some 6 := by kernel_rfl
  have hc := may_any (.agg #[.int .i64 2, .int .i64 addr, .int .i64 count, .int .i64 to, .slice A nb cb, .slice R nr cr]) ⟨2, addr, count, to, bits, regs⟩ w1 ⟨A, nb, cb, R, nr, cr, rfl, hA.up hb1, hR.up hb1⟩
  rw [hm] at hc
  have HC := Lib.hid hc
  clear hc
  have HN := Lib.hid hn
  have HA := Lib.hid (fun (X : World) (h : Below w.heap.size w X) => hA.up h)
  have HR := Lib.hid (fun (X : World) (h : Below w.heap.size w X) => hR.up h)
  have HA2 := Lib.hid (fun (X : World) (h : Below w.heap.size w X) => hA2.up h)
  have HR2 := Lib.hid (fun (X : World) (h : Below w.heap.size w X) => hR2.up h)
  have HM := Lib.hid hm
  have hl2 := Lib.hid hA2.1
  have hlr2 := Lib.hid hR2.1
  obtain ⟨i0, hi, hz0, hz1', hz2'⟩ := info_parts infoU8
  clear hA hR hA2 hR2 hm hn
  have t1 : (((nb2 : Nat) : Int) != count) = true := by simpa using b1
  go_in
  go_wp2_with ((with_reducible refine at_loadT 25 2 ?_); refine wpList_load_rowG rfl 25 (.tmp 2) rfl w.heap.size rfl 25 _ _ hP1 hu rfl hsz ?_)
  refine HC.out.mono ?_
  rintro e w2 ⟨rfl, hb2⟩
  have hz2 := hb2.size
  have hP2 := hP1.below hb2 hP1.lt
  have hQ2 := hQ1.below hb2 hQ1.lt
  have hlt2 := hP2.lt
  have hlq2 := hQ2.lt
  have hb2w := hb1.trans (hb2.mono (by omega))
  have ka0 : w2.cell? ⟨w.heap.size, 0, none⟩ = some (.int .i64 2) := hP2.cell 0
  have ka1 : w2.cell? ⟨w.heap.size, 1, none⟩ = some (.int .i64 addr) := hP2.cell 1
  have ka2 : w2.cell? ⟨w.heap.size, 2, none⟩ = some (.int .i64 count) := hP2.cell 2
  have ka3 : w2.cell? ⟨w.heap.size, 3, none⟩ = some (.int .i64 to) := hP2.cell 3
  have ka4 : w2.cell? ⟨w.heap.size, 4, none⟩ = some (.slice A nb cb) := hP2.cell 4
  have ka5 : w2.cell? ⟨w.heap.size, 5, none⟩ = some (.slice R nr cr) := hP2.cell 5
  have kr0 : w2.cell? ⟨w.heap.size + 1, 0, none⟩ = some (.int .i64 2) := hQ2.cell 0
  have kr1 : w2.cell? ⟨w.heap.size + 1, 1, none⟩ = some (.int .i64 0) := hQ2.cell 1
  have kr2 : w2.cell? ⟨w.heap.size + 1, 2, none⟩ = some (.slice A2 nb2 cb2) := hQ2.cell 2
  have kr3 : w2.cell? ⟨w.heap.size + 1, 3, none⟩ = some (.slice R2 nr2 cr2) := hQ2.cell 3
  go_wp2_with fail
  go_ret2
  exact ans_none (by rw [HN.out, if_pos (by left; exact b1)]) hb2w
set_option maxRecDepth 100000 in
set_option maxHeartbeats 2000000 in
theorem ra_2b (fn addr count to : Int) (bits : List Bool) (regs : List Int) (A : Option Addr) (nb cb : Nat) (R : Option Addr) (nr cr : Nat) (rfn code : Int) (bits2 : List Bool) (regs2 : List Int) (A2 : Option Addr) (nb2 cb2 : Nat) (R2 : Option Addr) (nr2 cr2 : Nat) (w : World) (hA : SlB w w.heap.size A nb cb bits) (hR : SlI w w.heap.size .u16 R nr cr regs) (hA2 : SlB w w.heap.size A2 nb2 cb2 bits2) (hR2 : SlI w w.heap.size .u16 R2 nr2 cr2 regs2) (o : Option (List Int)) (hm : mayP ⟨fn, addr, count, to, bits, regs⟩ = true) (hq : rfn = fn) (hfn : fn = 2) (hz : code = 0) (hy : Reg16 regs) (hy2 : Reg16 regs2) (ha : 0 ≤ addr ∧ addr < 65536) (k1 : nb ≤ 1968) (k2 : nr ≤ 123) (hcnt : 1 ≤ count ∧ count ≤ 2000) (hn : o = if (nb2 : Int) ≠ count ∨ (nr2 : Int) ≠ 0 then none else some (2 :: ((packN bits2).length : Int) :: packN bits2)) (b1 : (nb2 : Int) = count) (b2 : (nr2 : Int) ≠ 0) : Calls Tryd.prog 14 #[.agg #[.int .i64 fn, .int .i64 addr, .int .i64 count, .int .i64 to, .slice A nb cb, .slice R nr cr], .agg #[.int .i64 rfn, .int .i64 code, .slice A2 nb2 cb2, .slice R2 nr2 cr2]] w (AnsPost w o) := by
  subst hq hfn hz
  obtain ⟨w1, hw1⟩ : ∃ w1, (w.alloc (.cells #[.int .i64 2, .int .i64 addr, .int .i64 count, .int .i64 to, .slice A nb cb, .slice R nr cr] 25)).alloc (.cells #[.int .i64 2, .int .i64 0, .slice A2 nb2 cb2, .slice R2 nr2 cr2] 34) = w1 := ⟨_, rfl⟩
  have hb1 : Below w.heap.size w w1 := by rw [← hw1]; exact ((Below.refl _ w).alloc (Nat.le_refl _) _).alloc (by simp) _
  have hz1 : w1.heap.size = w.heap.size + 2 := by rw [← hw1]; simp
  have hP1 : Held w1 w.heap.size 25 #[.int .i64 2, .int .i64 addr, .int .i64 count, .int .i64 to, .slice A nb cb, .slice R nr cr] := by rw [← hw1]; exact (Held.new w _ _).alloc _
  have hQ1 : Held w1 (w.heap.size + 1) 34 #[.int .i64 2, .int .i64 0, .slice A2 nb2 cb2, .slice R2 nr2 cr2] := by rw [← hw1]; have := Held.new (w.alloc (.cells #[.int .i64 2, .int .i64 addr, .int .i64 count, .int .i64 to, .slice A nb cb, .slice R nr cr] 25)) 34 #[.int .i64 2, .int .i64 0, .slice A2 nb2 cb2, .slice R2 nr2 cr2]; rw [World.size_alloc] at this; exact this
  have hu := Tryd.underlying25
  have hsz : (Tryd.prog.info? 25).map (·.size) = some 6 := by kernel_rfl
  have hc := may_any (.agg #[.int .i64 2, .int .i64 addr, .int .i64 count, .int .i64 to, .slice A nb cb, .slice R nr cr]) ⟨2, addr, count, to, bits, regs⟩ w1 ⟨A, nb, cb, R, nr, cr, rfl, hA.up hb1, hR.up hb1⟩
  rw [hm] at hc
  have HC := Lib.hid hc
  clear hc
  have HN := Lib.hid hn
  have HA := Lib.hid (fun (X : World) (h : Below w.heap.size w X) => hA.up h)
  have HR := Lib.hid (fun (X : World) (h : Below w.heap.size w X) => hR.up h)
  have HA2 := Lib.hid (fun (X : World) (h : Below w.heap.size w X) => hA2.up h)
  have HR2 := Lib.hid (fun (X : World) (h : Below w.heap.size w X) => hR2.up h)
  have HM := Lib.hid hm
  have hl2 := Lib.hid hA2.1
  have hlr2 := Lib.hid hR2.1
  obtain ⟨i0, hi, hz0, hz1', hz2'⟩ := info_parts infoU8
  clear hA hR hA2 hR2 hm hn
  have t1 : (((nb2 : Nat) : Int) != count) = false := by simp; omega
  have B1 := Lib.hid b1
  clear b1
  have t2 : (((nr2 : Nat) : Int) != 0) = true := by simpa using b2
  go_in
  go_wp2_with ((with_reducible refine at_loadT 25 2 ?_); refine wpList_load_rowG rfl 25 (.tmp 2) rfl w.heap.size rfl 25 _ _ hP1 hu rfl hsz ?_)
  refine HC.out.mono ?_
  rintro e w2 ⟨rfl, hb2⟩
  have hz2 := hb2.size
  have hP2 := hP1.below hb2 hP1.lt
  have hQ2 := hQ1.below hb2 hQ1.lt
  have hlt2 := hP2.lt
  have hlq2 := hQ2.lt
  have hb2w := hb1.trans (hb2.mono (by omega))
  have ka0 : w2.cell? ⟨w.heap.size, 0, none⟩ = some (.int .i64 2) := hP2.cell 0
  have ka1 : w2.cell? ⟨w.heap.size, 1, none⟩ = some (.int .i64 addr) := hP2.cell 1
  have ka2 : w2.cell? ⟨w.heap.size, 2, none⟩ = some (.int .i64 count) := hP2.cell 2
  have ka3 : w2.cell? ⟨w.heap.size, 3, none⟩ = some (.int .i64 to) := hP2.cell 3
  have ka4 : w2.cell? ⟨w.heap.size, 4, none⟩ = some (.slice A nb cb) := hP2.cell 4
  have ka5 : w2.cell? ⟨w.heap.size, 5, none⟩ = some (.slice R nr cr) := hP2.cell 5
  have kr0 : w2.cell? ⟨w.heap.size + 1, 0, none⟩ = some (.int .i64 2) := hQ2.cell 0
  have kr1 : w2.cell? ⟨w.heap.size + 1, 1, none⟩ = some (.int .i64 0) := hQ2.cell 1
  have kr2 : w2.cell? ⟨w.heap.size + 1, 2, none⟩ = some (.slice A2 nb2 cb2) := hQ2.cell 2
  have kr3 : w2.cell? ⟨w.heap.size + 1, 3, none⟩ = some (.slice R2 nr2 cr2) := hQ2.cell 3
  go_wp2_with fail
  go_ret2
  exact ans_none (by rw [HN.out, if_pos (by right; exact b2)]) hb2w
set_option maxRecDepth 100000 in
set_option maxHeartbeats 2000000 in
theorem ra_2c (fn addr count to : Int) (bits : List Bool) (regs : List Int) (A : Option Addr) (nb cb : Nat) (R : Option Addr) (nr cr : Nat) (rfn code : Int) (bits2 : List Bool) (regs2 : List Int) (A2 : Option Addr) (nb2 cb2 : Nat) (R2 : Option Addr) (nr2 cr2 : Nat) (w : World) (hA : SlB w w.heap.size A nb cb bits) (hR : SlI w w.heap.size .u16 R nr cr regs) (hA2 : SlB w w.heap.size A2 nb2 cb2 bits2) (hR2 : SlI w w.heap.size .u16 R2 nr2 cr2 regs2) (o : Option (List Int)) (hm : mayP ⟨fn, addr, count, to, bits, regs⟩ = true) (hq : rfn = fn) (hfn : fn = 2) (hz : code = 0) (hy : Reg16 regs) (hy2 : Reg16 regs2) (ha : 0 ≤ addr ∧ addr < 65536) (k1 : nb ≤ 1968) (k2 : nr ≤ 123) (hcnt : 1 ≤ count ∧ count ≤ 2000) (hn : o = if (nb2 : Int) ≠ count ∨ (nr2 : Int) ≠ 0 then none else some (2 :: ((packN bits2).length : Int) :: packN bits2)) (b1 : (nb2 : Int) = count) (b2 : (nr2 : Int) = 0) : Calls Tryd.prog 14 #[.agg #[.int .i64 fn, .int .i64 addr, .int .i64 count, .int .i64 to, .slice A nb cb, .slice R nr cr], .agg #[.int .i64 rfn, .int .i64 code, .slice A2 nb2 cb2, .slice R2 nr2 cr2]] w (AnsPost w o) := by
  subst hq hfn hz
  obtain rfl : nr2 = 0 := by omega
  obtain ⟨w1, hw1⟩ : ∃ w1, (w.alloc (.cells #[.int .i64 2, .int .i64 addr, .int .i64 count, .int .i64 to, .slice A nb cb, .slice R nr cr] 25)).alloc (.cells #[.int .i64 2, .int .i64 0, .slice A2 nb2 cb2, .slice R2 0 cr2] 34) = w1 := ⟨_, rfl⟩
  have hb1 : Below w.heap.size w w1 := by rw [← hw1]; exact ((Below.refl _ w).alloc (Nat.le_refl _) _).alloc (by simp) _
  have hz1 : w1.heap.size = w.heap.size + 2 := by rw [← hw1]; simp
  have hP1 : Held w1 w.heap.size 25 #[.int .i64 2, .int .i64 addr, .int .i64 count, .int .i64 to, .slice A nb cb, .slice R nr cr] := by rw [← hw1]; exact (Held.new w _ _).alloc _
  have hQ1 : Held w1 (w.heap.size + 1) 34 #[.int .i64 2, .int .i64 0, .slice A2 nb2 cb2, .slice R2 0 cr2] := by rw [← hw1]; have := Held.new (w.alloc (.cells #[.int .i64 2, .int .i64 addr, .int .i64 count, .int .i64 to, .slice A nb cb, .slice R nr cr] 25)) 34 #[.int .i64 2, .int .i64 0, .slice A2 nb2 cb2, .slice R2 0 cr2]; rw [World.size_alloc] at this; exact this
  have hu := Tryd.underlying25
  have hsz : (Tryd.prog.info? 25).map (·.size) = some 6 := by kernel_rfl
  have hc := may_any (.agg #[.int .i64 2, .int .i64 addr, .int .i64 count, .int .i64 to, .slice A nb cb, .slice R nr cr]) ⟨2, addr, count, to, bits, regs⟩ w1 ⟨A, nb, cb, R, nr, cr, rfl, hA.up hb1, hR.up hb1⟩
  rw [hm] at hc
  have HC := Lib.hid hc
  clear hc
  have HN := Lib.hid hn
  have HA := Lib.hid (fun (X : World) (h : Below w.heap.size w X) => hA.up h)
  have HR := Lib.hid (fun (X : World) (h : Below w.heap.size w X) => hR.up h)
  have HA2 := Lib.hid (fun (X : World) (h : Below w.heap.size w X) => hA2.up h)
  have HR2 := Lib.hid (fun (X : World) (h : Below w.heap.size w X) => hR2.up h)
  have HM := Lib.hid hm
  have hl2 := Lib.hid hA2.1
  have hlr2 := Lib.hid hR2.1
  obtain ⟨i0, hi, hz0, hz1', hz2'⟩ := info_parts infoU8
  clear hA hR hA2 hR2 hm hn
  have t1 : (((nb2 : Nat) : Int) != count) = false := by simp; omega
  have hk2 : nb2 ≤ 2000 := by omega
  have hk3 : 1 ≤ nb2 := by omega
  have hpl : (packN bits2).length < 256 := by rw [packN_len, hl2.out]; omega
  have hpos : 0 < (packN bits2).length := by rw [packN_len, hl2.out]; omega
  have hpm : ((packN bits2).length : Int) % 256 = (packN bits2).length := by omega
  have B1 := Lib.hid b1
  have B2 := Lib.hid b2
  clear b1 b2
  go_in
  go_wp2_with ((with_reducible refine at_loadT 25 2 ?_); refine wpList_load_rowG rfl 25 (.tmp 2) rfl w.heap.size rfl 25 _ _ hP1 hu rfl hsz ?_)
  refine HC.out.mono ?_
  rintro e w2 ⟨rfl, hb2⟩
  have hz2 := hb2.size
  have hP2 := hP1.below hb2 hP1.lt
  have hQ2 := hQ1.below hb2 hQ1.lt
  have hlt2 := hP2.lt
  have hlq2 := hQ2.lt
  have hb2w := hb1.trans (hb2.mono (by omega))
  have ka0 : w2.cell? ⟨w.heap.size, 0, none⟩ = some (.int .i64 2) := hP2.cell 0
  have ka1 : w2.cell? ⟨w.heap.size, 1, none⟩ = some (.int .i64 addr) := hP2.cell 1
  have ka2 : w2.cell? ⟨w.heap.size, 2, none⟩ = some (.int .i64 count) := hP2.cell 2
  have ka3 : w2.cell? ⟨w.heap.size, 3, none⟩ = some (.int .i64 to) := hP2.cell 3
  have ka4 : w2.cell? ⟨w.heap.size, 4, none⟩ = some (.slice A nb cb) := hP2.cell 4
  have ka5 : w2.cell? ⟨w.heap.size, 5, none⟩ = some (.slice R nr cr) := hP2.cell 5
  have kr0 : w2.cell? ⟨w.heap.size + 1, 0, none⟩ = some (.int .i64 2) := hQ2.cell 0
  have kr1 : w2.cell? ⟨w.heap.size + 1, 1, none⟩ = some (.int .i64 0) := hQ2.cell 1
  have kr2 : w2.cell? ⟨w.heap.size + 1, 2, none⟩ = some (.slice A2 nb2 cb2) := hQ2.cell 2
  have kr3 : w2.cell? ⟨w.heap.size + 1, 3, none⟩ = some (.slice R2 0 cr2) := hQ2.cell 3
  obtain ⟨w3, hw3⟩ : ∃ w3, w2.alloc (.cells #[.int .u8 2] 5) = w3 := ⟨_, rfl⟩
  have hb3 : Below w2.heap.size w2 w3 := by rw [← hw3]; exact (Below.refl _ w2).alloc (Nat.le_refl _) _
  have ho3 : w3.ownsRow w2.heap.size 5 1 (.slice (some ⟨w2.heap.size, 0, none⟩) 1 1) 1 ([(2 : Int)].map (Value.int .u8)) := by rw [← hw3]; exact lit_own _ _ _ (Nat.le_refl _)
  have hb3w := hb2w.trans (hb3.mono hb2w.size)
  have Bw3 : Below w2.heap.size w2 w3 := hb3
  have Zw3 := Bw3.size
  have hP0 := hP2
  have hQ0 := hQ2
  have hPw3 := hP2.below Bw3 hP2.lt
  have hQw3 := hQ2.below Bw3 hQ2.lt
  have lhPw3 := hPw3.lt
  have lhQw3 := hQw3.lt
  have hPw30 : w3.cell? ⟨w.heap.size, 0, none⟩ = some (.int .i64 2) := hPw3.cell 0
  have hPw31 : w3.cell? ⟨w.heap.size, 1, none⟩ = some (.int .i64 addr) := hPw3.cell 1
  have hPw32 : w3.cell? ⟨w.heap.size, 2, none⟩ = some (.int .i64 count) := hPw3.cell 2
  have hPw33 : w3.cell? ⟨w.heap.size, 3, none⟩ = some (.int .i64 to) := hPw3.cell 3
  have hPw34 : w3.cell? ⟨w.heap.size, 4, none⟩ = some (.slice A nb cb) := hPw3.cell 4
  have hPw35 : w3.cell? ⟨w.heap.size, 5, none⟩ = some (.slice R nr cr) := hPw3.cell 5
  have hQw30 : w3.cell? ⟨(w.heap.size + 1), 0, none⟩ = some (.int .i64 2) := hQw3.cell 0
  have hQw31 : w3.cell? ⟨(w.heap.size + 1), 1, none⟩ = some (.int .i64 0) := hQw3.cell 1
  have hQw32 : w3.cell? ⟨(w.heap.size + 1), 2, none⟩ = some (.slice A2 nb2 cb2) := hQw3.cell 2
  have hQw33 : w3.cell? ⟨(w.heap.size + 1), 3, none⟩ = some (.slice R2 0 cr2) := hQw3.cell 3
  have HC1 := Lib.hid (refpack_any A2 nb2 cb2 bits2 (by omega) w3 (HA2.out w3 (hb2w.trans (Bw3.mono hb2w.size))))
  go_wp2_with fail
  refine HC1.out.mono ?_
  rintro e wc1 ⟨vp, rfl, op, hbwc1⟩
  have gp := fun g h => (op.lt g h).1
  obtain ⟨Ap, cp, rfl, sp0⟩ := SlI.of_own op
  have fp0 : OffRow (.slice (some ⟨w2.heap.size, 0, none⟩) 1 1) Ap := fun g hg a ha e => by { subst ha; have h1 := gp a.block rfl; have h2 := (ho3.lt g hg).2; omega }
  have ot1 := own_up ho3 hbwc1
  clear op gp
  have hzwc1 : w3.heap.size ≤ wc1.heap.size := hbwc1.size
  have Bwc1 : Below w2.heap.size w2 wc1 := Bw3.trans (hbwc1.mono Bw3.size)
  have Zwc1 := Bwc1.size
  have hPwc1 := hPw3.below hbwc1 hPw3.lt
  have lhPwc1 := hPwc1.lt
  have hQwc1 := hQw3.below hbwc1 hQw3.lt
  have lhQwc1 := hQwc1.lt
  have hPwc10 : wc1.cell? ⟨w.heap.size, 0, none⟩ = some (.int .i64 2) := hPwc1.cell 0
  have hPwc11 : wc1.cell? ⟨w.heap.size, 1, none⟩ = some (.int .i64 addr) := hPwc1.cell 1
  have hPwc12 : wc1.cell? ⟨w.heap.size, 2, none⟩ = some (.int .i64 count) := hPwc1.cell 2
  have hPwc13 : wc1.cell? ⟨w.heap.size, 3, none⟩ = some (.int .i64 to) := hPwc1.cell 3
  have hPwc14 : wc1.cell? ⟨w.heap.size, 4, none⟩ = some (.slice A nb cb) := hPwc1.cell 4
  have hPwc15 : wc1.cell? ⟨w.heap.size, 5, none⟩ = some (.slice R nr cr) := hPwc1.cell 5
  have hQwc10 : wc1.cell? ⟨(w.heap.size + 1), 0, none⟩ = some (.int .i64 2) := hQwc1.cell 0
  have hQwc11 : wc1.cell? ⟨(w.heap.size + 1), 1, none⟩ = some (.int .i64 0) := hQwc1.cell 1
  have hQwc12 : wc1.cell? ⟨(w.heap.size + 1), 2, none⟩ = some (.slice A2 nb2 cb2) := hQwc1.cell 2
  have hQwc13 : wc1.cell? ⟨(w.heap.size + 1), 3, none⟩ = some (.slice R2 0 cr2) := hQwc1.cell 3
  have spwc1 := sp0
  have fpwc1 := fp0
  go_wp2_with (first
    | ((with_reducible refine at_append ?_); refine wpList_append_sl (wc1.alloc (.cells #[.int .u8 ((packN bits2).length : Int)] 5)) rfl _ _ 28 rfl w2.heap.size 5 i0 (.int .u8 0) 1 Tryd.underlying28 hi hz0 hz1' hz2' rfl (.slice (some ⟨w2.heap.size, 0, none⟩) 1 1) 1 _ rfl (ot1.alloc (.cells #[.int .u8 ((packN bits2).length : Int)] 5)) (wc1.alloc (.cells #[.int .u8 ((packN bits2).length : Int)] 5)).heap.size .u8 (some ⟨wc1.heap.size, 0, none⟩) 1 1 [((packN bits2).length : Int)] rfl (SlI.of_lit (w := wc1) (T := 5) (cs := #[.int .u8 ((packN bits2).length : Int)]) rfl rfl (by omega)) (by unfold maxLen; omega) (by omega) (by rw [World.size_alloc]; omega) ?_; intro va2 wa2 oa2 hgr hlies; have spwa2 := (spwc1.alloc (.cells #[.int .u8 ((packN bits2).length : Int)] 5)).grown hgr fpwc1; have fpwa2 := fpwc1.next (spwc1.alloc (.cells #[.int .u8 ((packN bits2).length : Int)] 5)) hpos hlies; have Bwa2 : Below w2.heap.size w2 wa2 := (Bwc1.alloc Zwc1 (.cells #[.int .u8 ((packN bits2).length : Int)] 5)).grown hgr (by rw [World.size_alloc]; omega) (fun j hj => (ot1.lt j hj).1); have Zwa2 := Bwa2.size; have hPwa2 := hP0.below Bwa2 hP0.lt; have lhPwa2 := hPwa2.lt; have hQwa2 := hQ0.below Bwa2 hQ0.lt; have lhQwa2 := hQwa2.lt; have hPwa20 : wa2.cell? ⟨w.heap.size, 0, none⟩ = some (.int .i64 2) := hPwa2.cell 0; have hPwa21 : wa2.cell? ⟨w.heap.size, 1, none⟩ = some (.int .i64 addr) := hPwa2.cell 1; have hPwa22 : wa2.cell? ⟨w.heap.size, 2, none⟩ = some (.int .i64 count) := hPwa2.cell 2; have hPwa23 : wa2.cell? ⟨w.heap.size, 3, none⟩ = some (.int .i64 to) := hPwa2.cell 3; have hPwa24 : wa2.cell? ⟨w.heap.size, 4, none⟩ = some (.slice A nb cb) := hPwa2.cell 4; have hPwa25 : wa2.cell? ⟨w.heap.size, 5, none⟩ = some (.slice R nr cr) := hPwa2.cell 5; have hQwa20 : wa2.cell? ⟨(w.heap.size + 1), 0, none⟩ = some (.int .i64 2) := hQwa2.cell 0; have hQwa21 : wa2.cell? ⟨(w.heap.size + 1), 1, none⟩ = some (.int .i64 0) := hQwa2.cell 1; have hQwa22 : wa2.cell? ⟨(w.heap.size + 1), 2, none⟩ = some (.slice A2 nb2 cb2) := hQwa2.cell 2; have hQwa23 : wa2.cell? ⟨(w.heap.size + 1), 3, none⟩ = some (.slice R2 0 cr2) := hQwa2.cell 3; rw [← List.map_append] at oa2; have Ooa2 := Lib.hid oa2; clear hgr hlies)
    | ((with_reducible refine at_append ?_); refine wpList_append_sl wa2 rfl _ _ 28 rfl w2.heap.size 5 i0 (.int .u8 0) 1 Tryd.underlying28 hi hz0 hz1' hz2' rfl va2 (1 + 1) _ rfl oa2 wa2.heap.size .u8 Ap (packN bits2).length cp (packN bits2) rfl spwa2 (by unfold maxLen; omega) (by omega) Zwa2 ?_; intro va3 wa3 oa3 hgr hlies; have spwa3 := spwa2.grown hgr fpwa2; have fpwa3 := fpwa2.next spwa2 hpos hlies; have Bwa3 : Below w2.heap.size w2 wa3 := Bwa2.grown hgr Zwa2 (fun j hj => (oa2.lt j hj).1); have Zwa3 := Bwa3.size; have hPwa3 := hP0.below Bwa3 hP0.lt; have lhPwa3 := hPwa3.lt; have hQwa3 := hQ0.below Bwa3 hQ0.lt; have lhQwa3 := hQwa3.lt; have hPwa30 : wa3.cell? ⟨w.heap.size, 0, none⟩ = some (.int .i64 2) := hPwa3.cell 0; have hPwa31 : wa3.cell? ⟨w.heap.size, 1, none⟩ = some (.int .i64 addr) := hPwa3.cell 1; have hPwa32 : wa3.cell? ⟨w.heap.size, 2, none⟩ = some (.int .i64 count) := hPwa3.cell 2; have hPwa33 : wa3.cell? ⟨w.heap.size, 3, none⟩ = some (.int .i64 to) := hPwa3.cell 3; have hPwa34 : wa3.cell? ⟨w.heap.size, 4, none⟩ = some (.slice A nb cb) := hPwa3.cell 4; have hPwa35 : wa3.cell? ⟨w.heap.size, 5, none⟩ = some (.slice R nr cr) := hPwa3.cell 5; have hQwa30 : wa3.cell? ⟨(w.heap.size + 1), 0, none⟩ = some (.int .i64 2) := hQwa3.cell 0; have hQwa31 : wa3.cell? ⟨(w.heap.size + 1), 1, none⟩ = some (.int .i64 0) := hQwa3.cell 1; have hQwa32 : wa3.cell? ⟨(w.heap.size + 1), 2, none⟩ = some (.slice A2 nb2 cb2) := hQwa3.cell 2; have hQwa33 : wa3.cell? ⟨(w.heap.size + 1), 3, none⟩ = some (.slice R2 0 cr2) := hQwa3.cell 3; rw [← List.map_append] at oa3; have Ooa3 := Lib.hid oa3; clear hgr hlies))
  go_ret2
  exact ans_some (by rw [HN.out, if_neg (by have := B1.out; have := B2.out; omega)]; simp) oa3 (hb2w.trans (Bwa3.mono hb2w.size))
end Go.Proofs.YtflbiichdjhaeaaDoor
