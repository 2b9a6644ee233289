/- kilowattref19.Answer: what may not be; exceptions. -/
import Derived.Test.YtflbiichdjhaeaaDoorPduRefBytes
import Derived.Test.YtflbiichdjhaeaaDoorPduAnswer
import Derived.Test.YtflbiichdjhaeaaDoorPduRefAnswerC
import Derived.Test.YtflbiichdjhaeaaDoorPduRefAnswerD
namespace Go.Proofs.YtflbiichdjhaeaaDoor
open Go.RowKit
set_option linter.unusedVariables false

set_option maxRecDepth 100000 in
set_option maxHeartbeats 2000000 in
theorem ra_may (fn addr count to : Int) (bits : List Bool) (regs : List Int) (A : Option Addr) (nb cb : Nat) (R : Option Addr) (nr cr : Nat) (rfn code : Int) (bits2 : List Bool) (regs2 : List Int) (A2 : Option Addr) (nb2 cb2 : Nat) (R2 : Option Addr) (nr2 cr2 : Nat) (w : World) (hA : SlB w w.heap.size A nb cb bits) (hR : SlI w w.heap.size .u16 R nr cr regs) (hA2 : SlB w w.heap.size A2 nb2 cb2 bits2) (hR2 : SlI w w.heap.size .u16 R2 nr2 cr2 regs2) (o : Option (List Int)) (hm : mayP ⟨fn, addr, count, to, bits, regs⟩ = false) (hn : o = none) : Calls Tryd.prog 14 #[.agg #[.int .i64 fn, .int .i64 addr, .int .i64 count, .int .i64 to, .slice A nb cb, .slice R nr cr], .agg #[.int .i64 rfn, .int .i64 code, .slice A2 nb2 cb2, .slice R2 nr2 cr2]] w (AnsPost w o) := by
  obtain ⟨w1, hw1⟩ : ∃ w1, (w.alloc (.cells #[.int .i64 fn, .int .i64 addr, .int .i64 count, .int .i64 to, .slice A nb cb, .slice R nr cr] 25)).alloc (.cells #[.int .i64 rfn, .int .i64 code, .slice A2 nb2 cb2, .slice R2 nr2 cr2] 34) = w1 := ⟨_, rfl⟩
  have hb1 : Below w.heap.size w w1 := by rw [← hw1]; exact ((Below.refl _ w).alloc (Nat.le_refl _) _).alloc (by simp) _
  have hz1 : w1.heap.size = w.heap.size + 2 := by rw [← hw1]; simp
  have hP1 : Held w1 w.heap.size 25 #[.int .i64 fn, .int .i64 addr, .int .i64 count, .int .i64 to, .slice A nb cb, .slice R nr cr] := by rw [← hw1]; exact (Held.new w _ _).alloc _
  have hQ1 : Held w1 (w.heap.size + 1) 34 #[.int .i64 rfn, .int .i64 code, .slice A2 nb2 cb2, .slice R2 nr2 cr2] := by rw [← hw1]; have := Held.new (w.alloc (.cells #[.int .i64 fn, .int .i64 addr, .int .i64 count, .int .i64 to, .slice A nb cb, .slice R nr cr] 25)) 34 #[.int .i64 rfn, .int .i64 code, .slice A2 nb2 cb2, .slice R2 nr2 cr2]; rw [World.size_alloc] at this; exact this
  have hu := Tryd.underlying25
  have hsz : (Tryd.prog.info? 25).map (·.size) = some 6 := by kernel_rfl
  have hc := may_any (.agg #[.int .i64 fn, .int .i64 addr, .int .i64 count, .int .i64 to, .slice A nb cb, .slice R nr cr]) ⟨fn, addr, count, to, bits, regs⟩ w1 ⟨A, nb, cb, R, nr, cr, rfl, hA.up hb1, hR.up hb1⟩
  rw [hm] at hc
  have HC := Lib.hid hc
  clear hc
  have HN := Lib.hid hn
  clear hA hR hA2 hR2 hm hn
  go_in
  go_wp2_with ((with_reducible refine at_loadT 25 2 ?_); refine wpList_load_rowG rfl 25 (.tmp 2) rfl w.heap.size rfl 25 _ _ hP1 hu rfl hsz ?_)
  refine HC.out.mono ?_
  rintro e w2 ⟨rfl, hb2⟩
  have hz2 := hb2.size
  have hP2 := hP1.below hb2 hP1.lt
  have hQ2 := hQ1.below hb2 hQ1.lt
  have hlt2 := hP2.lt
  have hlq2 := hQ2.lt
  have hb2w := hb1.trans (hb2.mono (by omega))
  have ka0 : w2.cell? ⟨w.heap.size, 0, none⟩ = some (.int .i64 fn) := hP2.cell 0
  have ka1 : w2.cell? ⟨w.heap.size, 1, none⟩ = some (.int .i64 addr) := hP2.cell 1
  have ka2 : w2.cell? ⟨w.heap.size, 2, none⟩ = some (.int .i64 count) := hP2.cell 2
  have ka3 : w2.cell? ⟨w.heap.size, 3, none⟩ = some (.int .i64 to) := hP2.cell 3
  have ka4 : w2.cell? ⟨w.heap.size, 4, none⟩ = some (.slice A nb cb) := hP2.cell 4
  have ka5 : w2.cell? ⟨w.heap.size, 5, none⟩ = some (.slice R nr cr) := hP2.cell 5
  have kr0 : w2.cell? ⟨w.heap.size + 1, 0, none⟩ = some (.int .i64 rfn) := hQ2.cell 0
  have kr1 : w2.cell? ⟨w.heap.size + 1, 1, none⟩ = some (.int .i64 code) := hQ2.cell 1
  have kr2 : w2.cell? ⟨w.heap.size + 1, 2, none⟩ = some (.slice A2 nb2 cb2) := hQ2.cell 2
  have kr3 : w2.cell? ⟨w.heap.size + 1, 3, none⟩ = some (.slice R2 nr2 cr2) := hQ2.cell 3
  go_wp2_with fail
  go_ret2
  exact ans_none HN.out hb2w
set_option maxRecDepth 100000 in
set_option maxHeartbeats 2000000 in
theorem ra_fn (fn addr count to : Int) (bits : List Bool) (regs : List Int) (A : Option Addr) (nb cb : Nat) (R : Option Addr) (nr cr : Nat) (rfn code : Int) (bits2 : List Bool) (regs2 : List Int) (A2 : Option Addr) (nb2 cb2 : Nat) (R2 : Option Addr) (nr2 cr2 : Nat) (w : World) (hA : SlB w w.heap.size A nb cb bits) (hR : SlI w w.heap.size .u16 R nr cr regs) (hA2 : SlB w w.heap.size A2 nb2 cb2 bits2) (hR2 : SlI w w.heap.size .u16 R2 nr2 cr2 regs2) (o : Option (List Int)) (hm : mayP ⟨fn, addr, count, to, bits, regs⟩ = true) (hne : rfn ≠ fn) (hn : o = none) : Calls Tryd.prog 14 #[.agg #[.int .i64 fn, .int .i64 addr, .int .i64 count, .int .i64 to, .slice A nb cb, .slice R nr cr], .agg #[.int .i64 rfn, .int .i64 code, .slice A2 nb2 cb2, .slice R2 nr2 cr2]] w (AnsPost w o) := by
  obtain ⟨w1, hw1⟩ : ∃ w1, (w.alloc (.cells #[.int .i64 fn, .int .i64 addr, .int .i64 count, .int .i64 to, .slice A nb cb, .slice R nr cr] 25)).alloc (.cells #[.int .i64 rfn, .int .i64 code, .slice A2 nb2 cb2, .slice R2 nr2 cr2] 34) = w1 := ⟨_, rfl⟩
  have hb1 : Below w.heap.size w w1 := by rw [← hw1]; exact ((Below.refl _ w).alloc (Nat.le_refl _) _).alloc (by simp) _
  have hz1 : w1.heap.size = w.heap.size + 2 := by rw [← hw1]; simp
  have hP1 : Held w1 w.heap.size 25 #[.int .i64 fn, .int .i64 addr, .int .i64 count, .int .i64 to, .slice A nb cb, .slice R nr cr] := by rw [← hw1]; exact (Held.new w _ _).alloc _
  have hQ1 : Held w1 (w.heap.size + 1) 34 #[.int .i64 rfn, .int .i64 code, .slice A2 nb2 cb2, .slice R2 nr2 cr2] := by rw [← hw1]; have := Held.new (w.alloc (.cells #[.int .i64 fn, .int .i64 addr, .int .i64 count, .int .i64 to, .slice A nb cb, .slice R nr cr] 25)) 34 #[.int .i64 rfn, .int .i64 code, .slice A2 nb2 cb2, .slice R2 nr2 cr2]; rw [World.size_alloc] at this; exact this
  have hu := Tryd.underlying25
  have hsz : (Tryd.prog.info? 25).map (·.size) = some 6 := by kernel_rfl
  have hc := may_any (.agg #[.int .i64 fn, .int .i64 addr, .int .i64 count, .int .i64 to, .slice A nb cb, .slice R nr cr]) ⟨fn, addr, count, to, bits, regs⟩ w1 ⟨A, nb, cb, R, nr, cr, rfl, hA.up hb1, hR.up hb1⟩
  rw [hm] at hc
  have HC := Lib.hid hc
  clear hc
  have HN := Lib.hid hn
  have hne2 : (rfn != fn) = true := by simpa using hne
  clear hA hR hA2 hR2 hm hn hne
  go_in
  go_wp2_with ((with_reducible refine at_loadT 25 2 ?_); refine wpList_load_rowG rfl 25 (.tmp 2) rfl w.heap.size rfl 25 _ _ hP1 hu rfl hsz ?_)
  refine HC.out.mono ?_
  rintro e w2 ⟨rfl, hb2⟩
  have hz2 := hb2.size
  have hP2 := hP1.below hb2 hP1.lt
  have hQ2 := hQ1.below hb2 hQ1.lt
  have hlt2 := hP2.lt
  have hlq2 := hQ2.lt
  have hb2w := hb1.trans (hb2.mono (by omega))
  have ka0 : w2.cell? ⟨w.heap.size, 0, none⟩ = some (.int .i64 fn) := hP2.cell 0
  have ka1 : w2.cell? ⟨w.heap.size, 1, none⟩ = some (.int .i64 addr) := hP2.cell 1
  have ka2 : w2.cell? ⟨w.heap.size, 2, none⟩ = some (.int .i64 count) := hP2.cell 2
  have ka3 : w2.cell? ⟨w.heap.size, 3, none⟩ = some (.int .i64 to) := hP2.cell 3
  have ka4 : w2.cell? ⟨w.heap.size, 4, none⟩ = some (.slice A nb cb) := hP2.cell 4
  have ka5 : w2.cell? ⟨w.heap.size, 5, none⟩ = some (.slice R nr cr) := hP2.cell 5
  have kr0 : w2.cell? ⟨w.heap.size + 1, 0, none⟩ = some (.int .i64 rfn) := hQ2.cell 0
  have kr1 : w2.cell? ⟨w.heap.size + 1, 1, none⟩ = some (.int .i64 code) := hQ2.cell 1
  have kr2 : w2.cell? ⟨w.heap.size + 1, 2, none⟩ = some (.slice A2 nb2 cb2) := hQ2.cell 2
  have kr3 : w2.cell? ⟨w.heap.size + 1, 3, none⟩ = some (.slice R2 nr2 cr2) := hQ2.cell 3
  go_wp2_with fail
  go_ret2
  exact ans_none HN.out hb2w
set_option maxRecDepth 100000 in
set_option maxHeartbeats 2000000 in
theorem ra_coden (fn addr count to : Int) (bits : List Bool) (regs : List Int) (A : Option Addr) (nb cb : Nat) (R : Option Addr) (nr cr : Nat) (rfn code : Int) (bits2 : List Bool) (regs2 : List Int) (A2 : Option Addr) (nb2 cb2 : Nat) (R2 : Option Addr) (nr2 cr2 : Nat) (w : World) (hA : SlB w w.heap.size A nb cb bits) (hR : SlI w w.heap.size .u16 R nr cr regs) (hA2 : SlB w w.heap.size A2 nb2 cb2 bits2) (hR2 : SlI w w.heap.size .u16 R2 nr2 cr2 regs2) (o : Option (List Int)) (hm : mayP ⟨fn, addr, count, to, bits, regs⟩ = true) (hq : rfn = fn) (hf : 1 ≤ fn ∧ fn ≤ 23) (hn : o = if code < 1 ∨ 11 < code ∨ 0 < nb2 + nr2 then none else some [fn + 128, code]) (h1 : code < 0) : Calls Tryd.prog 14 #[.agg #[.int .i64 fn, .int .i64 addr, .int .i64 count, .int .i64 to, .slice A nb cb, .slice R nr cr], .agg #[.int .i64 rfn, .int .i64 code, .slice A2 nb2 cb2, .slice R2 nr2 cr2]] w (AnsPost w o) := by
  subst hq
  obtain ⟨w1, hw1⟩ : ∃ w1, (w.alloc (.cells #[.int .i64 rfn, .int .i64 addr, .int .i64 count, .int .i64 to, .slice A nb cb, .slice R nr cr] 25)).alloc (.cells #[.int .i64 rfn, .int .i64 code, .slice A2 nb2 cb2, .slice R2 nr2 cr2] 34) = w1 := ⟨_, rfl⟩
  have hb1 : Below w.heap.size w w1 := by rw [← hw1]; exact ((Below.refl _ w).alloc (Nat.le_refl _) _).alloc (by simp) _
  have hz1 : w1.heap.size = w.heap.size + 2 := by rw [← hw1]; simp
  have hP1 : Held w1 w.heap.size 25 #[.int .i64 rfn, .int .i64 addr, .int .i64 count, .int .i64 to, .slice A nb cb, .slice R nr cr] := by rw [← hw1]; exact (Held.new w _ _).alloc _
  have hQ1 : Held w1 (w.heap.size + 1) 34 #[.int .i64 rfn, .int .i64 code, .slice A2 nb2 cb2, .slice R2 nr2 cr2] := by rw [← hw1]; have := Held.new (w.alloc (.cells #[.int .i64 rfn, .int .i64 addr, .int .i64 count, .int .i64 to, .slice A nb cb, .slice R nr cr] 25)) 34 #[.int .i64 rfn, .int .i64 code, .slice A2 nb2 cb2, .slice R2 nr2 cr2]; rw [World.size_alloc] at this; exact this
  have hu := Tryd.underlying25
  have hsz : (Tryd.prog.info? 25).map (·.size) = some 6 := by kernel_rfl
  have hc := may_any (.agg #[.int .i64 rfn, .int .i64 addr, .int .i64 count, .int .i64 to, .slice A nb cb, .slice R nr cr]) ⟨rfn, addr, count, to, bits, regs⟩ w1 ⟨A, nb, cb, R, nr, cr, rfl, hA.up hb1, hR.up hb1⟩
  rw [hm] at hc
  have HC := Lib.hid hc
  clear hc
  have hne2 : (rfn != rfn) = false := by simp
  have HN := Lib.hid hn
  clear hA hR hA2 hR2 hm hn
  go_in
  go_wp2_with ((with_reducible refine at_loadT 25 2 ?_); refine wpList_load_rowG rfl 25 (.tmp 2) rfl w.heap.size rfl 25 _ _ hP1 hu rfl hsz ?_)
  refine HC.out.mono ?_
  rintro e w2 ⟨rfl, hb2⟩
  have hz2 := hb2.size
  have hP2 := hP1.below hb2 hP1.lt
  have hQ2 := hQ1.below hb2 hQ1.lt
  have hlt2 := hP2.lt
  have hlq2 := hQ2.lt
  have hb2w := hb1.trans (hb2.mono (by omega))
  have ka0 : w2.cell? ⟨w.heap.size, 0, none⟩ = some (.int .i64 rfn) := hP2.cell 0
  have ka1 : w2.cell? ⟨w.heap.size, 1, none⟩ = some (.int .i64 addr) := hP2.cell 1
  have ka2 : w2.cell? ⟨w.heap.size, 2, none⟩ = some (.int .i64 count) := hP2.cell 2
  have ka3 : w2.cell? ⟨w.heap.size, 3, none⟩ = some (.int .i64 to) := hP2.cell 3
  have ka4 : w2.cell? ⟨w.heap.size, 4, none⟩ = some (.slice A nb cb) := hP2.cell 4
  have ka5 : w2.cell? ⟨w.heap.size, 5, none⟩ = some (.slice R nr cr) := hP2.cell 5
  have kr0 : w2.cell? ⟨w.heap.size + 1, 0, none⟩ = some (.int .i64 rfn) := hQ2.cell 0
  have kr1 : w2.cell? ⟨w.heap.size + 1, 1, none⟩ = some (.int .i64 code) := hQ2.cell 1
  have kr2 : w2.cell? ⟨w.heap.size + 1, 2, none⟩ = some (.slice A2 nb2 cb2) := hQ2.cell 2
  have kr3 : w2.cell? ⟨w.heap.size + 1, 3, none⟩ = some (.slice R2 nr2 cr2) := hQ2.cell 3
  go_wp2_with fail
  go_ret2
  exact ans_none (by rw [HN.out, if_pos (by omega)]) hb2w
set_option maxRecDepth 100000 in
set_option maxHeartbeats 2000000 in
theorem ra_codeg (fn addr count to : Int) (bits : List Bool) (regs : List Int) (A : Option Addr) (nb cb : Nat) (R : Option Addr) (nr cr : Nat) (rfn code : Int) (bits2 : List Bool) (regs2 : List Int) (A2 : Option Addr) (nb2 cb2 : Nat) (R2 : Option Addr) (nr2 cr2 : Nat) (w : World) (hA : SlB w w.heap.size A nb cb bits) (hR : SlI w w.heap.size .u16 R nr cr regs) (hA2 : SlB w w.heap.size A2 nb2 cb2 bits2) (hR2 : SlI w w.heap.size .u16 R2 nr2 cr2 regs2) (o : Option (List Int)) (hm : mayP ⟨fn, addr, count, to, bits, regs⟩ = true) (hq : rfn = fn) (hf : 1 ≤ fn ∧ fn ≤ 23) (hn : o = if code < 1 ∨ 11 < code ∨ 0 < nb2 + nr2 then none else some [fn + 128, code]) (h1 : 11 < code) : Calls Tryd.prog 14 #[.agg #[.int .i64 fn, .int .i64 addr, .int .i64 count, .int .i64 to, .slice A nb cb, .slice R nr cr], .agg #[.int .i64 rfn, .int .i64 code, .slice A2 nb2 cb2, .slice R2 nr2 cr2]] w (AnsPost w o) := by
  subst hq
  obtain ⟨w1, hw1⟩ : ∃ w1, (w.alloc (.cells #[.int .i64 rfn, .int .i64 addr, .int .i64 count, .int .i64 to, .slice A nb cb, .slice R nr cr] 25)).alloc (.cells #[.int .i64 rfn, .int .i64 code, .slice A2 nb2 cb2, .slice R2 nr2 cr2] 34) = w1 := ⟨_, rfl⟩
  have hb1 : Below w.heap.size w w1 := by rw [← hw1]; exact ((Below.refl _ w).alloc (Nat.le_refl _) _).alloc (by simp) _
  have hz1 : w1.heap.size = w.heap.size + 2 := by rw [← hw1]; simp
  have hP1 : Held w1 w.heap.size 25 #[.int .i64 rfn, .int .i64 addr, .int .i64 count, .int .i64 to, .slice A nb cb, .slice R nr cr] := by rw [← hw1]; exact (Held.new w _ _).alloc _
  have hQ1 : Held w1 (w.heap.size + 1) 34 #[.int .i64 rfn, .int .i64 code, .slice A2 nb2 cb2, .slice R2 nr2 cr2] := by rw [← hw1]; have := Held.new (w.alloc (.cells #[.int .i64 rfn, .int .i64 addr, .int .i64 count, .int .i64 to, .slice A nb cb, .slice R nr cr] 25)) 34 #[.int .i64 rfn, .int .i64 code, .slice A2 nb2 cb2, .slice R2 nr2 cr2]; rw [World.size_alloc] at this; exact this
  have hu := Tryd.underlying25
  have hsz : (Tryd.prog.info? 25).map (·.size) = some 6 := by kernel_rfl
  have hc := may_any (.agg #[.int .i64 rfn, .int .i64 addr, .int .i64 count, .int .i64 to, .slice A nb cb, .slice R nr cr]) ⟨rfn, addr, count, to, bits, regs⟩ w1 ⟨A, nb, cb, R, nr, cr, rfl, hA.up hb1, hR.up hb1⟩
  rw [hm] at hc
  have HC := Lib.hid hc
  clear hc
  have hne2 : (rfn != rfn) = false := by simp
  have HN := Lib.hid hn
  clear hA hR hA2 hR2 hm hn
  have h2 : ¬ code < 0 := by omega
  go_in
  go_wp2_with ((with_reducible refine at_loadT 25 2 ?_); refine wpList_load_rowG rfl 25 (.tmp 2) rfl w.heap.size rfl 25 _ _ hP1 hu rfl hsz ?_)
  refine HC.out.mono ?_
  rintro e w2 ⟨rfl, hb2⟩
  have hz2 := hb2.size
  have hP2 := hP1.below hb2 hP1.lt
  have hQ2 := hQ1.below hb2 hQ1.lt
  have hlt2 := hP2.lt
  have hlq2 := hQ2.lt
  have hb2w := hb1.trans (hb2.mono (by omega))
  have ka0 : w2.cell? ⟨w.heap.size, 0, none⟩ = some (.int .i64 rfn) := hP2.cell 0
  have ka1 : w2.cell? ⟨w.heap.size, 1, none⟩ = some (.int .i64 addr) := hP2.cell 1
  have ka2 : w2.cell? ⟨w.heap.size, 2, none⟩ = some (.int .i64 count) := hP2.cell 2
  have ka3 : w2.cell? ⟨w.heap.size, 3, none⟩ = some (.int .i64 to) := hP2.cell 3
  have ka4 : w2.cell? ⟨w.heap.size, 4, none⟩ = some (.slice A nb cb) := hP2.cell 4
  have ka5 : w2.cell? ⟨w.heap.size, 5, none⟩ = some (.slice R nr cr) := hP2.cell 5
  have kr0 : w2.cell? ⟨w.heap.size + 1, 0, none⟩ = some (.int .i64 rfn) := hQ2.cell 0
  have kr1 : w2.cell? ⟨w.heap.size + 1, 1, none⟩ = some (.int .i64 code) := hQ2.cell 1
  have kr2 : w2.cell? ⟨w.heap.size + 1, 2, none⟩ = some (.slice A2 nb2 cb2) := hQ2.cell 2
  have kr3 : w2.cell? ⟨w.heap.size + 1, 3, none⟩ = some (.slice R2 nr2 cr2) := hQ2.cell 3
  go_wp2_with fail
  go_ret2
  exact ans_none (by rw [HN.out, if_pos (by omega)]) hb2w
set_option maxRecDepth 100000 in
set_option maxHeartbeats 2000000 in
theorem ra_codeb (fn addr count to : Int) (bits : List Bool) (regs : List Int) (A : Option Addr) (nb cb : Nat) (R : Option Addr) (nr cr : Nat) (rfn code : Int) (bits2 : List Bool) (regs2 : List Int) (A2 : Option Addr) (nb2 cb2 : Nat) (R2 : Option Addr) (nr2 cr2 : Nat) (w : World) (hA : SlB w w.heap.size A nb cb bits) (hR : SlI w w.heap.size .u16 R nr cr regs) (hA2 : SlB w w.heap.size A2 nb2 cb2 bits2) (hR2 : SlI w w.heap.size .u16 R2 nr2 cr2 regs2) (o : Option (List Int)) (hm : mayP ⟨fn, addr, count, to, bits, regs⟩ = true) (hq : rfn = fn) (hf : 1 ≤ fn ∧ fn ≤ 23) (hn : o = if code < 1 ∨ 11 < code ∨ 0 < nb2 + nr2 then none else some [fn + 128, code]) (h1 : 1 ≤ code) (h2 : code ≤ 11) (h3 : 0 < nb2) : Calls Tryd.prog 14 #[.agg #[.int .i64 fn, .int .i64 addr, .int .i64 count, .int .i64 to, .slice A nb cb, .slice R nr cr], .agg #[.int .i64 rfn, .int .i64 code, .slice A2 nb2 cb2, .slice R2 nr2 cr2]] w (AnsPost w o) := by
  subst hq
  obtain ⟨w1, hw1⟩ : ∃ w1, (w.alloc (.cells #[.int .i64 rfn, .int .i64 addr, .int .i64 count, .int .i64 to, .slice A nb cb, .slice R nr cr] 25)).alloc (.cells #[.int .i64 rfn, .int .i64 code, .slice A2 nb2 cb2, .slice R2 nr2 cr2] 34) = w1 := ⟨_, rfl⟩
  have hb1 : Below w.heap.size w w1 := by rw [← hw1]; exact ((Below.refl _ w).alloc (Nat.le_refl _) _).alloc (by simp) _
  have hz1 : w1.heap.size = w.heap.size + 2 := by rw [← hw1]; simp
  have hP1 : Held w1 w.heap.size 25 #[.int .i64 rfn, .int .i64 addr, .int .i64 count, .int .i64 to, .slice A nb cb, .slice R nr cr] := by rw [← hw1]; exact (Held.new w _ _).alloc _
  have hQ1 : Held w1 (w.heap.size + 1) 34 #[.int .i64 rfn, .int .i64 code, .slice A2 nb2 cb2, .slice R2 nr2 cr2] := by rw [← hw1]; have := Held.new (w.alloc (.cells #[.int .i64 rfn, .int .i64 addr, .int .i64 count, .int .i64 to, .slice A nb cb, .slice R nr cr] 25)) 34 #[.int .i64 rfn, .int .i64 code, .slice A2 nb2 cb2, .slice R2 nr2 cr2]; rw [World.size_alloc] at this; exact this
  have hu := Tryd.underlying25
  have hsz : (Tryd.prog.info? 25).map (·.size) = some 6 := by kernel_rfl
  have hc := may_any (.agg #[.int .i64 rfn, .int .i64 addr, .int .i64 count, .int .i64 to, .slice A nb cb, .slice R nr cr]) ⟨rfn, addr, count, to, bits, regs⟩ w1 ⟨A, nb, cb, R, nr, cr, rfl, hA.up hb1, hR.up hb1⟩
  rw [hm] at hc
  have HC := Lib.hid hc
  clear hc
  have hne2 : (rfn != rfn) = false := by simp
  have HN := Lib.hid hn
  clear hA hR hA2 hR2 hm hn
  have h4 : (0 : Int) < (nb2 : Int) := by omega
  go_in
  go_wp2_with ((with_reducible refine at_loadT 25 2 ?_); refine wpList_load_rowG rfl 25 (.tmp 2) rfl w.heap.size rfl 25 _ _ hP1 hu rfl hsz ?_)
  refine HC.out.mono ?_
  rintro e w2 ⟨rfl, hb2⟩
  have hz2 := hb2.size
  have hP2 := hP1.below hb2 hP1.lt
  have hQ2 := hQ1.below hb2 hQ1.lt
  have hlt2 := hP2.lt
  have hlq2 := hQ2.lt
  have hb2w := hb1.trans (hb2.mono (by omega))
  have ka0 : w2.cell? ⟨w.heap.size, 0, none⟩ = some (.int .i64 rfn) := hP2.cell 0
  have ka1 : w2.cell? ⟨w.heap.size, 1, none⟩ = some (.int .i64 addr) := hP2.cell 1
  have ka2 : w2.cell? ⟨w.heap.size, 2, none⟩ = some (.int .i64 count) := hP2.cell 2
  have ka3 : w2.cell? ⟨w.heap.size, 3, none⟩ = some (.int .i64 to) := hP2.cell 3
  have ka4 : w2.cell? ⟨w.heap.size, 4, none⟩ = some (.slice A nb cb) := hP2.cell 4
  have ka5 : w2.cell? ⟨w.heap.size, 5, none⟩ = some (.slice R nr cr) := hP2.cell 5
  have kr0 : w2.cell? ⟨w.heap.size + 1, 0, none⟩ = some (.int .i64 rfn) := hQ2.cell 0
  have kr1 : w2.cell? ⟨w.heap.size + 1, 1, none⟩ = some (.int .i64 code) := hQ2.cell 1
  have kr2 : w2.cell? ⟨w.heap.size + 1, 2, none⟩ = some (.slice A2 nb2 cb2) := hQ2.cell 2
  have kr3 : w2.cell? ⟨w.heap.size + 1, 3, none⟩ = some (.slice R2 nr2 cr2) := hQ2.cell 3
  go_wp2_with fail
  go_ret2
  exact ans_none (by rw [HN.out, if_pos (by omega)]) hb2w
set_option maxRecDepth 100000 in
set_option maxHeartbeats 2000000 in
theorem ra_coder (fn addr count to : Int) (bits : List Bool) (regs : List Int) (A : Option Addr) (nb cb : Nat) (R : Option Addr) (nr cr : Nat) (rfn code : Int) (bits2 : List Bool) (regs2 : List Int) (A2 : Option Addr) (nb2 cb2 : Nat) (R2 : Option Addr) (nr2 cr2 : Nat) (w : World) (hA : SlB w w.heap.size A nb cb bits) (hR : SlI w w.heap.size .u16 R nr cr regs) (hA2 : SlB w w.heap.size A2 nb2 cb2 bits2) (hR2 : SlI w w.heap.size .u16 R2 nr2 cr2 regs2) (o : Option (List Int)) (hm : mayP ⟨fn, addr, count, to, bits, regs⟩ = true) (hq : rfn = fn) (hf : 1 ≤ fn ∧ fn ≤ 23) (hn : o = if code < 1 ∨ 11 < code ∨ 0 < nb2 + nr2 then none else some [fn + 128, code]) (h1 : 1 ≤ code) (h2 : code ≤ 11) (h3 : nb2 = 0) (h5 : 0 < nr2) : Calls Tryd.prog 14 #[.agg #[.int .i64 fn, .int .i64 addr, .int .i64 count, .int .i64 to, .slice A nb cb, .slice R nr cr], .agg #[.int .i64 rfn, .int .i64 code, .slice A2 nb2 cb2, .slice R2 nr2 cr2]] w (AnsPost w o) := by
  subst hq
  subst h3
  obtain ⟨w1, hw1⟩ : ∃ w1, (w.alloc (.cells #[.int .i64 rfn, .int .i64 addr, .int .i64 count, .int .i64 to, .slice A nb cb, .slice R nr cr] 25)).alloc (.cells #[.int .i64 rfn, .int .i64 code, .slice A2 0 cb2, .slice R2 nr2 cr2] 34) = w1 := ⟨_, rfl⟩
  have hb1 : Below w.heap.size w w1 := by rw [← hw1]; exact ((Below.refl _ w).alloc (Nat.le_refl _) _).alloc (by simp) _
  have hz1 : w1.heap.size = w.heap.size + 2 := by rw [← hw1]; simp
  have hP1 : Held w1 w.heap.size 25 #[.int .i64 rfn, .int .i64 addr, .int .i64 count, .int .i64 to, .slice A nb cb, .slice R nr cr] := by rw [← hw1]; exact (Held.new w _ _).alloc _
  have hQ1 : Held w1 (w.heap.size + 1) 34 #[.int .i64 rfn, .int .i64 code, .slice A2 0 cb2, .slice R2 nr2 cr2] := by rw [← hw1]; have := Held.new (w.alloc (.cells #[.int .i64 rfn, .int .i64 addr, .int .i64 count, .int .i64 to, .slice A nb cb, .slice R nr cr] 25)) 34 #[.int .i64 rfn, .int .i64 code, .slice A2 0 cb2, .slice R2 nr2 cr2]; rw [World.size_alloc] at this; exact this
  have hu := Tryd.underlying25
  have hsz : (Tryd.prog.info? 25).map (·.size) = some 6 := by kernel_rfl
  have hc := may_any (.agg #[.int .i64 rfn, .int .i64 addr, .int .i64 count, .int .i64 to, .slice A nb cb, .slice R nr cr]) ⟨rfn, addr, count, to, bits, regs⟩ w1 ⟨A, nb, cb, R, nr, cr, rfl, hA.up hb1, hR.up hb1⟩
  rw [hm] at hc
  have HC := Lib.hid hc
  clear hc
  have hne2 : (rfn != rfn) = false := by simp
  have HN := Lib.hid hn
  clear hA hR hA2 hR2 hm hn
  have h4 : (0 : Int) < (nr2 : Int) := by omega
  go_in
  go_wp2_with ((with_reducible refine at_loadT 25 2 ?_); refine wpList_load_rowG rfl 25 (.tmp 2) rfl w.heap.size rfl 25 _ _ hP1 hu rfl hsz ?_)
  refine HC.out.mono ?_
  rintro e w2 ⟨rfl, hb2⟩
  have hz2 := hb2.size
  have hP2 := hP1.below hb2 hP1.lt
  have hQ2 := hQ1.below hb2 hQ1.lt
  have hlt2 := hP2.lt
  have hlq2 := hQ2.lt
  have hb2w := hb1.trans (hb2.mono (by omega))
  have ka0 : w2.cell? ⟨w.heap.size, 0, none⟩ = some (.int .i64 rfn) := hP2.cell 0
  have ka1 : w2.cell? ⟨w.heap.size, 1, none⟩ = some (.int .i64 addr) := hP2.cell 1
  have ka2 : w2.cell? ⟨w.heap.size, 2, none⟩ = some (.int .i64 count) := hP2.cell 2
  have ka3 : w2.cell? ⟨w.heap.size, 3, none⟩ = some (.int .i64 to) := hP2.cell 3
  have ka4 : w2.cell? ⟨w.heap.size, 4, none⟩ = some (.slice A nb cb) := hP2.cell 4
  have ka5 : w2.cell? ⟨w.heap.size, 5, none⟩ = some (.slice R nr cr) := hP2.cell 5
  have kr0 : w2.cell? ⟨w.heap.size + 1, 0, none⟩ = some (.int .i64 rfn) := hQ2.cell 0
  have kr1 : w2.cell? ⟨w.heap.size + 1, 1, none⟩ = some (.int .i64 code) := hQ2.cell 1
  have kr2 : w2.cell? ⟨w.heap.size + 1, 2, none⟩ = some (.slice A2 0 cb2) := hQ2.cell 2
  have kr3 : w2.cell? ⟨w.heap.size + 1, 3, none⟩ = some (.slice R2 nr2 cr2) := hQ2.cell 3
  go_wp2_with fail
  go_ret2
  exact ans_none (by rw [HN.out, if_pos (by omega)]) hb2w
set_option maxRecDepth 100000 in
set_option maxHeartbeats 2000000 in
theorem ra_codey (fn addr count to : Int) (bits : List Bool) (regs : List Int) (A : Option Addr) (nb cb : Nat) (R : Option Addr) (nr cr : Nat) (rfn code : Int) (bits2 : List Bool) (regs2 : List Int) (A2 : Option Addr) (nb2 cb2 : Nat) (R2 : Option Addr) (nr2 cr2 : Nat) (w : World) (hA : SlB w w.heap.size A nb cb bits) (hR : SlI w w.heap.size .u16 R nr cr regs) (hA2 : SlB w w.heap.size A2 nb2 cb2 bits2) (hR2 : SlI w w.heap.size .u16 R2 nr2 cr2 regs2) (o : Option (List Int)) (hm : mayP ⟨fn, addr, count, to, bits, regs⟩ = true) (hq : rfn = fn) (hf : 1 ≤ fn ∧ fn ≤ 23) (hn : o = if code < 1 ∨ 11 < code ∨ 0 < nb2 + nr2 then none else some [fn + 128, code]) (h1 : 1 ≤ code) (h2 : code ≤ 11) (h3 : nb2 = 0) (h5 : nr2 = 0) : Calls Tryd.prog 14 #[.agg #[.int .i64 fn, .int .i64 addr, .int .i64 count, .int .i64 to, .slice A nb cb, .slice R nr cr], .agg #[.int .i64 rfn, .int .i64 code, .slice A2 nb2 cb2, .slice R2 nr2 cr2]] w (AnsPost w o) := by
  subst hq
  subst h3 h5
  obtain ⟨w1, hw1⟩ : ∃ w1, (w.alloc (.cells #[.int .i64 rfn, .int .i64 addr, .int .i64 count, .int .i64 to, .slice A nb cb, .slice R nr cr] 25)).alloc (.cells #[.int .i64 rfn, .int .i64 code, .slice A2 0 cb2, .slice R2 0 cr2] 34) = w1 := ⟨_, rfl⟩
  have hb1 : Below w.heap.size w w1 := by rw [← hw1]; exact ((Below.refl _ w).alloc (Nat.le_refl _) _).alloc (by simp) _
  have hz1 : w1.heap.size = w.heap.size + 2 := by rw [← hw1]; simp
  have hP1 : Held w1 w.heap.size 25 #[.int .i64 rfn, .int .i64 addr, .int .i64 count, .int .i64 to, .slice A nb cb, .slice R nr cr] := by rw [← hw1]; exact (Held.new w _ _).alloc _
  have hQ1 : Held w1 (w.heap.size + 1) 34 #[.int .i64 rfn, .int .i64 code, .slice A2 0 cb2, .slice R2 0 cr2] := by rw [← hw1]; have := Held.new (w.alloc (.cells #[.int .i64 rfn, .int .i64 addr, .int .i64 count, .int .i64 to, .slice A nb cb, .slice R nr cr] 25)) 34 #[.int .i64 rfn, .int .i64 code, .slice A2 0 cb2, .slice R2 0 cr2]; rw [World.size_alloc] at this; exact this
  have hu := Tryd.underlying25
  have hsz : (Tryd.prog.info? 25).map (·.size) = some 6 := by kernel_rfl
  have hc := may_any (.agg #[.int .i64 rfn, .int .i64 addr, .int .i64 count, .int .i64 to, .slice A nb cb, .slice R nr cr]) ⟨rfn, addr, count, to, bits, regs⟩ w1 ⟨A, nb, cb, R, nr, cr, rfl, hA.up hb1, hR.up hb1⟩
  rw [hm] at hc
  have HC := Lib.hid hc
  clear hc
  have hne2 : (rfn != rfn) = false := by simp
  have HN := Lib.hid hn
  clear hA hR hA2 hR2 hm hn
  have m1 : (rfn + 128) % 256 = rfn + 128 := by omega
  have m2 : code % 256 = code := by omega
  go_in
  go_wp2_with ((with_reducible refine at_loadT 25 2 ?_); refine wpList_load_rowG rfl 25 (.tmp 2) rfl w.heap.size rfl 25 _ _ hP1 hu rfl hsz ?_)
  refine HC.out.mono ?_
  rintro e w2 ⟨rfl, hb2⟩
  have hz2 := hb2.size
  have hP2 := hP1.below hb2 hP1.lt
  have hQ2 := hQ1.below hb2 hQ1.lt
  have hlt2 := hP2.lt
  have hlq2 := hQ2.lt
  have hb2w := hb1.trans (hb2.mono (by omega))
  have ka0 : w2.cell? ⟨w.heap.size, 0, none⟩ = some (.int .i64 rfn) := hP2.cell 0
  have ka1 : w2.cell? ⟨w.heap.size, 1, none⟩ = some (.int .i64 addr) := hP2.cell 1
  have ka2 : w2.cell? ⟨w.heap.size, 2, none⟩ = some (.int .i64 count) := hP2.cell 2
  have ka3 : w2.cell? ⟨w.heap.size, 3, none⟩ = some (.int .i64 to) := hP2.cell 3
  have ka4 : w2.cell? ⟨w.heap.size, 4, none⟩ = some (.slice A nb cb) := hP2.cell 4
  have ka5 : w2.cell? ⟨w.heap.size, 5, none⟩ = some (.slice R nr cr) := hP2.cell 5
  have kr0 : w2.cell? ⟨w.heap.size + 1, 0, none⟩ = some (.int .i64 rfn) := hQ2.cell 0
  have kr1 : w2.cell? ⟨w.heap.size + 1, 1, none⟩ = some (.int .i64 code) := hQ2.cell 1
  have kr2 : w2.cell? ⟨w.heap.size + 1, 2, none⟩ = some (.slice A2 0 cb2) := hQ2.cell 2
  have kr3 : w2.cell? ⟨w.heap.size + 1, 3, none⟩ = some (.slice R2 0 cr2) := hQ2.cell 3
  have hs : SlI (w2.alloc (.cells #[.int .u8 (rfn + 128), .int .u8 code] 5)) (w2.alloc (.cells #[.int .u8 (rfn + 128), .int .u8 code] 5)).heap.size .u8 (some ⟨w2.heap.size, 0, none⟩) 2 2 [rfn + 128, code] := SlI.of_lit rfl rfl (by omega)
  have HS := Lib.hid hs
  clear hs
  go_wp2_with fail
  go_ret2
  exact ans_sl (by rw [HN.out, if_neg (by omega)]) HS.out (hb2w.alloc hb2w.size _)
end Go.Proofs.YtflbiichdjhaeaaDoor
namespace Go.Proofs.YtflbiichdjhaeaaDoor
open Go.RowKit
set_option linter.unusedVariables false

set_option maxRecDepth 100000 in
set_option maxHeartbeats 2000000 in
theorem ra_5a (fn addr count to : Int) (bits : List Bool) (regs : List Int) (A : Option Addr) (nb cb : Nat) (R : Option Addr) (nr cr : Nat) (rfn code : Int) (bits2 : List Bool) (regs2 : List Int) (A2 : Option Addr) (nb2 cb2 : Nat) (R2 : Option Addr) (nr2 cr2 : Nat) (w : World) (hA : SlB w w.heap.size A nb cb bits) (hR : SlI w w.heap.size .u16 R nr cr regs) (hA2 : SlB w w.heap.size A2 nb2 cb2 bits2) (hR2 : SlI w w.heap.size .u16 R2 nr2 cr2 regs2) (o : Option (List Int)) (hm : mayP ⟨fn, addr, count, to, bits, regs⟩ = true) (hq : rfn = fn) (hfn : fn = 5) (hz : code = 0) (hy : Reg16 regs) (hy2 : Reg16 regs2) (ha : 0 ≤ addr ∧ addr < 65536) (k1 : nb ≤ 1968) (k2 : nr ≤ 123) (hcnt : 0 ≤ count ∧ count ≤ 125) (hn : o = if (nb2 : Int) ≠ 0 ∨ (nr2 : Int) ≠ 0 then none else some (bytesP ⟨5, addr, count, to, bits, regs⟩)) (b1 : (nb2 : Int) ≠ 0) : Calls Tryd.prog 14 #[.agg #[.int .i64 fn, .int .i64 addr, .int .i64 count, .int .i64 to, .slice A nb cb, .slice R nr cr], .agg #[.int .i64 rfn, .int .i64 code, .slice A2 nb2 cb2, .slice R2 nr2 cr2]] w (AnsPost w o) := by
  subst hq hfn hz
  obtain ⟨w1, hw1⟩ : ∃ w1, (w.alloc (.cells #[.int .i64 5, .int .i64 addr, .int .i64 count, .int .i64 to, .slice A nb cb, .slice R nr cr] 25)).alloc (.cells #[.int .i64 5, .int .i64 0, .slice A2 nb2 cb2, .slice R2 nr2 cr2] 34) = w1 := ⟨_, rfl⟩
  have hb1 : Below w.heap.size w w1 := by rw [← hw1]; exact ((Below.refl _ w).alloc (Nat.le_refl _) _).alloc (by simp) _
  have hz1 : w1.heap.size = w.heap.size + 2 := by rw [← hw1]; simp
  have hP1 : Held w1 w.heap.size 25 #[.int .i64 5, .int .i64 addr, .int .i64 count, .int .i64 to, .slice A nb cb, .slice R nr cr] := by rw [← hw1]; exact (Held.new w _ _).alloc _
  have hQ1 : Held w1 (w.heap.size + 1) 34 #[.int .i64 5, .int .i64 0, .slice A2 nb2 cb2, .slice R2 nr2 cr2] := by rw [← hw1]; have := Held.new (w.alloc (.cells #[.int .i64 5, .int .i64 addr, .int .i64 count, .int .i64 to, .slice A nb cb, .slice R nr cr] 25)) 34 #[.int .i64 5, .int .i64 0, .slice A2 nb2 cb2, .slice R2 nr2 cr2]; rw [World.size_alloc] at this; exact this
  have hu := Tryd.underlying25
  have hsz : (Tryd.prog.info? 25).map (·.size) = some 6 := by kernel_rfl
  have hc := may_any (.agg #[.int .i64 5, .int .i64 addr, .int .i64 count, .int .i64 to, .slice A nb cb, .slice R nr cr]) ⟨5, addr, count, to, bits, regs⟩ w1 ⟨A, nb, cb, R, nr, cr, rfl, hA.up hb1, hR.up hb1⟩
  rw [hm] at hc
  have HC := Lib.hid hc
  clear hc
  have HN := Lib.hid hn
  have HA := Lib.hid (fun (X : World) (h : Below w.heap.size w X) => hA.up h)
  have HR := Lib.hid (fun (X : World) (h : Below w.heap.size w X) => hR.up h)
  have HA2 := Lib.hid (fun (X : World) (h : Below w.heap.size w X) => hA2.up h)
  have HR2 := Lib.hid (fun (X : World) (h : Below w.heap.size w X) => hR2.up h)
  have HM := Lib.hid hm
  have hl2 := Lib.hid hA2.1
  have hlr2 := Lib.hid hR2.1
  obtain ⟨i0, hi, hz0, hz1', hz2'⟩ := info_parts infoU8
  clear hA hR hA2 hR2 hm hn
  have t1 : (((nb2 : Nat) : Int) != 0) = true := by simpa using b1
  go_in
  go_wp2_with ((with_reducible refine at_loadT 25 2 ?_); refine wpList_load_rowG rfl 25 (.tmp 2) rfl w.heap.size rfl 25 _ _ hP1 hu rfl hsz ?_)
  refine HC.out.mono ?_
  rintro e w2 ⟨rfl, hb2⟩
  have hz2 := hb2.size
  have hP2 := hP1.below hb2 hP1.lt
  have hQ2 := hQ1.below hb2 hQ1.lt
  have hlt2 := hP2.lt
  have hlq2 := hQ2.lt
  have hb2w := hb1.trans (hb2.mono (by omega))
  have ka0 : w2.cell? ⟨w.heap.size, 0, none⟩ = some (.int .i64 5) := hP2.cell 0
  have ka1 : w2.cell? ⟨w.heap.size, 1, none⟩ = some (.int .i64 addr) := hP2.cell 1
  have ka2 : w2.cell? ⟨w.heap.size, 2, none⟩ = some (.int .i64 count) := hP2.cell 2
  have ka3 : w2.cell? ⟨w.heap.size, 3, none⟩ = some (.int .i64 to) := hP2.cell 3
  have ka4 : w2.cell? ⟨w.heap.size, 4, none⟩ = some (.slice A nb cb) := hP2.cell 4
  have ka5 : w2.cell? ⟨w.heap.size, 5, none⟩ = some (.slice R nr cr) := hP2.cell 5
  have kr0 : w2.cell? ⟨w.heap.size + 1, 0, none⟩ = some (.int .i64 5) := hQ2.cell 0
  have kr1 : w2.cell? ⟨w.heap.size + 1, 1, none⟩ = some (.int .i64 0) := hQ2.cell 1
  have kr2 : w2.cell? ⟨w.heap.size + 1, 2, none⟩ = some (.slice A2 nb2 cb2) := hQ2.cell 2
  have kr3 : w2.cell? ⟨w.heap.size + 1, 3, none⟩ = some (.slice R2 nr2 cr2) := hQ2.cell 3
  go_wp2_with fail
  go_ret2
  exact ans_none (by rw [HN.out, if_pos (by left; exact b1)]) hb2w
set_option maxRecDepth 100000 in
set_option maxHeartbeats 2000000 in
theorem ra_5b (fn addr count to : Int) (bits : List Bool) (regs : List Int) (A : Option Addr) (nb cb : Nat) (R : Option Addr) (nr cr : Nat) (rfn code : Int) (bits2 : List Bool) (regs2 : List Int) (A2 : Option Addr) (nb2 cb2 : Nat) (R2 : Option Addr) (nr2 cr2 : Nat) (w : World) (hA : SlB w w.heap.size A nb cb bits) (hR : SlI w w.heap.size .u16 R nr cr regs) (hA2 : SlB w w.heap.size A2 nb2 cb2 bits2) (hR2 : SlI w w.heap.size .u16 R2 nr2 cr2 regs2) (o : Option (List Int)) (hm : mayP ⟨fn, addr, count, to, bits, regs⟩ = true) (hq : rfn = fn) (hfn : fn = 5) (hz : code = 0) (hy : Reg16 regs) (hy2 : Reg16 regs2) (ha : 0 ≤ addr ∧ addr < 65536) (k1 : nb ≤ 1968) (k2 : nr ≤ 123) (hcnt : 0 ≤ count ∧ count ≤ 125) (hn : o = if (nb2 : Int) ≠ 0 ∨ (nr2 : Int) ≠ 0 then none else some (bytesP ⟨5, addr, count, to, bits, regs⟩)) (b1 : (nb2 : Int) = 0) (b2 : (nr2 : Int) ≠ 0) : Calls Tryd.prog 14 #[.agg #[.int .i64 fn, .int .i64 addr, .int .i64 count, .int .i64 to, .slice A nb cb, .slice R nr cr], .agg #[.int .i64 rfn, .int .i64 code, .slice A2 nb2 cb2, .slice R2 nr2 cr2]] w (AnsPost w o) := by
  subst hq hfn hz
  obtain rfl : nb2 = 0 := by omega
  obtain ⟨w1, hw1⟩ : ∃ w1, (w.alloc (.cells #[.int .i64 5, .int .i64 addr, .int .i64 count, .int .i64 to, .slice A nb cb, .slice R nr cr] 25)).alloc (.cells #[.int .i64 5, .int .i64 0, .slice A2 0 cb2, .slice R2 nr2 cr2] 34) = w1 := ⟨_, rfl⟩
  have hb1 : Below w.heap.size w w1 := by rw [← hw1]; exact ((Below.refl _ w).alloc (Nat.le_refl _) _).alloc (by simp) _
  have hz1 : w1.heap.size = w.heap.size + 2 := by rw [← hw1]; simp
  have hP1 : Held w1 w.heap.size 25 #[.int .i64 5, .int .i64 addr, .int .i64 count, .int .i64 to, .slice A nb cb, .slice R nr cr] := by rw [← hw1]; exact (Held.new w _ _).alloc _
  have hQ1 : Held w1 (w.heap.size + 1) 34 #[.int .i64 5, .int .i64 0, .slice A2 0 cb2, .slice R2 nr2 cr2] := by rw [← hw1]; have := Held.new (w.alloc (.cells #[.int .i64 5, .int .i64 addr, .int .i64 count, .int .i64 to, .slice A nb cb, .slice R nr cr] 25)) 34 #[.int .i64 5, .int .i64 0, .slice A2 0 cb2, .slice R2 nr2 cr2]; rw [World.size_alloc] at this; exact this
  have hu := Tryd.underlying25
  have hsz : (Tryd.prog.info? 25).map (·.size) = some 6 := by kernel_rfl
  have hc := may_any (.agg #[.int .i64 5, .int .i64 addr, .int .i64 count, .int .i64 to, .slice A nb cb, .slice R nr cr]) ⟨5, addr, count, to, bits, regs⟩ w1 ⟨A, nb, cb, R, nr, cr, rfl, hA.up hb1, hR.up hb1⟩
  rw [hm] at hc
  have HC := Lib.hid hc
  clear hc
  have HN := Lib.hid hn
  have HA := Lib.hid (fun (X : World) (h : Below w.heap.size w X) => hA.up h)
  have HR := Lib.hid (fun (X : World) (h : Below w.heap.size w X) => hR.up h)
  have HA2 := Lib.hid (fun (X : World) (h : Below w.heap.size w X) => hA2.up h)
  have HR2 := Lib.hid (fun (X : World) (h : Below w.heap.size w X) => hR2.up h)
  have HM := Lib.hid hm
  have hl2 := Lib.hid hA2.1
  have hlr2 := Lib.hid hR2.1
  obtain ⟨i0, hi, hz0, hz1', hz2'⟩ := info_parts infoU8
  clear hA hR hA2 hR2 hm hn
  have B1 := Lib.hid b1
  clear b1
  have t2 : (((nr2 : Nat) : Int) != 0) = true := by simpa using b2
  go_in
  go_wp2_with ((with_reducible refine at_loadT 25 2 ?_); refine wpList_load_rowG rfl 25 (.tmp 2) rfl w.heap.size rfl 25 _ _ hP1 hu rfl hsz ?_)
  refine HC.out.mono ?_
  rintro e w2 ⟨rfl, hb2⟩
  have hz2 := hb2.size
  have hP2 := hP1.below hb2 hP1.lt
  have hQ2 := hQ1.below hb2 hQ1.lt
  have hlt2 := hP2.lt
  have hlq2 := hQ2.lt
  have hb2w := hb1.trans (hb2.mono (by omega))
  have ka0 : w2.cell? ⟨w.heap.size, 0, none⟩ = some (.int .i64 5) := hP2.cell 0
  have ka1 : w2.cell? ⟨w.heap.size, 1, none⟩ = some (.int .i64 addr) := hP2.cell 1
  have ka2 : w2.cell? ⟨w.heap.size, 2, none⟩ = some (.int .i64 count) := hP2.cell 2
  have ka3 : w2.cell? ⟨w.heap.size, 3, none⟩ = some (.int .i64 to) := hP2.cell 3
  have ka4 : w2.cell? ⟨w.heap.size, 4, none⟩ = some (.slice A nb cb) := hP2.cell 4
  have ka5 : w2.cell? ⟨w.heap.size, 5, none⟩ = some (.slice R nr cr) := hP2.cell 5
  have kr0 : w2.cell? ⟨w.heap.size + 1, 0, none⟩ = some (.int .i64 5) := hQ2.cell 0
  have kr1 : w2.cell? ⟨w.heap.size + 1, 1, none⟩ = some (.int .i64 0) := hQ2.cell 1
  have kr2 : w2.cell? ⟨w.heap.size + 1, 2, none⟩ = some (.slice A2 0 cb2) := hQ2.cell 2
  have kr3 : w2.cell? ⟨w.heap.size + 1, 3, none⟩ = some (.slice R2 nr2 cr2) := hQ2.cell 3
  go_wp2_with fail
  go_ret2
  exact ans_none (by rw [HN.out, if_pos (by right; exact b2)]) hb2w
set_option maxRecDepth 100000 in
set_option maxHeartbeats 2000000 in
theorem ra_5c (fn addr count to : Int) (bits : List Bool) (regs : List Int) (A : Option Addr) (nb cb : Nat) (R : Option Addr) (nr cr : Nat) (rfn code : Int) (bits2 : List Bool) (regs2 : List Int) (A2 : Option Addr) (nb2 cb2 : Nat) (R2 : Option Addr) (nr2 cr2 : Nat) (w : World) (hA : SlB w w.heap.size A nb cb bits) (hR : SlI w w.heap.size .u16 R nr cr regs) (hA2 : SlB w w.heap.size A2 nb2 cb2 bits2) (hR2 : SlI w w.heap.size .u16 R2 nr2 cr2 regs2) (o : Option (List Int)) (hm : mayP ⟨fn, addr, count, to, bits, regs⟩ = true) (hq : rfn = fn) (hfn : fn = 5) (hz : code = 0) (hy : Reg16 regs) (hy2 : Reg16 regs2) (ha : 0 ≤ addr ∧ addr < 65536) (k1 : nb ≤ 1968) (k2 : nr ≤ 123) (hcnt : 0 ≤ count ∧ count ≤ 125) (hn : o = if (nb2 : Int) ≠ 0 ∨ (nr2 : Int) ≠ 0 then none else some (bytesP ⟨5, addr, count, to, bits, regs⟩)) (b1 : (nb2 : Int) = 0) (b2 : (nr2 : Int) = 0) : Calls Tryd.prog 14 #[.agg #[.int .i64 fn, .int .i64 addr, .int .i64 count, .int .i64 to, .slice A nb cb, .slice R nr cr], .agg #[.int .i64 rfn, .int .i64 code, .slice A2 nb2 cb2, .slice R2 nr2 cr2]] w (AnsPost w o) := by
  subst hq hfn hz
  obtain rfl : nb2 = 0 := by omega
  obtain rfl : nr2 = 0 := by omega
  obtain ⟨w1, hw1⟩ : ∃ w1, (w.alloc (.cells #[.int .i64 5, .int .i64 addr, .int .i64 count, .int .i64 to, .slice A nb cb, .slice R nr cr] 25)).alloc (.cells #[.int .i64 5, .int .i64 0, .slice A2 0 cb2, .slice R2 0 cr2] 34) = w1 := ⟨_, rfl⟩
  have hb1 : Below w.heap.size w w1 := by rw [← hw1]; exact ((Below.refl _ w).alloc (Nat.le_refl _) _).alloc (by simp) _
  have hz1 : w1.heap.size = w.heap.size + 2 := by rw [← hw1]; simp
  have hP1 : Held w1 w.heap.size 25 #[.int .i64 5, .int .i64 addr, .int .i64 count, .int .i64 to, .slice A nb cb, .slice R nr cr] := by rw [← hw1]; exact (Held.new w _ _).alloc _
  have hQ1 : Held w1 (w.heap.size + 1) 34 #[.int .i64 5, .int .i64 0, .slice A2 0 cb2, .slice R2 0 cr2] := by rw [← hw1]; have := Held.new (w.alloc (.cells #[.int .i64 5, .int .i64 addr, .int .i64 count, .int .i64 to, .slice A nb cb, .slice R nr cr] 25)) 34 #[.int .i64 5, .int .i64 0, .slice A2 0 cb2, .slice R2 0 cr2]; rw [World.size_alloc] at this; exact this
  have hu := Tryd.underlying25
  have hsz : (Tryd.prog.info? 25).map (·.size) = some 6 := by kernel_rfl
  have hc := may_any (.agg #[.int .i64 5, .int .i64 addr, .int .i64 count, .int .i64 to, .slice A nb cb, .slice R nr cr]) ⟨5, addr, count, to, bits, regs⟩ w1 ⟨A, nb, cb, R, nr, cr, rfl, hA.up hb1, hR.up hb1⟩
  rw [hm] at hc
  have HC := Lib.hid hc
  clear hc
  have HN := Lib.hid hn
  have HA := Lib.hid (fun (X : World) (h : Below w.heap.size w X) => hA.up h)
  have HR := Lib.hid (fun (X : World) (h : Below w.heap.size w X) => hR.up h)
  have HA2 := Lib.hid (fun (X : World) (h : Below w.heap.size w X) => hA2.up h)
  have HR2 := Lib.hid (fun (X : World) (h : Below w.heap.size w X) => hR2.up h)
  have HM := Lib.hid hm
  have hl2 := Lib.hid hA2.1
  have hlr2 := Lib.hid hR2.1
  obtain ⟨i0, hi, hz0, hz1', hz2'⟩ := info_parts infoU8
  clear hA hR hA2 hR2 hm hn
  have B1 := Lib.hid b1
  have B2 := Lib.hid b2
  clear b1 b2
  go_in
  go_wp2_with ((with_reducible refine at_loadT 25 2 ?_); refine wpList_load_rowG rfl 25 (.tmp 2) rfl w.heap.size rfl 25 _ _ hP1 hu rfl hsz ?_)
  refine HC.out.mono ?_
  rintro e w2 ⟨rfl, hb2⟩
  have hz2 := hb2.size
  have hP2 := hP1.below hb2 hP1.lt
  have hQ2 := hQ1.below hb2 hQ1.lt
  have hlt2 := hP2.lt
  have hlq2 := hQ2.lt
  have hb2w := hb1.trans (hb2.mono (by omega))
  have ka0 : w2.cell? ⟨w.heap.size, 0, none⟩ = some (.int .i64 5) := hP2.cell 0
  have ka1 : w2.cell? ⟨w.heap.size, 1, none⟩ = some (.int .i64 addr) := hP2.cell 1
  have ka2 : w2.cell? ⟨w.heap.size, 2, none⟩ = some (.int .i64 count) := hP2.cell 2
  have ka3 : w2.cell? ⟨w.heap.size, 3, none⟩ = some (.int .i64 to) := hP2.cell 3
  have ka4 : w2.cell? ⟨w.heap.size, 4, none⟩ = some (.slice A nb cb) := hP2.cell 4
  have ka5 : w2.cell? ⟨w.heap.size, 5, none⟩ = some (.slice R nr cr) := hP2.cell 5
  have kr0 : w2.cell? ⟨w.heap.size + 1, 0, none⟩ = some (.int .i64 5) := hQ2.cell 0
  have kr1 : w2.cell? ⟨w.heap.size + 1, 1, none⟩ = some (.int .i64 0) := hQ2.cell 1
  have kr2 : w2.cell? ⟨w.heap.size + 1, 2, none⟩ = some (.slice A2 0 cb2) := hQ2.cell 2
  have kr3 : w2.cell? ⟨w.heap.size + 1, 3, none⟩ = some (.slice R2 0 cr2) := hQ2.cell 3
  obtain ⟨w3, hw3⟩ : ∃ w3, w2.alloc (.cells #[.int .u8 5] 5) = w3 := ⟨_, rfl⟩
  have hb3 : Below w2.heap.size w2 w3 := by rw [← hw3]; exact (Below.refl _ w2).alloc (Nat.le_refl _) _
  have ho3 : w3.ownsRow w2.heap.size 5 1 (.slice (some ⟨w2.heap.size, 0, none⟩) 1 1) 1 ([(5 : Int)].map (Value.int .u8)) := by rw [← hw3]; exact lit_own _ _ _ (Nat.le_refl _)
  have hb3w := hb2w.trans (hb3.mono hb2w.size)
  have Bw3 : Below w2.heap.size w2 w3 := hb3
  have Zw3 := Bw3.size
  have hP0 := hP2
  have hQ0 := hQ2
  have hPw3 := hP2.below Bw3 hP2.lt
  have hQw3 := hQ2.below Bw3 hQ2.lt
  have lhPw3 := hPw3.lt
  have lhQw3 := hQw3.lt
  have hPw30 : w3.cell? ⟨w.heap.size, 0, none⟩ = some (.int .i64 5) := hPw3.cell 0
  have hPw31 : w3.cell? ⟨w.heap.size, 1, none⟩ = some (.int .i64 addr) := hPw3.cell 1
  have hPw32 : w3.cell? ⟨w.heap.size, 2, none⟩ = some (.int .i64 count) := hPw3.cell 2
  have hPw33 : w3.cell? ⟨w.heap.size, 3, none⟩ = some (.int .i64 to) := hPw3.cell 3
  have hPw34 : w3.cell? ⟨w.heap.size, 4, none⟩ = some (.slice A nb cb) := hPw3.cell 4
  have hPw35 : w3.cell? ⟨w.heap.size, 5, none⟩ = some (.slice R nr cr) := hPw3.cell 5
  have hQw30 : w3.cell? ⟨(w.heap.size + 1), 0, none⟩ = some (.int .i64 5) := hQw3.cell 0
  have hQw31 : w3.cell? ⟨(w.heap.size + 1), 1, none⟩ = some (.int .i64 0) := hQw3.cell 1
  have hQw32 : w3.cell? ⟨(w.heap.size + 1), 2, none⟩ = some (.slice A2 0 cb2) := hQw3.cell 2
  have hQw33 : w3.cell? ⟨(w.heap.size + 1), 3, none⟩ = some (.slice R2 0 cr2) := hQw3.cell 3
  have HBY := Lib.hid (bytes_ref (.agg #[.int .i64 5, .int .i64 addr, .int .i64 count, .int .i64 to, .slice A nb cb, .slice R nr cr]) ⟨5, addr, count, to, bits, regs⟩ w3 ⟨A, nb, cb, R, nr, cr, rfl, HA.out w3 hb3w, HR.out w3 hb3w⟩ hy)
  have hP1 := hPw3
  go_wp2_with ((with_reducible refine at_loadT 25 2 ?_); refine wpList_load_rowG rfl 25 (.tmp 2) rfl w.heap.size rfl 25 _ _ hP1 hu rfl hsz ?_)
  refine HBY.out.mono ?_
  rintro e w4 ⟨Ab, nb', cb', rfl, hsb, hb4⟩
  rw [HM.out]
  have he : errV true = 0 := rfl
  go_wp2_with fail
  go_ret2
  unfold askL at hsb
  rw [if_pos HM.out] at hsb
  exact ans_sl (by rw [HN.out, if_neg (by have := B1.out; have := B2.out; omega)]) hsb (hb3w.trans (hb4.mono hb3w.size))
set_option maxRecDepth 100000 in
set_option maxHeartbeats 2000000 in
theorem ra_6a (fn addr count to : Int) (bits : List Bool) (regs : List Int) (A : Option Addr) (nb cb : Nat) (R : Option Addr) (nr cr : Nat) (rfn code : Int) (bits2 : List Bool) (regs2 : List Int) (A2 : Option Addr) (nb2 cb2 : Nat) (R2 : Option Addr) (nr2 cr2 : Nat) (w : World) (hA : SlB w w.heap.size A nb cb bits) (hR : SlI w w.heap.size .u16 R nr cr regs) (hA2 : SlB w w.heap.size A2 nb2 cb2 bits2) (hR2 : SlI w w.heap.size .u16 R2 nr2 cr2 regs2) (o : Option (List Int)) (hm : mayP ⟨fn, addr, count, to, bits, regs⟩ = true) (hq : rfn = fn) (hfn : fn = 6) (hz : code = 0) (hy : Reg16 regs) (hy2 : Reg16 regs2) (ha : 0 ≤ addr ∧ addr < 65536) (k1 : nb ≤ 1968) (k2 : nr ≤ 123) (hcnt : 0 ≤ count ∧ count ≤ 125) (hn : o = if (nb2 : Int) ≠ 0 ∨ (nr2 : Int) ≠ 0 then none else some (bytesP ⟨6, addr, count, to, bits, regs⟩)) (b1 : (nb2 : Int) ≠ 0) : Calls Tryd.prog 14 #[.agg #[.int .i64 fn, .int .i64 addr, .int .i64 count, .int .i64 to, .slice A nb cb, .slice R nr cr], .agg #[.int .i64 rfn, .int .i64 code, .slice A2 nb2 cb2, .slice R2 nr2 cr2]] w (AnsPost w o) := by
  subst hq hfn hz
  obtain ⟨w1, hw1⟩ : ∃ w1, (w.alloc (.cells #[.int .i64 6, .int .i64 addr, .int .i64 count, .int .i64 to, .slice A nb cb, .slice R nr cr] 25)).alloc (.cells #[.int .i64 6, .int .i64 0, .slice A2 nb2 cb2, .slice R2 nr2 cr2] 34) = w1 := ⟨_, rfl⟩
  have hb1 : Below w.heap.size w w1 := by rw [← hw1]; exact ((Below.refl _ w).alloc (Nat.le_refl _) _).alloc (by simp) _
  have hz1 : w1.heap.size = w.heap.size + 2 := by rw [← hw1]; simp
  have hP1 : Held w1 w.heap.size 25 #[.int .i64 6, .int .i64 addr, .int .i64 count, .int .i64 to, .slice A nb cb, .slice R nr cr] := by rw [← hw1]; exact (Held.new w _ _).alloc _
  have hQ1 : Held w1 (w.heap.size + 1) 34 #[.int .i64 6, .int .i64 0, .slice A2 nb2 cb2, .slice R2 nr2 cr2] := by rw [← hw1]; have := Held.new (w.alloc (.cells #[.int .i64 6, .int .i64 addr, .int .i64 count, .int .i64 to, .slice A nb cb, .slice R nr cr] 25)) 34 #[.int .i64 6, .int .i64 0, .slice A2 nb2 cb2, .slice R2 nr2 cr2]; rw [World.size_alloc] at this; exact this
  have hu := Tryd.underlying25
  have hsz : (Tryd.prog.info? 25).map (·.size) = some 6 := by kernel_rfl
  have hc := may_any (.agg #[.int .i64 6, .int .i64 addr, .int .i64 count, .int .i64 to, .slice A nb cb, .slice R nr cr]) ⟨6, addr, count, to, bits, regs⟩ w1 ⟨A, nb, cb, R, nr, cr, rfl, hA.up hb1, hR.up hb1⟩
  rw [hm] at hc
  have HC := Lib.hid hc
  clear hc
  have HN := Lib.hid hn
  have HA := Lib.hid (fun (X : World) (h : Below w.heap.size w X) => hA.up h)
  have HR := Lib.hid (fun (X : World) (h : Below w.heap.size w X) => hR.up h)
  have HA2 := Lib.hid (fun (X : World) (h : Below w.heap.size w X) => hA2.up h)
  have HR2 := Lib.hid (fun (X : World) (h : Below w.heap.size w X) => hR2.up h)
  have HM := Lib.hid hm
  have hl2 := Lib.hid hA2.1
  have hlr2 := Lib.hid hR2.1
  obtain ⟨i0, hi, hz0, hz1', hz2'⟩ := info_parts infoU8
  clear hA hR hA2 hR2 hm hn
  have t1 : (((nb2 : Nat) : Int) != 0) = true := by simpa using b1
  go_in
  go_wp2_with ((with_reducible refine at_loadT 25 2 ?_); refine wpList_load_rowG rfl 25 (.tmp 2) rfl w.heap.size rfl 25 _ _ hP1 hu rfl hsz ?_)
  refine HC.out.mono ?_
  rintro e w2 ⟨rfl, hb2⟩
  have hz2 := hb2.size
  have hP2 := hP1.below hb2 hP1.lt
  have hQ2 := hQ1.below hb2 hQ1.lt
  have hlt2 := hP2.lt
  have hlq2 := hQ2.lt
  have hb2w := hb1.trans (hb2.mono (by omega))
  have ka0 : w2.cell? ⟨w.heap.size, 0, none⟩ = some (.int .i64 6) := hP2.cell 0
  have ka1 : w2.cell? ⟨w.heap.size, 1, none⟩ = some (.int .i64 addr) := hP2.cell 1
  have ka2 : w2.cell? ⟨w.heap.size, 2, none⟩ = some (.int .i64 count) := hP2.cell 2
  have ka3 : w2.cell? ⟨w.heap.size, 3, none⟩ = some (.int .i64 to) := hP2.cell 3
  have ka4 : w2.cell? ⟨w.heap.size, 4, none⟩ = some (.slice A nb cb) := hP2.cell 4
  have ka5 : w2.cell? ⟨w.heap.size, 5, none⟩ = some (.slice R nr cr) := hP2.cell 5
  have kr0 : w2.cell? ⟨w.heap.size + 1, 0, none⟩ = some (.int .i64 6) := hQ2.cell 0
  have kr1 : w2.cell? ⟨w.heap.size + 1, 1, none⟩ = some (.int .i64 0) := hQ2.cell 1
  have kr2 : w2.cell? ⟨w.heap.size + 1, 2, none⟩ = some (.slice A2 nb2 cb2) := hQ2.cell 2
  have kr3 : w2.cell? ⟨w.heap.size + 1, 3, none⟩ = some (.slice R2 nr2 cr2) := hQ2.cell 3
  go_wp2_with fail
  go_ret2
  exact ans_none (by rw [HN.out, if_pos (by left; exact b1)]) hb2w
set_option maxRecDepth 100000 in
set_option maxHeartbeats 2000000 in
theorem ra_6b (fn addr count to : Int) (bits : List Bool) (regs : List Int) (A : Option Addr) (nb cb : Nat) (R : Option Addr) (nr cr : Nat) (rfn code : Int) (bits2 : List Bool) (regs2 : List Int) (A2 : Option Addr) (nb2 cb2 : Nat) (R2 : Option Addr) (nr2 cr2 : Nat) (w : World) (hA : SlB w w.heap.size A nb cb bits) (hR : SlI w w.heap.size .u16 R nr cr regs) (hA2 : SlB w w.heap.size A2 nb2 cb2 bits2) (hR2 : SlI w w.heap.size .u16 R2 nr2 cr2 regs2) (o : Option (List Int)) (hm : mayP ⟨fn, addr, count, to, bits, regs⟩ = true) (hq : rfn = fn) (hfn : fn = 6) (hz : code = 0) (hy : Reg16 regs) (hy2 : Reg16 regs2) (ha : 0 ≤ addr ∧ addr < 65536) (k1 : nb ≤ 1968) (k2 : nr ≤ 123) (hcnt : 0 ≤ count ∧ count ≤ 125) (hn : o = if (nb2 : Int) ≠ 0 ∨ (nr2 : Int) ≠ 0 then none else some (bytesP ⟨6, addr, count, to, bits, regs⟩)) (b1 : (nb2 : Int) = 0) (b2 : (nr2 : Int) ≠ 0) : Calls Tryd.prog 14 #[.agg #[.int .i64 fn, .int .i64 addr, .int .i64 count, .int .i64 to, .slice A nb cb, .slice R nr cr], .agg #[.int .i64 rfn, .int .i64 code, .slice A2 nb2 cb2, .slice R2 nr2 cr2]] w (AnsPost w o) := by
  subst hq hfn hz
  obtain rfl : nb2 = 0 := by omega
  obtain ⟨w1, hw1⟩ : ∃ w1, (w.alloc (.cells #[.int .i64 6, .int .i64 addr, .int .i64 count, .int .i64 to, .slice A nb cb, .slice R nr cr] 25)).alloc (.cells #[.int .i64 6, .int .i64 0, .slice A2 0 cb2, .slice R2 nr2 cr2] 34) = w1 := ⟨_, rfl⟩
  have hb1 : Below w.heap.size w w1 := by rw [← hw1]; exact ((Below.refl _ w).alloc (Nat.le_refl _) _).alloc (by simp) _
  have hz1 : w1.heap.size = w.heap.size + 2 := by rw [← hw1]; simp
  have hP1 : Held w1 w.heap.size 25 #[.int .i64 6, .int .i64 addr, .int .i64 count, .int .i64 to, .slice A nb cb, .slice R nr cr] := by rw [← hw1]; exact (Held.new w _ _).alloc _
  have hQ1 : Held w1 (w.heap.size + 1) 34 #[.int .i64 6, .int .i64 0, .slice A2 0 cb2, .slice R2 nr2 cr2] := by rw [← hw1]; have := Held.new (w.alloc (.cells #[.int .i64 6, .int .i64 addr, .int .i64 count, .int .i64 to, .slice A nb cb, .slice R nr cr] 25)) 34 #[.int .i64 6, .int .i64 0, .slice A2 0 cb2, .slice R2 nr2 cr2]; rw [World.size_alloc] at this; exact this
  have hu := Tryd.underlying25
  have hsz : (Tryd.prog.info? 25).map (·.size) = some 6 := by kernel_rfl
  have hc := may_any (.agg #[.int .i64 6, .int .i64 addr, .int .i64 count, .int .i64 to, .slice A nb cb, .slice R nr cr]) ⟨6, addr, count, to, bits, regs⟩ w1 ⟨A, nb, cb, R, nr, cr, rfl, hA.up hb1, hR.up hb1⟩
  rw [hm] at hc
  have HC := Lib.hid hc
  clear hc
  have HN := Lib.hid hn
  have HA := Lib.hid (fun (X : World) (h : Below w.heap.size w X) => hA.up h)
  have HR := Lib.hid (fun (X : World) (h : Below w.heap.size w X) => hR.up h)
  have HA2 := Lib.hid (fun (X : World) (h : Below w.heap.size w X) => hA2.up h)
  have HR2 := Lib.hid (fun (X : World) (h : Below w.heap.size w X) => hR2.up h)
  have HM := Lib.hid hm
  have hl2 := Lib.hid hA2.1
  have hlr2 := Lib.hid hR2.1
  obtain ⟨i0, hi, hz0, hz1', hz2'⟩ := info_parts infoU8
  clear hA hR hA2 hR2 hm hn
  have B1 := Lib.hid b1
  clear b1
  have t2 : (((nr2 : Nat) : Int) != 0) = true := by simpa using b2
  go_in
  go_wp2_with ((with_reducible refine at_loadT 25 2 ?_); refine wpList_load_rowG rfl 25 (.tmp 2) rfl w.heap.size rfl 25 _ _ hP1 hu rfl hsz ?_)
  refine HC.out.mono ?_
  rintro e w2 ⟨rfl, hb2⟩
  have hz2 := hb2.size
  have hP2 := hP1.below hb2 hP1.lt
  have hQ2 := hQ1.below hb2 hQ1.lt
  have hlt2 := hP2.lt
  have hlq2 := hQ2.lt
  have hb2w := hb1.trans (hb2.mono (by omega))
  have ka0 : w2.cell? ⟨w.heap.size, 0, none⟩ = some (.int .i64 6) := hP2.cell 0
  have ka1 : w2.cell? ⟨w.heap.size, 1, none⟩ = some (.int .i64 addr) := hP2.cell 1
  have ka2 : w2.cell? ⟨w.heap.size, 2, none⟩ = some (.int .i64 count) := hP2.cell 2
  have ka3 : w2.cell? ⟨w.heap.size, 3, none⟩ = some (.int .i64 to) := hP2.cell 3
  have ka4 : w2.cell? ⟨w.heap.size, 4, none⟩ = some (.slice A nb cb) := hP2.cell 4
  have ka5 : w2.cell? ⟨w.heap.size, 5, none⟩ = some (.slice R nr cr) := hP2.cell 5
  have kr0 : w2.cell? ⟨w.heap.size + 1, 0, none⟩ = some (.int .i64 6) := hQ2.cell 0
  have kr1 : w2.cell? ⟨w.heap.size + 1, 1, none⟩ = some (.int .i64 0) := hQ2.cell 1
  have kr2 : w2.cell? ⟨w.heap.size + 1, 2, none⟩ = some (.slice A2 0 cb2) := hQ2.cell 2
  have kr3 : w2.cell? ⟨w.heap.size + 1, 3, none⟩ = some (.slice R2 nr2 cr2) := hQ2.cell 3
  go_wp2_with fail
  go_ret2
  exact ans_none (by rw [HN.out, if_pos (by right; exact b2)]) hb2w
set_option maxRecDepth 100000 in
set_option maxHeartbeats 2000000 in
theorem ra_6c (fn addr count to : Int) (bits : List Bool) (regs : List Int) (A : Option Addr) (nb cb : Nat) (R : Option Addr) (nr cr : Nat) (rfn code : Int) (bits2 : List Bool) (regs2 : List Int) (A2 : Option Addr) (nb2 cb2 : Nat) (R2 : Option Addr) (nr2 cr2 : Nat) (w : World) (hA : SlB w w.heap.size A nb cb bits) (hR : SlI w w.heap.size .u16 R nr cr regs) (hA2 : SlB w w.heap.size A2 nb2 cb2 bits2) (hR2 : SlI w w.heap.size .u16 R2 nr2 cr2 regs2) (o : Option (List Int)) (hm : mayP ⟨fn, addr, count, to, bits, regs⟩ = true) (hq : rfn = fn) (hfn : fn = 6) (hz : code = 0) (hy : Reg16 regs) (hy2 : Reg16 regs2) (ha : 0 ≤ addr ∧ addr < 65536) (k1 : nb ≤ 1968) (k2 : nr ≤ 123) (hcnt : 0 ≤ count ∧ count ≤ 125) (hn : o = if (nb2 : Int) ≠ 0 ∨ (nr2 : Int) ≠ 0 then none else some (bytesP ⟨6, addr, count, to, bits, regs⟩)) (b1 : (nb2 : Int) = 0) (b2 : (nr2 : Int) = 0) : Calls Tryd.prog 14 #[.agg #[.int .i64 fn, .int .i64 addr, .int .i64 count, .int .i64 to, .slice A nb cb, .slice R nr cr], .agg #[.int .i64 rfn, .int .i64 code, .slice A2 nb2 cb2, .slice R2 nr2 cr2]] w (AnsPost w o) := by
  subst hq hfn hz
  obtain rfl : nb2 = 0 := by omega
  obtain rfl : nr2 = 0 := by omega
  obtain ⟨w1, hw1⟩ : ∃ w1, (w.alloc (.cells #[.int .i64 6, .int .i64 addr, .int .i64 count, .int .i64 to, .slice A nb cb, .slice R nr cr] 25)).alloc (.cells #[.int .i64 6, .int .i64 0, .slice A2 0 cb2, .slice R2 0 cr2] 34) = w1 := ⟨_, rfl⟩
  have hb1 : Below w.heap.size w w1 := by rw [← hw1]; exact ((Below.refl _ w).alloc (Nat.le_refl _) _).alloc (by simp) _
  have hz1 : w1.heap.size = w.heap.size + 2 := by rw [← hw1]; simp
  have hP1 : Held w1 w.heap.size 25 #[.int .i64 6, .int .i64 addr, .int .i64 count, .int .i64 to, .slice A nb cb, .slice R nr cr] := by rw [← hw1]; exact (Held.new w _ _).alloc _
  have hQ1 : Held w1 (w.heap.size + 1) 34 #[.int .i64 6, .int .i64 0, .slice A2 0 cb2, .slice R2 0 cr2] := by rw [← hw1]; have := Held.new (w.alloc (.cells #[.int .i64 6, .int .i64 addr, .int .i64 count, .int .i64 to, .slice A nb cb, .slice R nr cr] 25)) 34 #[.int .i64 6, .int .i64 0, .slice A2 0 cb2, .slice R2 0 cr2]; rw [World.size_alloc] at this; exact this
  have hu := Tryd.underlying25
  have hsz : (Tryd.prog.info? 25).map (·.size) = some 6 := by kernel_rfl
  have hc := may_any (.agg #[.int .i64 6, .int .i64 addr, .int .i64 count, .int .i64 to, .slice A nb cb, .slice R nr cr]) ⟨6, addr, count, to, bits, regs⟩ w1 ⟨A, nb, cb, R, nr, cr, rfl, hA.up hb1, hR.up hb1⟩
  rw [hm] at hc
  have HC := Lib.hid hc
  clear hc
  have HN := Lib.hid hn
  have HA := Lib.hid (fun (X : World) (h : Below w.heap.size w X) => hA.up h)
  have HR := Lib.hid (fun (X : World) (h : Below w.heap.size w X) => hR.up h)
  have HA2 := Lib.hid (fun (X : World) (h : Below w.heap.size w X) => hA2.up h)
  have HR2 := Lib.hid (fun (X : World) (h : Below w.heap.size w X) => hR2.up h)
  have HM := Lib.hid hm
  have hl2 := Lib.hid hA2.1
  have hlr2 := Lib.hid hR2.1
  obtain ⟨i0, hi, hz0, hz1', hz2'⟩ := info_parts infoU8
  clear hA hR hA2 hR2 hm hn
  have B1 := Lib.hid b1
  have B2 := Lib.hid b2
  clear b1 b2
  go_in
  go_wp2_with ((with_reducible refine at_loadT 25 2 ?_); refine wpList_load_rowG rfl 25 (.tmp 2) rfl w.heap.size rfl 25 _ _ hP1 hu rfl hsz ?_)
  refine HC.out.mono ?_
  rintro e w2 ⟨rfl, hb2⟩
  have hz2 := hb2.size
  have hP2 := hP1.below hb2 hP1.lt
  have hQ2 := hQ1.below hb2 hQ1.lt
  have hlt2 := hP2.lt
  have hlq2 := hQ2.lt
  have hb2w := hb1.trans (hb2.mono (by omega))
  have ka0 : w2.cell? ⟨w.heap.size, 0, none⟩ = some (.int .i64 6) := hP2.cell 0
  have ka1 : w2.cell? ⟨w.heap.size, 1, none⟩ = some (.int .i64 addr) := hP2.cell 1
  have ka2 : w2.cell? ⟨w.heap.size, 2, none⟩ = some (.int .i64 count) := hP2.cell 2
  have ka3 : w2.cell? ⟨w.heap.size, 3, none⟩ = some (.int .i64 to) := hP2.cell 3
  have ka4 : w2.cell? ⟨w.heap.size, 4, none⟩ = some (.slice A nb cb) := hP2.cell 4
  have ka5 : w2.cell? ⟨w.heap.size, 5, none⟩ = some (.slice R nr cr) := hP2.cell 5
  have kr0 : w2.cell? ⟨w.heap.size + 1, 0, none⟩ = some (.int .i64 6) := hQ2.cell 0
  have kr1 : w2.cell? ⟨w.heap.size + 1, 1, none⟩ = some (.int .i64 0) := hQ2.cell 1
  have kr2 : w2.cell? ⟨w.heap.size + 1, 2, none⟩ = some (.slice A2 0 cb2) := hQ2.cell 2
  have kr3 : w2.cell? ⟨w.heap.size + 1, 3, none⟩ = some (.slice R2 0 cr2) := hQ2.cell 3
  obtain ⟨w3, hw3⟩ : ∃ w3, w2.alloc (.cells #[.int .u8 6] 5) = w3 := ⟨_, rfl⟩
  have hb3 : Below w2.heap.size w2 w3 := by rw [← hw3]; exact (Below.refl _ w2).alloc (Nat.le_refl _) _
  have ho3 : w3.ownsRow w2.heap.size 5 1 (.slice (some ⟨w2.heap.size, 0, none⟩) 1 1) 1 ([(6 : Int)].map (Value.int .u8)) := by rw [← hw3]; exact lit_own _ _ _ (Nat.le_refl _)
  have hb3w := hb2w.trans (hb3.mono hb2w.size)
  have Bw3 : Below w2.heap.size w2 w3 := hb3
  have Zw3 := Bw3.size
  have hP0 := hP2
  have hQ0 := hQ2
  have hPw3 := hP2.below Bw3 hP2.lt
  have hQw3 := hQ2.below Bw3 hQ2.lt
  have lhPw3 := hPw3.lt
  have lhQw3 := hQw3.lt
  have hPw30 : w3.cell? ⟨w.heap.size, 0, none⟩ = some (.int .i64 6) := hPw3.cell 0
  have hPw31 : w3.cell? ⟨w.heap.size, 1, none⟩ = some (.int .i64 addr) := hPw3.cell 1
  have hPw32 : w3.cell? ⟨w.heap.size, 2, none⟩ = some (.int .i64 count) := hPw3.cell 2
  have hPw33 : w3.cell? ⟨w.heap.size, 3, none⟩ = some (.int .i64 to) := hPw3.cell 3
  have hPw34 : w3.cell? ⟨w.heap.size, 4, none⟩ = some (.slice A nb cb) := hPw3.cell 4
  have hPw35 : w3.cell? ⟨w.heap.size, 5, none⟩ = some (.slice R nr cr) := hPw3.cell 5
  have hQw30 : w3.cell? ⟨(w.heap.size + 1), 0, none⟩ = some (.int .i64 6) := hQw3.cell 0
  have hQw31 : w3.cell? ⟨(w.heap.size + 1), 1, none⟩ = some (.int .i64 0) := hQw3.cell 1
  have hQw32 : w3.cell? ⟨(w.heap.size + 1), 2, none⟩ = some (.slice A2 0 cb2) := hQw3.cell 2
  have hQw33 : w3.cell? ⟨(w.heap.size + 1), 3, none⟩ = some (.slice R2 0 cr2) := hQw3.cell 3
  have HBY := Lib.hid (bytes_ref (.agg #[.int .i64 6, .int .i64 addr, .int .i64 count, .int .i64 to, .slice A nb cb, .slice R nr cr]) ⟨6, addr, count, to, bits, regs⟩ w3 ⟨A, nb, cb, R, nr, cr, rfl, HA.out w3 hb3w, HR.out w3 hb3w⟩ hy)
  have hP1 := hPw3
  go_wp2_with ((with_reducible refine at_loadT 25 2 ?_); refine wpList_load_rowG rfl 25 (.tmp 2) rfl w.heap.size rfl 25 _ _ hP1 hu rfl hsz ?_)
  refine HBY.out.mono ?_
  rintro e w4 ⟨Ab, nb', cb', rfl, hsb, hb4⟩
  rw [HM.out]
  have he : errV true = 0 := rfl
  go_wp2_with fail
  go_ret2
  unfold askL at hsb
  rw [if_pos HM.out] at hsb
  exact ans_sl (by rw [HN.out, if_neg (by have := B1.out; have := B2.out; omega)]) hsb (hb3w.trans (hb4.mono hb3w.size))
end Go.Proofs.YtflbiichdjhaeaaDoor
namespace Go.Proofs.YtflbiichdjhaeaaDoor
open Go.RowKit
set_option linter.unusedVariables false

set_option maxRecDepth 100000 in
set_option maxHeartbeats 2000000 in
theorem ra_15a (fn addr count to : Int) (bits : List Bool) (regs : List Int) (A : Option Addr) (nb cb : Nat) (R : Option Addr) (nr cr : Nat) (rfn code : Int) (bits2 : List Bool) (regs2 : List Int) (A2 : Option Addr) (nb2 cb2 : Nat) (R2 : Option Addr) (nr2 cr2 : Nat) (w : World) (hA : SlB w w.heap.size A nb cb bits) (hR : SlI w w.heap.size .u16 R nr cr regs) (hA2 : SlB w w.heap.size A2 nb2 cb2 bits2) (hR2 : SlI w w.heap.size .u16 R2 nr2 cr2 regs2) (o : Option (List Int)) (hm : mayP ⟨fn, addr, count, to, bits, regs⟩ = true) (hq : rfn = fn) (hfn : fn = 15) (hz : code = 0) (hy : Reg16 regs) (hy2 : Reg16 regs2) (ha : 0 ≤ addr ∧ addr < 65536) (k1 : nb ≤ 1968) (k2 : nr ≤ 123) (hcnt : 0 ≤ count ∧ count ≤ 125) (hn : o = if (nb2 : Int) ≠ 0 ∨ (nr2 : Int) ≠ 0 then none else some (15 :: twoI addr ++ twoI ((nb : Int) + nr))) (b1 : (nb2 : Int) ≠ 0) : Calls Tryd.prog 14 #[.agg #[.int .i64 fn, .int .i64 addr, .int .i64 count, .int .i64 to, .slice A nb cb, .slice R nr cr], .agg #[.int .i64 rfn, .int .i64 code, .slice A2 nb2 cb2, .slice R2 nr2 cr2]] w (AnsPost w o) := by
  subst hq hfn hz
  obtain ⟨w1, hw1⟩ : ∃ w1, (w.alloc (.cells #[.int .i64 15, .int .i64 addr, .int .i64 count, .int .i64 to, .slice A nb cb, .slice R nr cr] 25)).alloc (.cells #[.int .i64 15, .int .i64 0, .slice A2 nb2 cb2, .slice R2 nr2 cr2] 34) = w1 := ⟨_, rfl⟩
  have hb1 : Below w.heap.size w w1 := by rw [← hw1]; exact ((Below.refl _ w).alloc (Nat.le_refl _) _).alloc (by simp) _
  have hz1 : w1.heap.size = w.heap.size + 2 := by rw [← hw1]; simp
  have hP1 : Held w1 w.heap.size 25 #[.int .i64 15, .int .i64 addr, .int .i64 count, .int .i64 to, .slice A nb cb, .slice R nr cr] := by rw [← hw1]; exact (Held.new w _ _).alloc _
  have hQ1 : Held w1 (w.heap.size + 1) 34 #[.int .i64 15, .int .i64 0, .slice A2 nb2 cb2, .slice R2 nr2 cr2] := by rw [← hw1]; have := Held.new (w.alloc (.cells #[.int .i64 15, .int .i64 addr, .int .i64 count, .int .i64 to, .slice A nb cb, .slice R nr cr] 25)) 34 #[.int .i64 15, .int .i64 0, .slice A2 nb2 cb2, .slice R2 nr2 cr2]; rw [World.size_alloc] at this; exact this
  have hu := Tryd.underlying25
  have hsz : (Tryd.prog.info? 25).map (·.size) = some 6 := by kernel_rfl
  have hc := may_any (.agg #[.int .i64 15, .int .i64 addr, .int .i64 count, .int .i64 to, .slice A nb cb, .slice R nr cr]) ⟨15, addr, count, to, bits, regs⟩ w1 ⟨A, nb, cb, R, nr, cr, rfl, hA.up hb1, hR.up hb1⟩
  rw [hm] at hc
  have HC := Lib.hid hc
  clear hc
  have HN := Lib.hid hn
  have HA := Lib.hid (fun (X : World) (h : Below w.heap.size w X) => hA.up h)
  have HR := Lib.hid (fun (X : World) (h : Below w.heap.size w X) => hR.up h)
  have HA2 := Lib.hid (fun (X : World) (h : Below w.heap.size w X) => hA2.up h)
  have HR2 := Lib.hid (fun (X : World) (h : Below w.heap.size w X) => hR2.up h)
  have HM := Lib.hid hm
  have hl2 := Lib.hid hA2.1
  have hlr2 := Lib.hid hR2.1
  obtain ⟨i0, hi, hz0, hz1', hz2'⟩ := info_parts infoU8
  clear hA hR hA2 hR2 hm hn
  have t1 : (((nb2 : Nat) : Int) != 0) = true := by simpa using b1
  go_in
  go_wp2_with ((with_reducible refine at_loadT 25 2 ?_); refine wpList_load_rowG rfl 25 (.tmp 2) rfl w.heap.size rfl 25 _ _ hP1 hu rfl hsz ?_)
  refine HC.out.mono ?_
  rintro e w2 ⟨rfl, hb2⟩
  have hz2 := hb2.size
  have hP2 := hP1.below hb2 hP1.lt
  have hQ2 := hQ1.below hb2 hQ1.lt
  have hlt2 := hP2.lt
  have hlq2 := hQ2.lt
  have hb2w := hb1.trans (hb2.mono (by omega))
  have ka0 : w2.cell? ⟨w.heap.size, 0, none⟩ = some (.int .i64 15) := hP2.cell 0
  have ka1 : w2.cell? ⟨w.heap.size, 1, none⟩ = some (.int .i64 addr) := hP2.cell 1
  have ka2 : w2.cell? ⟨w.heap.size, 2, none⟩ = some (.int .i64 count) := hP2.cell 2
  have ka3 : w2.cell? ⟨w.heap.size, 3, none⟩ = some (.int .i64 to) := hP2.cell 3
  have ka4 : w2.cell? ⟨w.heap.size, 4, none⟩ = some (.slice A nb cb) := hP2.cell 4
  have ka5 : w2.cell? ⟨w.heap.size, 5, none⟩ = some (.slice R nr cr) := hP2.cell 5
  have kr0 : w2.cell? ⟨w.heap.size + 1, 0, none⟩ = some (.int .i64 15) := hQ2.cell 0
  have kr1 : w2.cell? ⟨w.heap.size + 1, 1, none⟩ = some (.int .i64 0) := hQ2.cell 1
  have kr2 : w2.cell? ⟨w.heap.size + 1, 2, none⟩ = some (.slice A2 nb2 cb2) := hQ2.cell 2
  have kr3 : w2.cell? ⟨w.heap.size + 1, 3, none⟩ = some (.slice R2 nr2 cr2) := hQ2.cell 3
  go_wp2_with fail
  go_ret2
  exact ans_none (by rw [HN.out, if_pos (by left; exact b1)]) hb2w
set_option maxRecDepth 100000 in
set_option maxHeartbeats 2000000 in
theorem ra_15b (fn addr count to : Int) (bits : List Bool) (regs : List Int) (A : Option Addr) (nb cb : Nat) (R : Option Addr) (nr cr : Nat) (rfn code : Int) (bits2 : List Bool) (regs2 : List Int) (A2 : Option Addr) (nb2 cb2 : Nat) (R2 : Option Addr) (nr2 cr2 : Nat) (w : World) (hA : SlB w w.heap.size A nb cb bits) (hR : SlI w w.heap.size .u16 R nr cr regs) (hA2 : SlB w w.heap.size A2 nb2 cb2 bits2) (hR2 : SlI w w.heap.size .u16 R2 nr2 cr2 regs2) (o : Option (List Int)) (hm : mayP ⟨fn, addr, count, to, bits, regs⟩ = true) (hq : rfn = fn) (hfn : fn = 15) (hz : code = 0) (hy : Reg16 regs) (hy2 : Reg16 regs2) (ha : 0 ≤ addr ∧ addr < 65536) (k1 : nb ≤ 1968) (k2 : nr ≤ 123) (hcnt : 0 ≤ count ∧ count ≤ 125) (hn : o = if (nb2 : Int) ≠ 0 ∨ (nr2 : Int) ≠ 0 then none else some (15 :: twoI addr ++ twoI ((nb : Int) + nr))) (b1 : (nb2 : Int) = 0) (b2 : (nr2 : Int) ≠ 0) : Calls Tryd.prog 14 #[.agg #[.int .i64 fn, .int .i64 addr, .int .i64 count, .int .i64 to, .slice A nb cb, .slice R nr cr], .agg #[.int .i64 rfn, .int .i64 code, .slice A2 nb2 cb2, .slice R2 nr2 cr2]] w (AnsPost w o) := by
  subst hq hfn hz
  obtain rfl : nb2 = 0 := by omega
  obtain ⟨w1, hw1⟩ : ∃ w1, (w.alloc (.cells #[.int .i64 15, .int .i64 addr, .int .i64 count, .int .i64 to, .slice A nb cb, .slice R nr cr] 25)).alloc (.cells #[.int .i64 15, .int .i64 0, .slice A2 0 cb2, .slice R2 nr2 cr2] 34) = w1 := ⟨_, rfl⟩
  have hb1 : Below w.heap.size w w1 := by rw [← hw1]; exact ((Below.refl _ w).alloc (Nat.le_refl _) _).alloc (by simp) _
  have hz1 : w1.heap.size = w.heap.size + 2 := by rw [← hw1]; simp
  have hP1 : Held w1 w.heap.size 25 #[.int .i64 15, .int .i64 addr, .int .i64 count, .int .i64 to, .slice A nb cb, .slice R nr cr] := by rw [← hw1]; exact (Held.new w _ _).alloc _
  have hQ1 : Held w1 (w.heap.size + 1) 34 #[.int .i64 15, .int .i64 0, .slice A2 0 cb2, .slice R2 nr2 cr2] := by rw [← hw1]; have := Held.new (w.alloc (.cells #[.int .i64 15, .int .i64 addr, .int .i64 count, .int .i64 to, .slice A nb cb, .slice R nr cr] 25)) 34 #[.int .i64 15, .int .i64 0, .slice A2 0 cb2, .slice R2 nr2 cr2]; rw [World.size_alloc] at this; exact this
  have hu := Tryd.underlying25
  have hsz : (Tryd.prog.info? 25).map (·.size) = some 6 := by kernel_rfl
  have hc := may_any (.agg #[.int .i64 15, .int .i64 addr, .int .i64 count, .int .i64 to, .slice A nb cb, .slice R nr cr]) ⟨15, addr, count, to, bits, regs⟩ w1 ⟨A, nb, cb, R, nr, cr, rfl, hA.up hb1, hR.up hb1⟩
  rw [hm] at hc
  have HC := Lib.hid hc
  clear hc
  have HN := Lib.hid hn
  have HA := Lib.hid (fun (X : World) (h : Below w.heap.size w X) => hA.up h)
  have HR := Lib.hid (fun (X : World) (h : Below w.heap.size w X) => hR.up h)
  have HA2 := Lib.hid (fun (X : World) (h : Below w.heap.size w X) => hA2.up h)
  have HR2 := Lib.hid (fun (X : World) (h : Below w.heap.size w X) => hR2.up h)
  have HM := Lib.hid hm
  have hl2 := Lib.hid hA2.1
  have hlr2 := Lib.hid hR2.1
  obtain ⟨i0, hi, hz0, hz1', hz2'⟩ := info_parts infoU8
  clear hA hR hA2 hR2 hm hn
  have B1 := Lib.hid b1
  clear b1
  have t2 : (((nr2 : Nat) : Int) != 0) = true := by simpa using b2
  go_in
  go_wp2_with ((with_reducible refine at_loadT 25 2 ?_); refine wpList_load_rowG rfl 25 (.tmp 2) rfl w.heap.size rfl 25 _ _ hP1 hu rfl hsz ?_)
  refine HC.out.mono ?_
  rintro e w2 ⟨rfl, hb2⟩
  have hz2 := hb2.size
  have hP2 := hP1.below hb2 hP1.lt
  have hQ2 := hQ1.below hb2 hQ1.lt
  have hlt2 := hP2.lt
  have hlq2 := hQ2.lt
  have hb2w := hb1.trans (hb2.mono (by omega))
  have ka0 : w2.cell? ⟨w.heap.size, 0, none⟩ = some (.int .i64 15) := hP2.cell 0
  have ka1 : w2.cell? ⟨w.heap.size, 1, none⟩ = some (.int .i64 addr) := hP2.cell 1
  have ka2 : w2.cell? ⟨w.heap.size, 2, none⟩ = some (.int .i64 count) := hP2.cell 2
  have ka3 : w2.cell? ⟨w.heap.size, 3, none⟩ = some (.int .i64 to) := hP2.cell 3
  have ka4 : w2.cell? ⟨w.heap.size, 4, none⟩ = some (.slice A nb cb) := hP2.cell 4
  have ka5 : w2.cell? ⟨w.heap.size, 5, none⟩ = some (.slice R nr cr) := hP2.cell 5
  have kr0 : w2.cell? ⟨w.heap.size + 1, 0, none⟩ = some (.int .i64 15) := hQ2.cell 0
  have kr1 : w2.cell? ⟨w.heap.size + 1, 1, none⟩ = some (.int .i64 0) := hQ2.cell 1
  have kr2 : w2.cell? ⟨w.heap.size + 1, 2, none⟩ = some (.slice A2 0 cb2) := hQ2.cell 2
  have kr3 : w2.cell? ⟨w.heap.size + 1, 3, none⟩ = some (.slice R2 nr2 cr2) := hQ2.cell 3
  go_wp2_with fail
  go_ret2
  exact ans_none (by rw [HN.out, if_pos (by right; exact b2)]) hb2w
set_option maxRecDepth 100000 in
set_option maxHeartbeats 2000000 in
theorem ra_15c (fn addr count to : Int) (bits : List Bool) (regs : List Int) (A : Option Addr) (nb cb : Nat) (R : Option Addr) (nr cr : Nat) (rfn code : Int) (bits2 : List Bool) (regs2 : List Int) (A2 : Option Addr) (nb2 cb2 : Nat) (R2 : Option Addr) (nr2 cr2 : Nat) (w : World) (hA : SlB w w.heap.size A nb cb bits) (hR : SlI w w.heap.size .u16 R nr cr regs) (hA2 : SlB w w.heap.size A2 nb2 cb2 bits2) (hR2 : SlI w w.heap.size .u16 R2 nr2 cr2 regs2) (o : Option (List Int)) (hm : mayP ⟨fn, addr, count, to, bits, regs⟩ = true) (hq : rfn = fn) (hfn : fn = 15) (hz : code = 0) (hy : Reg16 regs) (hy2 : Reg16 regs2) (ha : 0 ≤ addr ∧ addr < 65536) (k1 : nb ≤ 1968) (k2 : nr ≤ 123) (hcnt : 0 ≤ count ∧ count ≤ 125) (hn : o = if (nb2 : Int) ≠ 0 ∨ (nr2 : Int) ≠ 0 then none else some (15 :: twoI addr ++ twoI ((nb : Int) + nr))) (b1 : (nb2 : Int) = 0) (b2 : (nr2 : Int) = 0) : Calls Tryd.prog 14 #[.agg #[.int .i64 fn, .int .i64 addr, .int .i64 count, .int .i64 to, .slice A nb cb, .slice R nr cr], .agg #[.int .i64 rfn, .int .i64 code, .slice A2 nb2 cb2, .slice R2 nr2 cr2]] w (AnsPost w o) := by
  subst hq hfn hz
  obtain rfl : nb2 = 0 := by omega
  obtain rfl : nr2 = 0 := by omega
  obtain ⟨w1, hw1⟩ : ∃ w1, (w.alloc (.cells #[.int .i64 15, .int .i64 addr, .int .i64 count, .int .i64 to, .slice A nb cb, .slice R nr cr] 25)).alloc (.cells #[.int .i64 15, .int .i64 0, .slice A2 0 cb2, .slice R2 0 cr2] 34) = w1 := ⟨_, rfl⟩
  have hb1 : Below w.heap.size w w1 := by rw [← hw1]; exact ((Below.refl _ w).alloc (Nat.le_refl _) _).alloc (by simp) _
  have hz1 : w1.heap.size = w.heap.size + 2 := by rw [← hw1]; simp
  have hP1 : Held w1 w.heap.size 25 #[.int .i64 15, .int .i64 addr, .int .i64 count, .int .i64 to, .slice A nb cb, .slice R nr cr] := by rw [← hw1]; exact (Held.new w _ _).alloc _
  have hQ1 : Held w1 (w.heap.size + 1) 34 #[.int .i64 15, .int .i64 0, .slice A2 0 cb2, .slice R2 0 cr2] := by rw [← hw1]; have := Held.new (w.alloc (.cells #[.int .i64 15, .int .i64 addr, .int .i64 count, .int .i64 to, .slice A nb cb, .slice R nr cr] 25)) 34 #[.int .i64 15, .int .i64 0, .slice A2 0 cb2, .slice R2 0 cr2]; rw [World.size_alloc] at this; exact this
  have hu := Tryd.underlying25
  have hsz : (Tryd.prog.info? 25).map (·.size) = some 6 := by kernel_rfl
  have hc := may_any (.agg #[.int .i64 15, .int .i64 addr, .int .i64 count, .int .i64 to, .slice A nb cb, .slice R nr cr]) ⟨15, addr, count, to, bits, regs⟩ w1 ⟨A, nb, cb, R, nr, cr, rfl, hA.up hb1, hR.up hb1⟩
  rw [hm] at hc
  have HC := Lib.hid hc
  clear hc
  have HN := Lib.hid hn
  have HA := Lib.hid (fun (X : World) (h : Below w.heap.size w X) => hA.up h)
  have HR := Lib.hid (fun (X : World) (h : Below w.heap.size w X) => hR.up h)
  have HA2 := Lib.hid (fun (X : World) (h : Below w.heap.size w X) => hA2.up h)
  have HR2 := Lib.hid (fun (X : World) (h : Below w.heap.size w X) => hR2.up h)
  have HM := Lib.hid hm
  have hl2 := Lib.hid hA2.1
  have hlr2 := Lib.hid hR2.1
  obtain ⟨i0, hi, hz0, hz1', hz2'⟩ := info_parts infoU8
  clear hA hR hA2 hR2 hm hn
  have B1 := Lib.hid b1
  have B2 := Lib.hid b2
  clear b1 b2
  go_in
  go_wp2_with ((with_reducible refine at_loadT 25 2 ?_); refine wpList_load_rowG rfl 25 (.tmp 2) rfl w.heap.size rfl 25 _ _ hP1 hu rfl hsz ?_)
  refine HC.out.mono ?_
  rintro e w2 ⟨rfl, hb2⟩
  have hz2 := hb2.size
  have hP2 := hP1.below hb2 hP1.lt
  have hQ2 := hQ1.below hb2 hQ1.lt
  have hlt2 := hP2.lt
  have hlq2 := hQ2.lt
  have hb2w := hb1.trans (hb2.mono (by omega))
  have ka0 : w2.cell? ⟨w.heap.size, 0, none⟩ = some (.int .i64 15) := hP2.cell 0
  have ka1 : w2.cell? ⟨w.heap.size, 1, none⟩ = some (.int .i64 addr) := hP2.cell 1
  have ka2 : w2.cell? ⟨w.heap.size, 2, none⟩ = some (.int .i64 count) := hP2.cell 2
  have ka3 : w2.cell? ⟨w.heap.size, 3, none⟩ = some (.int .i64 to) := hP2.cell 3
  have ka4 : w2.cell? ⟨w.heap.size, 4, none⟩ = some (.slice A nb cb) := hP2.cell 4
  have ka5 : w2.cell? ⟨w.heap.size, 5, none⟩ = some (.slice R nr cr) := hP2.cell 5
  have kr0 : w2.cell? ⟨w.heap.size + 1, 0, none⟩ = some (.int .i64 15) := hQ2.cell 0
  have kr1 : w2.cell? ⟨w.heap.size + 1, 1, none⟩ = some (.int .i64 0) := hQ2.cell 1
  have kr2 : w2.cell? ⟨w.heap.size + 1, 2, none⟩ = some (.slice A2 0 cb2) := hQ2.cell 2
  have kr3 : w2.cell? ⟨w.heap.size + 1, 3, none⟩ = some (.slice R2 0 cr2) := hQ2.cell 3
  obtain ⟨w3, hw3⟩ : ∃ w3, w2.alloc (.cells #[.int .u8 15] 5) = w3 := ⟨_, rfl⟩
  have hb3 : Below w2.heap.size w2 w3 := by rw [← hw3]; exact (Below.refl _ w2).alloc (Nat.le_refl _) _
  have ho3 : w3.ownsRow w2.heap.size 5 1 (.slice (some ⟨w2.heap.size, 0, none⟩) 1 1) 1 ([(15 : Int)].map (Value.int .u8)) := by rw [← hw3]; exact lit_own _ _ _ (Nat.le_refl _)
  have hb3w := hb2w.trans (hb3.mono hb2w.size)
  have Bw3 : Below w2.heap.size w2 w3 := hb3
  have Zw3 := Bw3.size
  have hP0 := hP2
  have hQ0 := hQ2
  have hPw3 := hP2.below Bw3 hP2.lt
  have hQw3 := hQ2.below Bw3 hQ2.lt
  have lhPw3 := hPw3.lt
  have lhQw3 := hQw3.lt
  have hPw30 : w3.cell? ⟨w.heap.size, 0, none⟩ = some (.int .i64 15) := hPw3.cell 0
  have hPw31 : w3.cell? ⟨w.heap.size, 1, none⟩ = some (.int .i64 addr) := hPw3.cell 1
  have hPw32 : w3.cell? ⟨w.heap.size, 2, none⟩ = some (.int .i64 count) := hPw3.cell 2
  have hPw33 : w3.cell? ⟨w.heap.size, 3, none⟩ = some (.int .i64 to) := hPw3.cell 3
  have hPw34 : w3.cell? ⟨w.heap.size, 4, none⟩ = some (.slice A nb cb) := hPw3.cell 4
  have hPw35 : w3.cell? ⟨w.heap.size, 5, none⟩ = some (.slice R nr cr) := hPw3.cell 5
  have hQw30 : w3.cell? ⟨(w.heap.size + 1), 0, none⟩ = some (.int .i64 15) := hQw3.cell 0
  have hQw31 : w3.cell? ⟨(w.heap.size + 1), 1, none⟩ = some (.int .i64 0) := hQw3.cell 1
  have hQw32 : w3.cell? ⟨(w.heap.size + 1), 2, none⟩ = some (.slice A2 0 cb2) := hQw3.cell 2
  have hQw33 : w3.cell? ⟨(w.heap.size + 1), 3, none⟩ = some (.slice R2 0 cr2) := hQw3.cell 3
  have HT1 := Lib.hid (two_any addr ha w3)
  go_wp2_with fail
  refine HT1.out.mono ?_
  rintro e wt1 ⟨rfl, hwt⟩
  have hbwt1 : Below w3.heap.size w3 wt1 := by rw [hwt]; exact (Below.refl _ w3).alloc (Nat.le_refl _) _
  have st1 : SlI wt1 wt1.heap.size .u8 (some ⟨w3.heap.size, 0, none⟩) 2 2 (twoI addr) := by rw [hwt]; exact two_sl addr w3
  have ot1 := own_up ho3 hbwt1
  clear hwt
  have hzwt1 : w3.heap.size ≤ wt1.heap.size := hbwt1.size
  have Bwt1 : Below w2.heap.size w2 wt1 := Bw3.trans (hbwt1.mono Bw3.size)
  have Zwt1 := Bwt1.size
  have hPwt1 := hPw3.below hbwt1 hPw3.lt
  have lhPwt1 := hPwt1.lt
  have hQwt1 := hQw3.below hbwt1 hQw3.lt
  have lhQwt1 := hQwt1.lt
  have hPwt10 : wt1.cell? ⟨w.heap.size, 0, none⟩ = some (.int .i64 15) := hPwt1.cell 0
  have hPwt11 : wt1.cell? ⟨w.heap.size, 1, none⟩ = some (.int .i64 addr) := hPwt1.cell 1
  have hPwt12 : wt1.cell? ⟨w.heap.size, 2, none⟩ = some (.int .i64 count) := hPwt1.cell 2
  have hPwt13 : wt1.cell? ⟨w.heap.size, 3, none⟩ = some (.int .i64 to) := hPwt1.cell 3
  have hPwt14 : wt1.cell? ⟨w.heap.size, 4, none⟩ = some (.slice A nb cb) := hPwt1.cell 4
  have hPwt15 : wt1.cell? ⟨w.heap.size, 5, none⟩ = some (.slice R nr cr) := hPwt1.cell 5
  have hQwt10 : wt1.cell? ⟨(w.heap.size + 1), 0, none⟩ = some (.int .i64 15) := hQwt1.cell 0
  have hQwt11 : wt1.cell? ⟨(w.heap.size + 1), 1, none⟩ = some (.int .i64 0) := hQwt1.cell 1
  have hQwt12 : wt1.cell? ⟨(w.heap.size + 1), 2, none⟩ = some (.slice A2 0 cb2) := hQwt1.cell 2
  have hQwt13 : wt1.cell? ⟨(w.heap.size + 1), 3, none⟩ = some (.slice R2 0 cr2) := hQwt1.cell 3
  go_wp2_with ((with_reducible refine at_append ?_); refine wpList_append_sl wt1 rfl _ _ 28 rfl w2.heap.size 5 i0 (.int .u8 0) 1 Tryd.underlying28 hi hz0 hz1' hz2' rfl (.slice (some ⟨w2.heap.size, 0, none⟩) 1 1) 1 _ rfl ot1 wt1.heap.size .u8 (some ⟨w3.heap.size, 0, none⟩) 2 2 (twoI addr) rfl st1 (by unfold maxLen; omega) (by omega) Zwt1 ?_; intro va2 wa2 oa2 hgr hlies; have Bwa2 : Below w2.heap.size w2 wa2 := Bwt1.grown hgr Zwt1 (fun j hj => (ot1.lt j hj).1); have Zwa2 := Bwa2.size; have hPwa2 := hP0.below Bwa2 hP0.lt; have lhPwa2 := hPwa2.lt; have hQwa2 := hQ0.below Bwa2 hQ0.lt; have lhQwa2 := hQwa2.lt; have hPwa20 : wa2.cell? ⟨w.heap.size, 0, none⟩ = some (.int .i64 15) := hPwa2.cell 0; have hPwa21 : wa2.cell? ⟨w.heap.size, 1, none⟩ = some (.int .i64 addr) := hPwa2.cell 1; have hPwa22 : wa2.cell? ⟨w.heap.size, 2, none⟩ = some (.int .i64 count) := hPwa2.cell 2; have hPwa23 : wa2.cell? ⟨w.heap.size, 3, none⟩ = some (.int .i64 to) := hPwa2.cell 3; have hPwa24 : wa2.cell? ⟨w.heap.size, 4, none⟩ = some (.slice A nb cb) := hPwa2.cell 4; have hPwa25 : wa2.cell? ⟨w.heap.size, 5, none⟩ = some (.slice R nr cr) := hPwa2.cell 5; have hQwa20 : wa2.cell? ⟨(w.heap.size + 1), 0, none⟩ = some (.int .i64 15) := hQwa2.cell 0; have hQwa21 : wa2.cell? ⟨(w.heap.size + 1), 1, none⟩ = some (.int .i64 0) := hQwa2.cell 1; have hQwa22 : wa2.cell? ⟨(w.heap.size + 1), 2, none⟩ = some (.slice A2 0 cb2) := hQwa2.cell 2; have hQwa23 : wa2.cell? ⟨(w.heap.size + 1), 3, none⟩ = some (.slice R2 0 cr2) := hQwa2.cell 3; rw [← List.map_append] at oa2; have Ooa2 := Lib.hid oa2; clear hgr hlies)
  have HT3 := Lib.hid (two_any ((nb : Int) + nr) (by omega) wa2)
  refine HT3.out.mono ?_
  rintro e wt3 ⟨rfl, hwt⟩
  have hbwt3 : Below wa2.heap.size wa2 wt3 := by rw [hwt]; exact (Below.refl _ wa2).alloc (Nat.le_refl _) _
  have st3 : SlI wt3 wt3.heap.size .u8 (some ⟨wa2.heap.size, 0, none⟩) 2 2 (twoI ((nb : Int) + nr)) := by rw [hwt]; exact two_sl ((nb : Int) + nr) wa2
  have ot3 := own_up oa2 hbwt3
  clear hwt
  have hzwt3 : wa2.heap.size ≤ wt3.heap.size := hbwt3.size
  have Bwt3 : Below w2.heap.size w2 wt3 := Bwa2.trans (hbwt3.mono Bwa2.size)
  have Zwt3 := Bwt3.size
  have hPwt3 := hPwa2.below hbwt3 hPwa2.lt
  have lhPwt3 := hPwt3.lt
  have hQwt3 := hQwa2.below hbwt3 hQwa2.lt
  have lhQwt3 := hQwt3.lt
  have hPwt30 : wt3.cell? ⟨w.heap.size, 0, none⟩ = some (.int .i64 15) := hPwt3.cell 0
  have hPwt31 : wt3.cell? ⟨w.heap.size, 1, none⟩ = some (.int .i64 addr) := hPwt3.cell 1
  have hPwt32 : wt3.cell? ⟨w.heap.size, 2, none⟩ = some (.int .i64 count) := hPwt3.cell 2
  have hPwt33 : wt3.cell? ⟨w.heap.size, 3, none⟩ = some (.int .i64 to) := hPwt3.cell 3
  have hPwt34 : wt3.cell? ⟨w.heap.size, 4, none⟩ = some (.slice A nb cb) := hPwt3.cell 4
  have hPwt35 : wt3.cell? ⟨w.heap.size, 5, none⟩ = some (.slice R nr cr) := hPwt3.cell 5
  have hQwt30 : wt3.cell? ⟨(w.heap.size + 1), 0, none⟩ = some (.int .i64 15) := hQwt3.cell 0
  have hQwt31 : wt3.cell? ⟨(w.heap.size + 1), 1, none⟩ = some (.int .i64 0) := hQwt3.cell 1
  have hQwt32 : wt3.cell? ⟨(w.heap.size + 1), 2, none⟩ = some (.slice A2 0 cb2) := hQwt3.cell 2
  have hQwt33 : wt3.cell? ⟨(w.heap.size + 1), 3, none⟩ = some (.slice R2 0 cr2) := hQwt3.cell 3
  go_wp2_with ((with_reducible refine at_append ?_); refine wpList_append_sl wt3 rfl _ _ 28 rfl w2.heap.size 5 i0 (.int .u8 0) 1 Tryd.underlying28 hi hz0 hz1' hz2' rfl va2 (1 + 2) _ rfl ot3 wt3.heap.size .u8 (some ⟨wa2.heap.size, 0, none⟩) 2 2 (twoI ((nb : Int) + nr)) rfl st3 (by unfold maxLen; omega) (by omega) Zwt3 ?_; intro va4 wa4 oa4 hgr hlies; have Bwa4 : Below w2.heap.size w2 wa4 := Bwt3.grown hgr Zwt3 (fun j hj => (ot3.lt j hj).1); have Zwa4 := Bwa4.size; have hPwa4 := hP0.below Bwa4 hP0.lt; have lhPwa4 := hPwa4.lt; have hQwa4 := hQ0.below Bwa4 hQ0.lt; have lhQwa4 := hQwa4.lt; have hPwa40 : wa4.cell? ⟨w.heap.size, 0, none⟩ = some (.int .i64 15) := hPwa4.cell 0; have hPwa41 : wa4.cell? ⟨w.heap.size, 1, none⟩ = some (.int .i64 addr) := hPwa4.cell 1; have hPwa42 : wa4.cell? ⟨w.heap.size, 2, none⟩ = some (.int .i64 count) := hPwa4.cell 2; have hPwa43 : wa4.cell? ⟨w.heap.size, 3, none⟩ = some (.int .i64 to) := hPwa4.cell 3; have hPwa44 : wa4.cell? ⟨w.heap.size, 4, none⟩ = some (.slice A nb cb) := hPwa4.cell 4; have hPwa45 : wa4.cell? ⟨w.heap.size, 5, none⟩ = some (.slice R nr cr) := hPwa4.cell 5; have hQwa40 : wa4.cell? ⟨(w.heap.size + 1), 0, none⟩ = some (.int .i64 15) := hQwa4.cell 0; have hQwa41 : wa4.cell? ⟨(w.heap.size + 1), 1, none⟩ = some (.int .i64 0) := hQwa4.cell 1; have hQwa42 : wa4.cell? ⟨(w.heap.size + 1), 2, none⟩ = some (.slice A2 0 cb2) := hQwa4.cell 2; have hQwa43 : wa4.cell? ⟨(w.heap.size + 1), 3, none⟩ = some (.slice R2 0 cr2) := hQwa4.cell 3; rw [← List.map_append] at oa4; have Ooa4 := Lib.hid oa4; clear hgr hlies)
  go_ret2
  exact ans_some (by rw [HN.out, if_neg (by have := B1.out; have := B2.out; omega)]; simp) oa4 (hb2w.trans (Bwa4.mono hb2w.size))
set_option maxRecDepth 100000 in
set_option maxHeartbeats 2000000 in
theorem ra_16a (fn addr count to : Int) (bits : List Bool) (regs : List Int) (A : Option Addr) (nb cb : Nat) (R : Option Addr) (nr cr : Nat) (rfn code : Int) (bits2 : List Bool) (regs2 : List Int) (A2 : Option Addr) (nb2 cb2 : Nat) (R2 : Option Addr) (nr2 cr2 : Nat) (w : World) (hA : SlB w w.heap.size A nb cb bits) (hR : SlI w w.heap.size .u16 R nr cr regs) (hA2 : SlB w w.heap.size A2 nb2 cb2 bits2) (hR2 : SlI w w.heap.size .u16 R2 nr2 cr2 regs2) (o : Option (List Int)) (hm : mayP ⟨fn, addr, count, to, bits, regs⟩ = true) (hq : rfn = fn) (hfn : fn = 16) (hz : code = 0) (hy : Reg16 regs) (hy2 : Reg16 regs2) (ha : 0 ≤ addr ∧ addr < 65536) (k1 : nb ≤ 1968) (k2 : nr ≤ 123) (hcnt : 0 ≤ count ∧ count ≤ 125) (hn : o = if (nb2 : Int) ≠ 0 ∨ (nr2 : Int) ≠ 0 then none else some (16 :: twoI addr ++ twoI ((nb : Int) + nr))) (b1 : (nb2 : Int) ≠ 0) : Calls Tryd.prog 14 #[.agg #[.int .i64 fn, .int .i64 addr, .int .i64 count, .int .i64 to, .slice A nb cb, .slice R nr cr], .agg #[.int .i64 rfn, .int .i64 code, .slice A2 nb2 cb2, .slice R2 nr2 cr2]] w (AnsPost w o) := by
  subst hq hfn hz
  obtain ⟨w1, hw1⟩ : ∃ w1, (w.alloc (.cells #[.int .i64 16, .int .i64 addr, .int .i64 count, .int .i64 to, .slice A nb cb, .slice R nr cr] 25)).alloc (.cells #[.int .i64 16, .int .i64 0, .slice A2 nb2 cb2, .slice R2 nr2 cr2] 34) = w1 := ⟨_, rfl⟩
  have hb1 : Below w.heap.size w w1 := by rw [← hw1]; exact ((Below.refl _ w).alloc (Nat.le_refl _) _).alloc (by simp) _
  have hz1 : w1.heap.size = w.heap.size + 2 := by rw [← hw1]; simp
  have hP1 : Held w1 w.heap.size 25 #[.int .i64 16, .int .i64 addr, .int .i64 count, .int .i64 to, .slice A nb cb, .slice R nr cr] := by rw [← hw1]; exact (Held.new w _ _).alloc _
  have hQ1 : Held w1 (w.heap.size + 1) 34 #[.int .i64 16, .int .i64 0, .slice A2 nb2 cb2, .slice R2 nr2 cr2] := by rw [← hw1]; have := Held.new (w.alloc (.cells #[.int .i64 16, .int .i64 addr, .int .i64 count, .int .i64 to, .slice A nb cb, .slice R nr cr] 25)) 34 #[.int .i64 16, .int .i64 0, .slice A2 nb2 cb2, .slice R2 nr2 cr2]; rw [World.size_alloc] at this; exact this
  have hu := Tryd.underlying25
  have hsz : (Tryd.prog.info? 25).map (·.size) = some 6 := by kernel_rfl
  have hc := may_any (.agg #[.int .i64 16, .int .i64 addr, .int .i64 count, .int .i64 to, .slice A nb cb, .slice R nr cr]) ⟨16, addr, count, to, bits, regs⟩ w1 ⟨A, nb, cb, R, nr, cr, rfl, hA.up hb1, hR.up hb1⟩
  rw [hm] at hc
  have HC := Lib.hid hc
  clear hc
  have HN := Lib.hid hn
  have HA := Lib.hid (fun (X : World) (h : Below w.heap.size w X) => hA.up h)
  have HR := Lib.hid (fun (X : World) (h : Below w.heap.size w X) => hR.up h)
  have HA2 := Lib.hid (fun (X : World) (h : Below w.heap.size w X) => hA2.up h)
  have HR2 := Lib.hid (fun (X : World) (h : Below w.heap.size w X) => hR2.up h)
  have HM := Lib.hid hm
  have hl2 := Lib.hid hA2.1
  have hlr2 := Lib.hid hR2.1
  obtain ⟨i0, hi, hz0, hz1', hz2'⟩ := info_parts infoU8
  clear hA hR hA2 hR2 hm hn
  have t1 : (((nb2 : Nat) : Int) != 0) = true := by simpa using b1
  go_in
  go_wp2_with ((with_reducible refine at_loadT 25 2 ?_); refine wpList_load_rowG rfl 25 (.tmp 2) rfl w.heap.size rfl 25 _ _ hP1 hu rfl hsz ?_)
  refine HC.out.mono ?_
  rintro e w2 ⟨rfl, hb2⟩
  have hz2 := hb2.size
  have hP2 := hP1.below hb2 hP1.lt
  have hQ2 := hQ1.below hb2 hQ1.lt
  have hlt2 := hP2.lt
  have hlq2 := hQ2.lt
  have hb2w := hb1.trans (hb2.mono (by omega))
  have ka0 : w2.cell? ⟨w.heap.size, 0, none⟩ = some (.int .i64 16) := hP2.cell 0
  have ka1 : w2.cell? ⟨w.heap.size, 1, none⟩ = some (.int .i64 addr) := hP2.cell 1
  have ka2 : w2.cell? ⟨w.heap.size, 2, none⟩ = some (.int .i64 count) := hP2.cell 2
  have ka3 : w2.cell? ⟨w.heap.size, 3, none⟩ = some (.int .i64 to) := hP2.cell 3
  have ka4 : w2.cell? ⟨w.heap.size, 4, none⟩ = some (.slice A nb cb) := hP2.cell 4
  have ka5 : w2.cell? ⟨w.heap.size, 5, none⟩ = some (.slice R nr cr) := hP2.cell 5
  have kr0 : w2.cell? ⟨w.heap.size + 1, 0, none⟩ = some (.int .i64 16) := hQ2.cell 0
  have kr1 : w2.cell? ⟨w.heap.size + 1, 1, none⟩ = some (.int .i64 0) := hQ2.cell 1
  have kr2 : w2.cell? ⟨w.heap.size + 1, 2, none⟩ = some (.slice A2 nb2 cb2) := hQ2.cell 2
  have kr3 : w2.cell? ⟨w.heap.size + 1, 3, none⟩ = some (.slice R2 nr2 cr2) := hQ2.cell 3
  go_wp2_with fail
  go_ret2
  exact ans_none (by rw [HN.out, if_pos (by left; exact b1)]) hb2w
set_option maxRecDepth 100000 in
set_option maxHeartbeats 2000000 in
theorem ra_16b (fn addr count to : Int) (bits : List Bool) (regs : List Int) (A : Option Addr) (nb cb : Nat) (R : Option Addr) (nr cr : Nat) (rfn code : Int) (bits2 : List Bool) (regs2 : List Int) (A2 : Option Addr) (nb2 cb2 : Nat) (R2 : Option Addr) (nr2 cr2 : Nat) (w : World) (hA : SlB w w.heap.size A nb cb bits) (hR : SlI w w.heap.size .u16 R nr cr regs) (hA2 : SlB w w.heap.size A2 nb2 cb2 bits2) (hR2 : SlI w w.heap.size .u16 R2 nr2 cr2 regs2) (o : Option (List Int)) (hm : mayP ⟨fn, addr, count, to, bits, regs⟩ = true) (hq : rfn = fn) (hfn : fn = 16) (hz : code = 0) (hy : Reg16 regs) (hy2 : Reg16 regs2) (ha : 0 ≤ addr ∧ addr < 65536) (k1 : nb ≤ 1968) (k2 : nr ≤ 123) (hcnt : 0 ≤ count ∧ count ≤ 125) (hn : o = if (nb2 : Int) ≠ 0 ∨ (nr2 : Int) ≠ 0 then none else some (16 :: twoI addr ++ twoI ((nb : Int) + nr))) (b1 : (nb2 : Int) = 0) (b2 : (nr2 : Int) ≠ 0) : Calls Tryd.prog 14 #[.agg #[.int .i64 fn, .int .i64 addr, .int .i64 count, .int .i64 to, .slice A nb cb, .slice R nr cr], .agg #[.int .i64 rfn, .int .i64 code, .slice A2 nb2 cb2, .slice R2 nr2 cr2]] w (AnsPost w o) := by
  subst hq hfn hz
  obtain rfl : nb2 = 0 := by omega
  obtain ⟨w1, hw1⟩ : ∃ w1, (w.alloc (.cells #[.int .i64 16, .int .i64 addr, .int .i64 count, .int .i64 to, .slice A nb cb, .slice R nr cr] 25)).alloc (.cells #[.int .i64 16, .int .i64 0, .slice A2 0 cb2, .slice R2 nr2 cr2] 34) = w1 := ⟨_, rfl⟩
  have hb1 : Below w.heap.size w w1 := by rw [← hw1]; exact ((Below.refl _ w).alloc (Nat.le_refl _) _).alloc (by simp) _
  have hz1 : w1.heap.size = w.heap.size + 2 := by rw [← hw1]; simp
  have hP1 : Held w1 w.heap.size 25 #[.int .i64 16, .int .i64 addr, .int .i64 count, .int .i64 to, .slice A nb cb, .slice R nr cr] := by rw [← hw1]; exact (Held.new w _ _).alloc _
  have hQ1 : Held w1 (w.heap.size + 1) 34 #[.int .i64 16, .int .i64 0, .slice A2 0 cb2, .slice R2 nr2 cr2] := by rw [← hw1]; have := Held.new (w.alloc (.cells #[.int .i64 16, .int .i64 addr, .int .i64 count, .int .i64 to, .slice A nb cb, .slice R nr cr] 25)) 34 #[.int .i64 16, .int .i64 0, .slice A2 0 cb2, .slice R2 nr2 cr2]; rw [World.size_alloc] at this; exact this
  have hu := Tryd.underlying25
  have hsz : (Tryd.prog.info? 25).map (·.size) = some 6 := by kernel_rfl
  have hc := may_any (.agg #[.int .i64 16, .int .i64 addr, .int .i64 count, .int .i64 to, .slice A nb cb, .slice R nr cr]) ⟨16, addr, count, to, bits, regs⟩ w1 ⟨A, nb, cb, R, nr, cr, rfl, hA.up hb1, hR.up hb1⟩
  rw [hm] at hc
  have HC := Lib.hid hc
  clear hc
  have HN := Lib.hid hn
  have HA := Lib.hid (fun (X : World) (h : Below w.heap.size w X) => hA.up h)
  have HR := Lib.hid (fun (X : World) (h : Below w.heap.size w X) => hR.up h)
  have HA2 := Lib.hid (fun (X : World) (h : Below w.heap.size w X) => hA2.up h)
  have HR2 := Lib.hid (fun (X : World) (h : Below w.heap.size w X) => hR2.up h)
  have HM := Lib.hid hm
  have hl2 := Lib.hid hA2.1
  have hlr2 := Lib.hid hR2.1
  obtain ⟨i0, hi, hz0, hz1', hz2'⟩ := info_parts infoU8
  clear hA hR hA2 hR2 hm hn
  have B1 := Lib.hid b1
  clear b1
  have t2 : (((nr2 : Nat) : Int) != 0) = true := by simpa using b2
  go_in
  go_wp2_with ((with_reducible refine at_loadT 25 2 ?_); refine wpList_load_rowG rfl 25 (.tmp 2) rfl w.heap.size rfl 25 _ _ hP1 hu rfl hsz ?_)
  refine HC.out.mono ?_
  rintro e w2 ⟨rfl, hb2⟩
  have hz2 := hb2.size
  have hP2 := hP1.below hb2 hP1.lt
  have hQ2 := hQ1.below hb2 hQ1.lt
  have hlt2 := hP2.lt
  have hlq2 := hQ2.lt
  have hb2w := hb1.trans (hb2.mono (by omega))
  have ka0 : w2.cell? ⟨w.heap.size, 0, none⟩ = some (.int .i64 16) := hP2.cell 0
  have ka1 : w2.cell? ⟨w.heap.size, 1, none⟩ = some (.int .i64 addr) := hP2.cell 1
  have ka2 : w2.cell? ⟨w.heap.size, 2, none⟩ = some (.int .i64 count) := hP2.cell 2
  have ka3 : w2.cell? ⟨w.heap.size, 3, none⟩ = some (.int .i64 to) := hP2.cell 3
  have ka4 : w2.cell? ⟨w.heap.size, 4, none⟩ = some (.slice A nb cb) := hP2.cell 4
  have ka5 : w2.cell? ⟨w.heap.size, 5, none⟩ = some (.slice R nr cr) := hP2.cell 5
  have kr0 : w2.cell? ⟨w.heap.size + 1, 0, none⟩ = some (.int .i64 16) := hQ2.cell 0
  have kr1 : w2.cell? ⟨w.heap.size + 1, 1, none⟩ = some (.int .i64 0) := hQ2.cell 1
  have kr2 : w2.cell? ⟨w.heap.size + 1, 2, none⟩ = some (.slice A2 0 cb2) := hQ2.cell 2
  have kr3 : w2.cell? ⟨w.heap.size + 1, 3, none⟩ = some (.slice R2 nr2 cr2) := hQ2.cell 3
  go_wp2_with fail
  go_ret2
  exact ans_none (by rw [HN.out, if_pos (by right; exact b2)]) hb2w
set_option maxRecDepth 100000 in
set_option maxHeartbeats 2000000 in
theorem ra_16c (fn addr count to : Int) (bits : List Bool) (regs : List Int) (A : Option Addr) (nb cb : Nat) (R : Option Addr) (nr cr : Nat) (rfn code : Int) (bits2 : List Bool) (regs2 : List Int) (A2 : Option Addr) (nb2 cb2 : Nat) (R2 : Option Addr) (nr2 cr2 : Nat) (w : World) (hA : SlB w w.heap.size A nb cb bits) (hR : SlI w w.heap.size .u16 R nr cr regs) (hA2 : SlB w w.heap.size A2 nb2 cb2 bits2) (hR2 : SlI w w.heap.size .u16 R2 nr2 cr2 regs2) (o : Option (List Int)) (hm : mayP ⟨fn, addr, count, to, bits, regs⟩ = true) (hq : rfn = fn) (hfn : fn = 16) (hz : code = 0) (hy : Reg16 regs) (hy2 : Reg16 regs2) (ha : 0 ≤ addr ∧ addr < 65536) (k1 : nb ≤ 1968) (k2 : nr ≤ 123) (hcnt : 0 ≤ count ∧ count ≤ 125) (hn : o = if (nb2 : Int) ≠ 0 ∨ (nr2 : Int) ≠ 0 then none else some (16 :: twoI addr ++ twoI ((nb : Int) + nr))) (b1 : (nb2 : Int) = 0) (b2 : (nr2 : Int) = 0) : Calls Tryd.prog 14 #[.agg #[.int .i64 fn, .int .i64 addr, .int .i64 count, .int .i64 to, .slice A nb cb, .slice R nr cr], .agg #[.int .i64 rfn, .int .i64 code, .slice A2 nb2 cb2, .slice R2 nr2 cr2]] w (AnsPost w o) := by
  subst hq hfn hz
  obtain rfl : nb2 = 0 := by omega
  obtain rfl : nr2 = 0 := by omega
  obtain ⟨w1, hw1⟩ : ∃ w1, (w.alloc (.cells #[.int .i64 16, .int .i64 addr, .int .i64 count, .int .i64 to, .slice A nb cb, .slice R nr cr] 25)).alloc (.cells #[.int .i64 16, .int .i64 0, .slice A2 0 cb2, .slice R2 0 cr2] 34) = w1 := ⟨_, rfl⟩
  have hb1 : Below w.heap.size w w1 := by rw [← hw1]; exact ((Below.refl _ w).alloc (Nat.le_refl _) _).alloc (by simp) _
  have hz1 : w1.heap.size = w.heap.size + 2 := by rw [← hw1]; simp
  have hP1 : Held w1 w.heap.size 25 #[.int .i64 16, .int .i64 addr, .int .i64 count, .int .i64 to, .slice A nb cb, .slice R nr cr] := by rw [← hw1]; exact (Held.new w _ _).alloc _
  have hQ1 : Held w1 (w.heap.size + 1) 34 #[.int .i64 16, .int .i64 0, .slice A2 0 cb2, .slice R2 0 cr2] := by rw [← hw1]; have := Held.new (w.alloc (.cells #[.int .i64 16, .int .i64 addr, .int .i64 count, .int .i64 to, .slice A nb cb, .slice R nr cr] 25)) 34 #[.int .i64 16, .int .i64 0, .slice A2 0 cb2, .slice R2 0 cr2]; rw [World.size_alloc] at this; exact this
  have hu := Tryd.underlying25
  have hsz : (Tryd.prog.info? 25).map (·.size) = some 6 := by kernel_rfl
  have hc := may_any (.agg #[.int .i64 16, .int .i64 addr, .int .i64 count, .int .i64 to, .slice A nb cb, .slice R nr cr]) ⟨16, addr, count, to, bits, regs⟩ w1 ⟨A, nb, cb, R, nr, cr, rfl, hA.up hb1, hR.up hb1⟩
  rw [hm] at hc
  have HC := Lib.hid hc
  clear hc
  have HN := Lib.hid hn
  have HA := Lib.hid (fun (X : World) (h : Below w.heap.size w X) => hA.up h)
  have HR := Lib.hid (fun (X : World) (h : Below w.heap.size w X) => hR.up h)
  have HA2 := Lib.hid (fun (X : World) (h : Below w.heap.size w X) => hA2.up h)
  have HR2 := Lib.hid (fun (X : World) (h : Below w.heap.size w X) => hR2.up h)
  have HM := Lib.hid hm
  have hl2 := Lib.hid hA2.1
  have hlr2 := Lib.hid hR2.1
  obtain ⟨i0, hi, hz0, hz1', hz2'⟩ := info_parts infoU8
  clear hA hR hA2 hR2 hm hn
  have B1 := Lib.hid b1
  have B2 := Lib.hid b2
  clear b1 b2
  go_in
  go_wp2_with ((with_reducible refine at_loadT 25 2 ?_); refine wpList_load_rowG rfl 25 (.tmp 2) rfl w.heap.size rfl 25 _ _ hP1 hu rfl hsz ?_)
  refine HC.out.mono ?_
  rintro e w2 ⟨rfl, hb2⟩
  have hz2 := hb2.size
  have hP2 := hP1.below hb2 hP1.lt
  have hQ2 := hQ1.below hb2 hQ1.lt
  have hlt2 := hP2.lt
  have hlq2 := hQ2.lt
  have hb2w := hb1.trans (hb2.mono (by omega))
  have ka0 : w2.cell? ⟨w.heap.size, 0, none⟩ = some (.int .i64 16) := hP2.cell 0
  have ka1 : w2.cell? ⟨w.heap.size, 1, none⟩ = some (.int .i64 addr) := hP2.cell 1
  have ka2 : w2.cell? ⟨w.heap.size, 2, none⟩ = some (.int .i64 count) := hP2.cell 2
  have ka3 : w2.cell? ⟨w.heap.size, 3, none⟩ = some (.int .i64 to) := hP2.cell 3
  have ka4 : w2.cell? ⟨w.heap.size, 4, none⟩ = some (.slice A nb cb) := hP2.cell 4
  have ka5 : w2.cell? ⟨w.heap.size, 5, none⟩ = some (.slice R nr cr) := hP2.cell 5
  have kr0 : w2.cell? ⟨w.heap.size + 1, 0, none⟩ = some (.int .i64 16) := hQ2.cell 0
  have kr1 : w2.cell? ⟨w.heap.size + 1, 1, none⟩ = some (.int .i64 0) := hQ2.cell 1
  have kr2 : w2.cell? ⟨w.heap.size + 1, 2, none⟩ = some (.slice A2 0 cb2) := hQ2.cell 2
  have kr3 : w2.cell? ⟨w.heap.size + 1, 3, none⟩ = some (.slice R2 0 cr2) := hQ2.cell 3
  obtain ⟨w3, hw3⟩ : ∃ w3, w2.alloc (.cells #[.int .u8 16] 5) = w3 := ⟨_, rfl⟩
  have hb3 : Below w2.heap.size w2 w3 := by rw [← hw3]; exact (Below.refl _ w2).alloc (Nat.le_refl _) _
  have ho3 : w3.ownsRow w2.heap.size 5 1 (.slice (some ⟨w2.heap.size, 0, none⟩) 1 1) 1 ([(16 : Int)].map (Value.int .u8)) := by rw [← hw3]; exact lit_own _ _ _ (Nat.le_refl _)
  have hb3w := hb2w.trans (hb3.mono hb2w.size)
  have Bw3 : Below w2.heap.size w2 w3 := hb3
  have Zw3 := Bw3.size
  have hP0 := hP2
  have hQ0 := hQ2
  have hPw3 := hP2.below Bw3 hP2.lt
  have hQw3 := hQ2.below Bw3 hQ2.lt
  have lhPw3 := hPw3.lt
  have lhQw3 := hQw3.lt
  have hPw30 : w3.cell? ⟨w.heap.size, 0, none⟩ = some (.int .i64 16) := hPw3.cell 0
  have hPw31 : w3.cell? ⟨w.heap.size, 1, none⟩ = some (.int .i64 addr) := hPw3.cell 1
  have hPw32 : w3.cell? ⟨w.heap.size, 2, none⟩ = some (.int .i64 count) := hPw3.cell 2
  have hPw33 : w3.cell? ⟨w.heap.size, 3, none⟩ = some (.int .i64 to) := hPw3.cell 3
  have hPw34 : w3.cell? ⟨w.heap.size, 4, none⟩ = some (.slice A nb cb) := hPw3.cell 4
  have hPw35 : w3.cell? ⟨w.heap.size, 5, none⟩ = some (.slice R nr cr) := hPw3.cell 5
  have hQw30 : w3.cell? ⟨(w.heap.size + 1), 0, none⟩ = some (.int .i64 16) := hQw3.cell 0
  have hQw31 : w3.cell? ⟨(w.heap.size + 1), 1, none⟩ = some (.int .i64 0) := hQw3.cell 1
  have hQw32 : w3.cell? ⟨(w.heap.size + 1), 2, none⟩ = some (.slice A2 0 cb2) := hQw3.cell 2
  have hQw33 : w3.cell? ⟨(w.heap.size + 1), 3, none⟩ = some (.slice R2 0 cr2) := hQw3.cell 3
  have HT1 := Lib.hid (two_any addr ha w3)
  go_wp2_with fail
  refine HT1.out.mono ?_
  rintro e wt1 ⟨rfl, hwt⟩
  have hbwt1 : Below w3.heap.size w3 wt1 := by rw [hwt]; exact (Below.refl _ w3).alloc (Nat.le_refl _) _
  have st1 : SlI wt1 wt1.heap.size .u8 (some ⟨w3.heap.size, 0, none⟩) 2 2 (twoI addr) := by rw [hwt]; exact two_sl addr w3
  have ot1 := own_up ho3 hbwt1
  clear hwt
  have hzwt1 : w3.heap.size ≤ wt1.heap.size := hbwt1.size
  have Bwt1 : Below w2.heap.size w2 wt1 := Bw3.trans (hbwt1.mono Bw3.size)
  have Zwt1 := Bwt1.size
  have hPwt1 := hPw3.below hbwt1 hPw3.lt
  have lhPwt1 := hPwt1.lt
  have hQwt1 := hQw3.below hbwt1 hQw3.lt
  have lhQwt1 := hQwt1.lt
  have hPwt10 : wt1.cell? ⟨w.heap.size, 0, none⟩ = some (.int .i64 16) := hPwt1.cell 0
  have hPwt11 : wt1.cell? ⟨w.heap.size, 1, none⟩ = some (.int .i64 addr) := hPwt1.cell 1
  have hPwt12 : wt1.cell? ⟨w.heap.size, 2, none⟩ = some (.int .i64 count) := hPwt1.cell 2
  have hPwt13 : wt1.cell? ⟨w.heap.size, 3, none⟩ = some (.int .i64 to) := hPwt1.cell 3
  have hPwt14 : wt1.cell? ⟨w.heap.size, 4, none⟩ = some (.slice A nb cb) := hPwt1.cell 4
  have hPwt15 : wt1.cell? ⟨w.heap.size, 5, none⟩ = some (.slice R nr cr) := hPwt1.cell 5
  have hQwt10 : wt1.cell? ⟨(w.heap.size + 1), 0, none⟩ = some (.int .i64 16) := hQwt1.cell 0
  have hQwt11 : wt1.cell? ⟨(w.heap.size + 1), 1, none⟩ = some (.int .i64 0) := hQwt1.cell 1
  have hQwt12 : wt1.cell? ⟨(w.heap.size + 1), 2, none⟩ = some (.slice A2 0 cb2) := hQwt1.cell 2
  have hQwt13 : wt1.cell? ⟨(w.heap.size + 1), 3, none⟩ = some (.slice R2 0 cr2) := hQwt1.cell 3
  go_wp2_with ((with_reducible refine at_append ?_); refine wpList_append_sl wt1 rfl _ _ 28 rfl w2.heap.size 5 i0 (.int .u8 0) 1 Tryd.underlying28 hi hz0 hz1' hz2' rfl (.slice (some ⟨w2.heap.size, 0, none⟩) 1 1) 1 _ rfl ot1 wt1.heap.size .u8 (some ⟨w3.heap.size, 0, none⟩) 2 2 (twoI addr) rfl st1 (by unfold maxLen; omega) (by omega) Zwt1 ?_; intro va2 wa2 oa2 hgr hlies; have Bwa2 : Below w2.heap.size w2 wa2 := Bwt1.grown hgr Zwt1 (fun j hj => (ot1.lt j hj).1); have Zwa2 := Bwa2.size; have hPwa2 := hP0.below Bwa2 hP0.lt; have lhPwa2 := hPwa2.lt; have hQwa2 := hQ0.below Bwa2 hQ0.lt; have lhQwa2 := hQwa2.lt; have hPwa20 : wa2.cell? ⟨w.heap.size, 0, none⟩ = some (.int .i64 16) := hPwa2.cell 0; have hPwa21 : wa2.cell? ⟨w.heap.size, 1, none⟩ = some (.int .i64 addr) := hPwa2.cell 1; have hPwa22 : wa2.cell? ⟨w.heap.size, 2, none⟩ = some (.int .i64 count) := hPwa2.cell 2; have hPwa23 : wa2.cell? ⟨w.heap.size, 3, none⟩ = some (.int .i64 to) := hPwa2.cell 3; have hPwa24 : wa2.cell? ⟨w.heap.size, 4, none⟩ = some (.slice A nb cb) := hPwa2.cell 4; have hPwa25 : wa2.cell? ⟨w.heap.size, 5, none⟩ = some (.slice R nr cr) := hPwa2.cell 5; have hQwa20 : wa2.cell? ⟨(w.heap.size + 1), 0, none⟩ = some (.int .i64 16) := hQwa2.cell 0; have hQwa21 : wa2.cell? ⟨(w.heap.size + 1), 1, none⟩ = some (.int .i64 0) := hQwa2.cell 1; have hQwa22 : wa2.cell? ⟨(w.heap.size + 1), 2, none⟩ = some (.slice A2 0 cb2) := hQwa2.cell 2; have hQwa23 : wa2.cell? ⟨(w.heap.size + 1), 3, none⟩ = some (.slice R2 0 cr2) := hQwa2.cell 3; rw [← List.map_append] at oa2; have Ooa2 := Lib.hid oa2; clear hgr hlies)
  have HT3 := Lib.hid (two_any ((nb : Int) + nr) (by omega) wa2)
  refine HT3.out.mono ?_
  rintro e wt3 ⟨rfl, hwt⟩
  have hbwt3 : Below wa2.heap.size wa2 wt3 := by rw [hwt]; exact (Below.refl _ wa2).alloc (Nat.le_refl _) _
  have st3 : SlI wt3 wt3.heap.size .u8 (some ⟨wa2.heap.size, 0, none⟩) 2 2 (twoI ((nb : Int) + nr)) := by rw [hwt]; exact two_sl ((nb : Int) + nr) wa2
  have ot3 := own_up oa2 hbwt3
  clear hwt
  have hzwt3 : wa2.heap.size ≤ wt3.heap.size := hbwt3.size
  have Bwt3 : Below w2.heap.size w2 wt3 := Bwa2.trans (hbwt3.mono Bwa2.size)
  have Zwt3 := Bwt3.size
  have hPwt3 := hPwa2.below hbwt3 hPwa2.lt
  have lhPwt3 := hPwt3.lt
  have hQwt3 := hQwa2.below hbwt3 hQwa2.lt
  have lhQwt3 := hQwt3.lt
  have hPwt30 : wt3.cell? ⟨w.heap.size, 0, none⟩ = some (.int .i64 16) := hPwt3.cell 0
  have hPwt31 : wt3.cell? ⟨w.heap.size, 1, none⟩ = some (.int .i64 addr) := hPwt3.cell 1
  have hPwt32 : wt3.cell? ⟨w.heap.size, 2, none⟩ = some (.int .i64 count) := hPwt3.cell 2
  have hPwt33 : wt3.cell? ⟨w.heap.size, 3, none⟩ = some (.int .i64 to) := hPwt3.cell 3
  have hPwt34 : wt3.cell? ⟨w.heap.size, 4, none⟩ = some (.slice A nb cb) := hPwt3.cell 4
  have hPwt35 : wt3.cell? ⟨w.heap.size, 5, none⟩ = some (.slice R nr cr) := hPwt3.cell 5
  have hQwt30 : wt3.cell? ⟨(w.heap.size + 1), 0, none⟩ = some (.int .i64 16) := hQwt3.cell 0
  have hQwt31 : wt3.cell? ⟨(w.heap.size + 1), 1, none⟩ = some (.int .i64 0) := hQwt3.cell 1
  have hQwt32 : wt3.cell? ⟨(w.heap.size + 1), 2, none⟩ = some (.slice A2 0 cb2) := hQwt3.cell 2
  have hQwt33 : wt3.cell? ⟨(w.heap.size + 1), 3, none⟩ = some (.slice R2 0 cr2) := hQwt3.cell 3
  go_wp2_with ((with_reducible refine at_append ?_); refine wpList_append_sl wt3 rfl _ _ 28 rfl w2.heap.size 5 i0 (.int .u8 0) 1 Tryd.underlying28 hi hz0 hz1' hz2' rfl va2 (1 + 2) _ rfl ot3 wt3.heap.size .u8 (some ⟨wa2.heap.size, 0, none⟩) 2 2 (twoI ((nb : Int) + nr)) rfl st3 (by unfold maxLen; omega) (by omega) Zwt3 ?_; intro va4 wa4 oa4 hgr hlies; have Bwa4 : Below w2.heap.size w2 wa4 := Bwt3.grown hgr Zwt3 (fun j hj => (ot3.lt j hj).1); have Zwa4 := Bwa4.size; have hPwa4 := hP0.below Bwa4 hP0.lt; have lhPwa4 := hPwa4.lt; have hQwa4 := hQ0.below Bwa4 hQ0.lt; have lhQwa4 := hQwa4.lt; have hPwa40 : wa4.cell? ⟨w.heap.size, 0, none⟩ = some (.int .i64 16) := hPwa4.cell 0; have hPwa41 : wa4.cell? ⟨w.heap.size, 1, none⟩ = some (.int .i64 addr) := hPwa4.cell 1; have hPwa42 : wa4.cell? ⟨w.heap.size, 2, none⟩ = some (.int .i64 count) := hPwa4.cell 2; have hPwa43 : wa4.cell? ⟨w.heap.size, 3, none⟩ = some (.int .i64 to) := hPwa4.cell 3; have hPwa44 : wa4.cell? ⟨w.heap.size, 4, none⟩ = some (.slice A nb cb) := hPwa4.cell 4; have hPwa45 : wa4.cell? ⟨w.heap.size, 5, none⟩ = some (.slice R nr cr) := hPwa4.cell 5; have hQwa40 : wa4.cell? ⟨(w.heap.size + 1), 0, none⟩ = some (.int .i64 16) := hQwa4.cell 0; have hQwa41 : wa4.cell? ⟨(w.heap.size + 1), 1, none⟩ = some (.int .i64 0) := hQwa4.cell 1; have hQwa42 : wa4.cell? ⟨(w.heap.size + 1), 2, none⟩ = some (.slice A2 0 cb2) := hQwa4.cell 2; have hQwa43 : wa4.cell? ⟨(w.heap.size + 1), 3, none⟩ = some (.slice R2 0 cr2) := hQwa4.cell 3; rw [← List.map_append] at oa4; have Ooa4 := Lib.hid oa4; clear hgr hlies)
  go_ret2
  exact ans_some (by rw [HN.out, if_neg (by have := B1.out; have := B2.out; omega)]; simp) oa4 (hb2w.trans (Bwa4.mono hb2w.size))
end Go.Proofs.YtflbiichdjhaeaaDoor
namespace Go.Proofs.YtflbiichdjhaeaaDoor
open Go.RowKit
set_option linter.unusedVariables false

/-- kilowattref19.Answer. -/
theorem answer_ref (u v : Value) (a : AskP) (r : RepP) (w : World) (hu : AskAt w u a) (hv : RepAt w v r) (hy : Reg16 a.regs) (hy2 : Reg16 r.regs) :
    Calls Tryd.prog 14 #[u, v] w (AnsPost w (answerP a r)) := by
  obtain ⟨A, nb, cb, R, nr, cr, rfl, hA, hR⟩ := hu
  obtain ⟨A2, nb2, cb2, R2, nr2, cr2, rfl, hA2, hR2⟩ := hv
  obtain ⟨fn, addr, count, to, bits, regs⟩ := a
  obtain ⟨rfn, code, bits2, regs2⟩ := r
  obtain rfl : bits.length = nb := hA.1
  obtain rfl : regs.length = nr := hR.1
  obtain rfl : bits2.length = nb2 := hA2.1
  obtain rfl : regs2.length = nr2 := hR2.1
  dsimp only at hA hR hA2 hR2 hy hy2 ⊢
  cases hm : mayP ⟨fn, addr, count, to, bits, regs⟩ with
  | false => exact ra_may fn addr count to bits regs A _ cb R _ cr rfn code bits2 regs2 A2 _ cb2 R2 _ cr2 w hA hR hA2 hR2 _ hm (by unfold answerP; rw [if_pos (.inl hm)])
  | true =>
    by_cases hq : rfn = fn
    · obtain ⟨⟨ha, ht⟩, hc⟩ := may_cases _ hm
      have h23 := (read_bytes _ hm).2.2.2.2
      simp only at hc ha ht h23
      by_cases hz : code = 0
      · subst hz
        subst hq
        rcases hc with ⟨e, hn, _⟩ | ⟨e, hn, _⟩ | ⟨e, hn, ⟨b, hb⟩, hb2, _⟩ | ⟨e, hn, hb, ⟨x, hr⟩, _⟩ | ⟨e, hn, hb, hb2, _⟩ | ⟨e, hn, hb, hb2, _⟩ | ⟨e, hn, hb, hb2⟩
        · rename_i hh
          rcases e with e | e
          · skip
            subst e
            by_cases b1 : (bits2.length : Int) = count
            · by_cases b2 : (regs2.length : Int) = 0
              · exact ra_1c 1 addr count to bits regs A _ cb R _ cr 1 0 bits2 regs2 A2 _ cb2 R2 _ cr2 w hA hR hA2 hR2 _ hm rfl rfl rfl hy hy2 ha (by rw [hh.1]; simp) (by rw [hh.2.1]; simp) (by omega) (ansP_1 addr count to bits regs bits2 regs2 hm) b1 b2
              · exact ra_1b 1 addr count to bits regs A _ cb R _ cr 1 0 bits2 regs2 A2 _ cb2 R2 _ cr2 w hA hR hA2 hR2 _ hm rfl rfl rfl hy hy2 ha (by rw [hh.1]; simp) (by rw [hh.2.1]; simp) (by omega) (ansP_1 addr count to bits regs bits2 regs2 hm) b1 b2
            · exact ra_1a 1 addr count to bits regs A _ cb R _ cr 1 0 bits2 regs2 A2 _ cb2 R2 _ cr2 w hA hR hA2 hR2 _ hm rfl rfl rfl hy hy2 ha (by rw [hh.1]; simp) (by rw [hh.2.1]; simp) (by omega) (ansP_1 addr count to bits regs bits2 regs2 hm) b1
          · skip
            subst e
            by_cases b1 : (bits2.length : Int) = count
            · by_cases b2 : (regs2.length : Int) = 0
              · exact ra_2c 2 addr count to bits regs A _ cb R _ cr 2 0 bits2 regs2 A2 _ cb2 R2 _ cr2 w hA hR hA2 hR2 _ hm rfl rfl rfl hy hy2 ha (by rw [hh.1]; simp) (by rw [hh.2.1]; simp) (by omega) (ansP_2 addr count to bits regs bits2 regs2 hm) b1 b2
              · exact ra_2b 2 addr count to bits regs A _ cb R _ cr 2 0 bits2 regs2 A2 _ cb2 R2 _ cr2 w hA hR hA2 hR2 _ hm rfl rfl rfl hy hy2 ha (by rw [hh.1]; simp) (by rw [hh.2.1]; simp) (by omega) (ansP_2 addr count to bits regs bits2 regs2 hm) b1 b2
            · exact ra_2a 2 addr count to bits regs A _ cb R _ cr 2 0 bits2 regs2 A2 _ cb2 R2 _ cr2 w hA hR hA2 hR2 _ hm rfl rfl rfl hy hy2 ha (by rw [hh.1]; simp) (by rw [hh.2.1]; simp) (by omega) (ansP_2 addr count to bits regs bits2 regs2 hm) b1
        · rename_i hh
          rcases e with e | e
          · skip
            subst e
            by_cases b1 : (bits2.length : Int) = 0
            · by_cases b2 : (regs2.length : Int) = count
              · exact ra_3c 3 addr count to bits regs A _ cb R _ cr 3 0 bits2 regs2 A2 _ cb2 R2 _ cr2 w hA hR hA2 hR2 _ hm rfl rfl rfl hy hy2 ha (by rw [hh.1]; simp) (by rw [hh.2.1]; simp) (by omega) (ansP_3 addr count to bits regs bits2 regs2 hm) b1 b2
              · exact ra_3b 3 addr count to bits regs A _ cb R _ cr 3 0 bits2 regs2 A2 _ cb2 R2 _ cr2 w hA hR hA2 hR2 _ hm rfl rfl rfl hy hy2 ha (by rw [hh.1]; simp) (by rw [hh.2.1]; simp) (by omega) (ansP_3 addr count to bits regs bits2 regs2 hm) b1 b2
            · exact ra_3a 3 addr count to bits regs A _ cb R _ cr 3 0 bits2 regs2 A2 _ cb2 R2 _ cr2 w hA hR hA2 hR2 _ hm rfl rfl rfl hy hy2 ha (by rw [hh.1]; simp) (by rw [hh.2.1]; simp) (by omega) (ansP_3 addr count to bits regs bits2 regs2 hm) b1
          · skip
            subst e
            by_cases b1 : (bits2.length : Int) = 0
            · by_cases b2 : (regs2.length : Int) = count
              · exact ra_4c 4 addr count to bits regs A _ cb R _ cr 4 0 bits2 regs2 A2 _ cb2 R2 _ cr2 w hA hR hA2 hR2 _ hm rfl rfl rfl hy hy2 ha (by rw [hh.1]; simp) (by rw [hh.2.1]; simp) (by omega) (ansP_4 addr count to bits regs bits2 regs2 hm) b1 b2
              · exact ra_4b 4 addr count to bits regs A _ cb R _ cr 4 0 bits2 regs2 A2 _ cb2 R2 _ cr2 w hA hR hA2 hR2 _ hm rfl rfl rfl hy hy2 ha (by rw [hh.1]; simp) (by rw [hh.2.1]; simp) (by omega) (ansP_4 addr count to bits regs bits2 regs2 hm) b1 b2
            · exact ra_4a 4 addr count to bits regs A _ cb R _ cr 4 0 bits2 regs2 A2 _ cb2 R2 _ cr2 w hA hR hA2 hR2 _ hm rfl rfl rfl hy hy2 ha (by rw [hh.1]; simp) (by rw [hh.2.1]; simp) (by omega) (ansP_4 addr count to bits regs bits2 regs2 hm) b1
        · skip
          subst e
          by_cases b1 : (bits2.length : Int) = 0
          · by_cases b2 : (regs2.length : Int) = 0
            · exact ra_5c 5 addr count to bits regs A _ cb R _ cr 5 0 bits2 regs2 A2 _ cb2 R2 _ cr2 w hA hR hA2 hR2 _ hm rfl rfl rfl hy hy2 ha (by rw [hb]; simp) (by rw [hb2]; simp) (by omega) (ansP_5 addr count to bits regs bits2 regs2 hm) b1 b2
            · exact ra_5b 5 addr count to bits regs A _ cb R _ cr 5 0 bits2 regs2 A2 _ cb2 R2 _ cr2 w hA hR hA2 hR2 _ hm rfl rfl rfl hy hy2 ha (by rw [hb]; simp) (by rw [hb2]; simp) (by omega) (ansP_5 addr count to bits regs bits2 regs2 hm) b1 b2
          · exact ra_5a 5 addr count to bits regs A _ cb R _ cr 5 0 bits2 regs2 A2 _ cb2 R2 _ cr2 w hA hR hA2 hR2 _ hm rfl rfl rfl hy hy2 ha (by rw [hb]; simp) (by rw [hb2]; simp) (by omega) (ansP_5 addr count to bits regs bits2 regs2 hm) b1
        · skip
          subst e
          by_cases b1 : (bits2.length : Int) = 0
          · by_cases b2 : (regs2.length : Int) = 0
            · exact ra_6c 6 addr count to bits regs A _ cb R _ cr 6 0 bits2 regs2 A2 _ cb2 R2 _ cr2 w hA hR hA2 hR2 _ hm rfl rfl rfl hy hy2 ha (by rw [hb]; simp) (by rw [hr]; simp) (by omega) (ansP_6 addr count to bits regs bits2 regs2 hm) b1 b2
            · exact ra_6b 6 addr count to bits regs A _ cb R _ cr 6 0 bits2 regs2 A2 _ cb2 R2 _ cr2 w hA hR hA2 hR2 _ hm rfl rfl rfl hy hy2 ha (by rw [hb]; simp) (by rw [hr]; simp) (by omega) (ansP_6 addr count to bits regs bits2 regs2 hm) b1 b2
          · exact ra_6a 6 addr count to bits regs A _ cb R _ cr 6 0 bits2 regs2 A2 _ cb2 R2 _ cr2 w hA hR hA2 hR2 _ hm rfl rfl rfl hy hy2 ha (by rw [hb]; simp) (by rw [hr]; simp) (by omega) (ansP_6 addr count to bits regs bits2 regs2 hm) b1
        · skip
          subst e
          by_cases b1 : (bits2.length : Int) = 0
          · by_cases b2 : (regs2.length : Int) = 0
            · exact ra_15c 15 addr count to bits regs A _ cb R _ cr 15 0 bits2 regs2 A2 _ cb2 R2 _ cr2 w hA hR hA2 hR2 _ hm rfl rfl rfl hy hy2 ha (by omega) (by rw [hb2]; simp) (by omega) (ansP_15 addr count to bits regs bits2 regs2 hm) b1 b2
            · exact ra_15b 15 addr count to bits regs A _ cb R _ cr 15 0 bits2 regs2 A2 _ cb2 R2 _ cr2 w hA hR hA2 hR2 _ hm rfl rfl rfl hy hy2 ha (by omega) (by rw [hb2]; simp) (by omega) (ansP_15 addr count to bits regs bits2 regs2 hm) b1 b2
          · exact ra_15a 15 addr count to bits regs A _ cb R _ cr 15 0 bits2 regs2 A2 _ cb2 R2 _ cr2 w hA hR hA2 hR2 _ hm rfl rfl rfl hy hy2 ha (by omega) (by rw [hb2]; simp) (by omega) (ansP_15 addr count to bits regs bits2 regs2 hm) b1
        · skip
          subst e
          by_cases b1 : (bits2.length : Int) = 0
          · by_cases b2 : (regs2.length : Int) = 0
            · exact ra_16c 16 addr count to bits regs A _ cb R _ cr 16 0 bits2 regs2 A2 _ cb2 R2 _ cr2 w hA hR hA2 hR2 _ hm rfl rfl rfl hy hy2 ha (by rw [hb]; simp) (by omega) (by omega) (ansP_16 addr count to bits regs bits2 regs2 hm) b1 b2
            · exact ra_16b 16 addr count to bits regs A _ cb R _ cr 16 0 bits2 regs2 A2 _ cb2 R2 _ cr2 w hA hR hA2 hR2 _ hm rfl rfl rfl hy hy2 ha (by rw [hb]; simp) (by omega) (by omega) (ansP_16 addr count to bits regs bits2 regs2 hm) b1 b2
          · exact ra_16a 16 addr count to bits regs A _ cb R _ cr 16 0 bits2 regs2 A2 _ cb2 R2 _ cr2 w hA hR hA2 hR2 _ hm rfl rfl rfl hy hy2 ha (by rw [hb]; simp) (by omega) (by omega) (ansP_16 addr count to bits regs bits2 regs2 hm) b1
        · skip
          subst e
          by_cases b1 : (bits2.length : Int) = 0
          · by_cases b2 : (regs2.length : Int) = count
            · exact ra_23c 23 addr count to bits regs A _ cb R _ cr 23 0 bits2 regs2 A2 _ cb2 R2 _ cr2 w hA hR hA2 hR2 _ hm rfl rfl rfl hy hy2 ha (by rw [hb]; simp) (by omega) (by omega) (ansP_23 addr count to bits regs bits2 regs2 hm) b1 b2
            · exact ra_23b 23 addr count to bits regs A _ cb R _ cr 23 0 bits2 regs2 A2 _ cb2 R2 _ cr2 w hA hR hA2 hR2 _ hm rfl rfl rfl hy hy2 ha (by rw [hb]; simp) (by omega) (by omega) (ansP_23 addr count to bits regs bits2 regs2 hm) b1 b2
          · exact ra_23a 23 addr count to bits regs A _ cb R _ cr 23 0 bits2 regs2 A2 _ cb2 R2 _ cr2 w hA hR hA2 hR2 _ hm rfl rfl rfl hy hy2 ha (by rw [hb]; simp) (by omega) (by omega) (ansP_23 addr count to bits regs bits2 regs2 hm) b1
      · have hx : answerP ⟨fn, addr, count, to, bits, regs⟩ ⟨rfn, code, bits2, regs2⟩ = if code < 1 ∨ 11 < code ∨ 0 < bits2.length + regs2.length then none else some [fn + 128, code] := by
          unfold answerP
          rw [if_neg (by rw [hm]; simp [hq]), if_pos hz]
        by_cases c1 : code < 0
        · exact ra_coden fn addr count to bits regs A _ cb R _ cr rfn code bits2 regs2 A2 _ cb2 R2 _ cr2 w hA hR hA2 hR2 _ hm hq h23 hx c1
        · by_cases c2 : 11 < code
          · exact ra_codeg fn addr count to bits regs A _ cb R _ cr rfn code bits2 regs2 A2 _ cb2 R2 _ cr2 w hA hR hA2 hR2 _ hm hq h23 hx c2
          · by_cases c3 : 0 < bits2.length
            · exact ra_codeb fn addr count to bits regs A _ cb R _ cr rfn code bits2 regs2 A2 _ cb2 R2 _ cr2 w hA hR hA2 hR2 _ hm hq h23 hx (by omega) (by omega) c3
            · by_cases c4 : 0 < regs2.length
              · exact ra_coder fn addr count to bits regs A _ cb R _ cr rfn code bits2 regs2 A2 _ cb2 R2 _ cr2 w hA hR hA2 hR2 _ hm hq h23 hx (by omega) (by omega) (by omega) c4
              · exact ra_codey fn addr count to bits regs A _ cb R _ cr rfn code bits2 regs2 A2 _ cb2 R2 _ cr2 w hA hR hA2 hR2 _ hm hq h23 hx (by omega) (by omega) (by omega) (by omega)
    · exact ra_fn fn addr count to bits regs A _ cb R _ cr rfn code bits2 regs2 A2 _ cb2 R2 _ cr2 w hA hR hA2 hR2 _ hm hq (by unfold answerP; rw [if_pos (.inr hq)])
end Go.Proofs.YtflbiichdjhaeaaDoor
