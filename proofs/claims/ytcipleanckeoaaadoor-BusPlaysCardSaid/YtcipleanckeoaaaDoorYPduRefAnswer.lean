/- kilowattref19.Answer: (3, 4, 23). -/
import Derived.Test.YtcipleanckeoaaaDoorYTk
import Derived.Test.YtcipleanckeoaaaDoorYPduMay
import Derived.Test.YtcipleanckeoaaaDoorYPduBytes
import Derived.Test.YtcipleanckeoaaaDoorYPduAnswer
set_option maxRecDepth 100000
set_option maxHeartbeats 40000000
namespace Go.Proofs.YtcipleanckeoaaaDoor
open Go.RowKit
set_option linter.unusedVariables false
theorem ra_3a (fn addr count to : Int) (bits : List Bool) (regs : List Int) (A : Option Addr) (nb cb : Nat) (R : Option Addr) (nr cr : Nat) (rfn code : Int) (bits2 : List Bool) (regs2 : List Int) (A2 : Option Addr) (nb2 cb2 : Nat) (R2 : Option Addr) (nr2 cr2 : Nat) (w : World) (hA : SlB w w.heap.size A nb cb bits) (hR : SlI w w.heap.size .u16 R nr cr regs) (hA2 : SlB w w.heap.size A2 nb2 cb2 bits2) (hR2 : SlI w w.heap.size .u16 R2 nr2 cr2 regs2) (o : Option (List Int)) (hm : mayP ⟨fn, addr, count, to, bits, regs⟩ = true) (hq : rfn = fn) (hfn : fn = 3) (hz : code = 0) (hy : Reg16 regs) (hy2 : Reg16 regs2) (ha : 0 ≤ addr ∧ addr < 65536) (k1 : nb ≤ 1968) (k2 : nr ≤ 123) (hcnt : 1 ≤ count ∧ count ≤ 125) (hn : o = if (nb2 : Int) ≠ 0 ∨ (nr2 : Int) ≠ count then none else some (3 :: ((2 * nr2 : Nat) : Int) :: twosI regs2)) (b1 : (nb2 : Int) ≠ 0) : Calls Tryd.prog 87 #[.agg #[.int .i64 fn, .int .i64 addr, .int .i64 count, .int .i64 to, .slice A nb cb, .slice R nr cr], .agg #[.int .i64 rfn, .int .i64 code, .slice A2 nb2 cb2, .slice R2 nr2 cr2]] w (AnsPost w o) := by
 subst hq hfn hz
 obtain ⟨w1, hw1⟩ : ∃ w1, (w.alloc (.cells #[.int .i64 3, .int .i64 addr, .int .i64 count, .int .i64 to, .slice A nb cb, .slice R nr cr] 59)).alloc (.cells #[.int .i64 3, .int .i64 0, .slice A2 nb2 cb2, .slice R2 nr2 cr2] 68) = w1 := ⟨_, rfl⟩
 have hb1 := zB2 hw1
 have hz1 : w1.heap.size = w.heap.size + 2 := by rw [← hw1]; simp
 have hP1 : Held w1 w.heap.size 59 #[.int .i64 3, .int .i64 addr, .int .i64 count, .int .i64 to, .slice A nb cb, .slice R nr cr] := by rw [← hw1]; exact (Held.new w _ _).alloc _
 have hQ1 : Held w1 (w.heap.size + 1) 68 #[.int .i64 3, .int .i64 0, .slice A2 nb2 cb2, .slice R2 nr2 cr2] := by rw [← hw1]; have := Held.new (w.alloc (.cells #[.int .i64 3, .int .i64 addr, .int .i64 count, .int .i64 to, .slice A nb cb, .slice R nr cr] 59)) 68 #[.int .i64 3, .int .i64 0, .slice A2 nb2 cb2, .slice R2 nr2 cr2]; rw [World.size_alloc] at this; exact this
 have hu := Tryd.underlying59
 have hsz := zSz
 have hc := may_any (.agg #[.int .i64 3, .int .i64 addr, .int .i64 count, .int .i64 to, .slice A nb cb, .slice R nr cr]) ⟨3, addr, count, to, bits, regs⟩ w1 ⟨A, nb, cb, R, nr, cr, rfl, hA.up hb1, hR.up hb1⟩
 rw [hm] at hc
 have HC := Lib.hid hc
 clear hc
 have HN := Lib.hid hn
 have HA := Lib.hid (fun (X : World) (h : Below w.heap.size w X) => hA.up h)
 have HR := Lib.hid (fun (X : World) (h : Below w.heap.size w X) => hR.up h)
 have HA2 := Lib.hid (fun (X : World) (h : Below w.heap.size w X) => hA2.up h)
 have HR2 := Lib.hid (fun (X : World) (h : Below w.heap.size w X) => hR2.up h)
 have HM := Lib.hid hm
 have hl2 := Lib.hid hA2.1
 have hlr2 := Lib.hid hR2.1
 obtain ⟨i0, hi, hz0, hz1', hz2'⟩ := info_parts infoU8
 clear hA hR hA2 hR2 hm hn
 have t1 : (((nb2 : Nat) : Int) != 0) = true := by simpa using b1
 go_in
 go_wp2_with ((with_reducible refine at_loadT 59 2 ?_); refine wpList_load_rowG rfl 59 (.tmp 2) rfl w.heap.size rfl 59 _ _ hP1 hu rfl hsz ?_)
 refine HC.out.mono ?_
 rintro e w2 ⟨rfl, hb2⟩
 have hz2 := hb2.size
 have hP2 := hP1.below hb2 hP1.lt
 have hQ2 := hQ1.below hb2 hQ1.lt
 have hlt2 := hP2.lt
 have hlq2 := hQ2.lt
 have hb2w := hb1.trans (hb2.mono (by omega))
 obtain ⟨ka0, ka1, ka2, ka3, ka4, ka5⟩ := zC6 hP2
 obtain ⟨kr0, kr1, kr2, kr3⟩ := zC4 hQ2
 go_wp2_with fail
 go_ret2
 exact ans_none (by rw [HN.out, if_pos (by left; exact b1)]) hb2w
theorem ra_3b (fn addr count to : Int) (bits : List Bool) (regs : List Int) (A : Option Addr) (nb cb : Nat) (R : Option Addr) (nr cr : Nat) (rfn code : Int) (bits2 : List Bool) (regs2 : List Int) (A2 : Option Addr) (nb2 cb2 : Nat) (R2 : Option Addr) (nr2 cr2 : Nat) (w : World) (hA : SlB w w.heap.size A nb cb bits) (hR : SlI w w.heap.size .u16 R nr cr regs) (hA2 : SlB w w.heap.size A2 nb2 cb2 bits2) (hR2 : SlI w w.heap.size .u16 R2 nr2 cr2 regs2) (o : Option (List Int)) (hm : mayP ⟨fn, addr, count, to, bits, regs⟩ = true) (hq : rfn = fn) (hfn : fn = 3) (hz : code = 0) (hy : Reg16 regs) (hy2 : Reg16 regs2) (ha : 0 ≤ addr ∧ addr < 65536) (k1 : nb ≤ 1968) (k2 : nr ≤ 123) (hcnt : 1 ≤ count ∧ count ≤ 125) (hn : o = if (nb2 : Int) ≠ 0 ∨ (nr2 : Int) ≠ count then none else some (3 :: ((2 * nr2 : Nat) : Int) :: twosI regs2)) (b1 : (nb2 : Int) = 0) (b2 : (nr2 : Int) ≠ count) : Calls Tryd.prog 87 #[.agg #[.int .i64 fn, .int .i64 addr, .int .i64 count, .int .i64 to, .slice A nb cb, .slice R nr cr], .agg #[.int .i64 rfn, .int .i64 code, .slice A2 nb2 cb2, .slice R2 nr2 cr2]] w (AnsPost w o) := by
 subst hq hfn hz
 obtain rfl : nb2 = 0 := by omega
 obtain ⟨w1, hw1⟩ : ∃ w1, (w.alloc (.cells #[.int .i64 3, .int .i64 addr, .int .i64 count, .int .i64 to, .slice A nb cb, .slice R nr cr] 59)).alloc (.cells #[.int .i64 3, .int .i64 0, .slice A2 0 cb2, .slice R2 nr2 cr2] 68) = w1 := ⟨_, rfl⟩
 have hb1 := zB2 hw1
 have hz1 : w1.heap.size = w.heap.size + 2 := by rw [← hw1]; simp
 have hP1 : Held w1 w.heap.size 59 #[.int .i64 3, .int .i64 addr, .int .i64 count, .int .i64 to, .slice A nb cb, .slice R nr cr] := by rw [← hw1]; exact (Held.new w _ _).alloc _
 have hQ1 : Held w1 (w.heap.size + 1) 68 #[.int .i64 3, .int .i64 0, .slice A2 0 cb2, .slice R2 nr2 cr2] := by rw [← hw1]; have := Held.new (w.alloc (.cells #[.int .i64 3, .int .i64 addr, .int .i64 count, .int .i64 to, .slice A nb cb, .slice R nr cr] 59)) 68 #[.int .i64 3, .int .i64 0, .slice A2 0 cb2, .slice R2 nr2 cr2]; rw [World.size_alloc] at this; exact this
 have hu := Tryd.underlying59
 have hsz := zSz
 have hc := may_any (.agg #[.int .i64 3, .int .i64 addr, .int .i64 count, .int .i64 to, .slice A nb cb, .slice R nr cr]) ⟨3, addr, count, to, bits, regs⟩ w1 ⟨A, nb, cb, R, nr, cr, rfl, hA.up hb1, hR.up hb1⟩
 rw [hm] at hc
 have HC := Lib.hid hc
 clear hc
 have HN := Lib.hid hn
 have HA := Lib.hid (fun (X : World) (h : Below w.heap.size w X) => hA.up h)
 have HR := Lib.hid (fun (X : World) (h : Below w.heap.size w X) => hR.up h)
 have HA2 := Lib.hid (fun (X : World) (h : Below w.heap.size w X) => hA2.up h)
 have HR2 := Lib.hid (fun (X : World) (h : Below w.heap.size w X) => hR2.up h)
 have HM := Lib.hid hm
 have hl2 := Lib.hid hA2.1
 have hlr2 := Lib.hid hR2.1
 obtain ⟨i0, hi, hz0, hz1', hz2'⟩ := info_parts infoU8
 clear hA hR hA2 hR2 hm hn
 have B1 := Lib.hid b1
 clear b1
 have t2 : (((nr2 : Nat) : Int) != count) = true := by simpa using b2
 go_in
 go_wp2_with ((with_reducible refine at_loadT 59 2 ?_); refine wpList_load_rowG rfl 59 (.tmp 2) rfl w.heap.size rfl 59 _ _ hP1 hu rfl hsz ?_)
 refine HC.out.mono ?_
 rintro e w2 ⟨rfl, hb2⟩
 have hz2 := hb2.size
 have hP2 := hP1.below hb2 hP1.lt
 have hQ2 := hQ1.below hb2 hQ1.lt
 have hlt2 := hP2.lt
 have hlq2 := hQ2.lt
 have hb2w := hb1.trans (hb2.mono (by omega))
 obtain ⟨ka0, ka1, ka2, ka3, ka4, ka5⟩ := zC6 hP2
 obtain ⟨kr0, kr1, kr2, kr3⟩ := zC4 hQ2
 go_wp2_with fail
 go_ret2
 exact ans_none (by rw [HN.out, if_pos (by right; exact b2)]) hb2w
theorem ra_3c (fn addr count to : Int) (bits : List Bool) (regs : List Int) (A : Option Addr) (nb cb : Nat) (R : Option Addr) (nr cr : Nat) (rfn code : Int) (bits2 : List Bool) (regs2 : List Int) (A2 : Option Addr) (nb2 cb2 : Nat) (R2 : Option Addr) (nr2 cr2 : Nat) (w : World) (hA : SlB w w.heap.size A nb cb bits) (hR : SlI w w.heap.size .u16 R nr cr regs) (hA2 : SlB w w.heap.size A2 nb2 cb2 bits2) (hR2 : SlI w w.heap.size .u16 R2 nr2 cr2 regs2) (o : Option (List Int)) (hm : mayP ⟨fn, addr, count, to, bits, regs⟩ = true) (hq : rfn = fn) (hfn : fn = 3) (hz : code = 0) (hy : Reg16 regs) (hy2 : Reg16 regs2) (ha : 0 ≤ addr ∧ addr < 65536) (k1 : nb ≤ 1968) (k2 : nr ≤ 123) (hcnt : 1 ≤ count ∧ count ≤ 125) (hn : o = if (nb2 : Int) ≠ 0 ∨ (nr2 : Int) ≠ count then none else some (3 :: ((2 * nr2 : Nat) : Int) :: twosI regs2)) (b1 : (nb2 : Int) = 0) (b2 : (nr2 : Int) = count) : Calls Tryd.prog 87 #[.agg #[.int .i64 fn, .int .i64 addr, .int .i64 count, .int .i64 to, .slice A nb cb, .slice R nr cr], .agg #[.int .i64 rfn, .int .i64 code, .slice A2 nb2 cb2, .slice R2 nr2 cr2]] w (AnsPost w o) := by
 subst hq hfn hz
 obtain rfl : nb2 = 0 := by omega
 obtain ⟨w1, hw1⟩ : ∃ w1, (w.alloc (.cells #[.int .i64 3, .int .i64 addr, .int .i64 count, .int .i64 to, .slice A nb cb, .slice R nr cr] 59)).alloc (.cells #[.int .i64 3, .int .i64 0, .slice A2 0 cb2, .slice R2 nr2 cr2] 68) = w1 := ⟨_, rfl⟩
 have hb1 := zB2 hw1
 have hz1 : w1.heap.size = w.heap.size + 2 := by rw [← hw1]; simp
 have hP1 : Held w1 w.heap.size 59 #[.int .i64 3, .int .i64 addr, .int .i64 count, .int .i64 to, .slice A nb cb, .slice R nr cr] := by rw [← hw1]; exact (Held.new w _ _).alloc _
 have hQ1 : Held w1 (w.heap.size + 1) 68 #[.int .i64 3, .int .i64 0, .slice A2 0 cb2, .slice R2 nr2 cr2] := by rw [← hw1]; have := Held.new (w.alloc (.cells #[.int .i64 3, .int .i64 addr, .int .i64 count, .int .i64 to, .slice A nb cb, .slice R nr cr] 59)) 68 #[.int .i64 3, .int .i64 0, .slice A2 0 cb2, .slice R2 nr2 cr2]; rw [World.size_alloc] at this; exact this
 have hu := Tryd.underlying59
 have hsz := zSz
 have hc := may_any (.agg #[.int .i64 3, .int .i64 addr, .int .i64 count, .int .i64 to, .slice A nb cb, .slice R nr cr]) ⟨3, addr, count, to, bits, regs⟩ w1 ⟨A, nb, cb, R, nr, cr, rfl, hA.up hb1, hR.up hb1⟩
 rw [hm] at hc
 have HC := Lib.hid hc
 clear hc
 have HN := Lib.hid hn
 have HA := Lib.hid (fun (X : World) (h : Below w.heap.size w X) => hA.up h)
 have HR := Lib.hid (fun (X : World) (h : Below w.heap.size w X) => hR.up h)
 have HA2 := Lib.hid (fun (X : World) (h : Below w.heap.size w X) => hA2.up h)
 have HR2 := Lib.hid (fun (X : World) (h : Below w.heap.size w X) => hR2.up h)
 have HM := Lib.hid hm
 have hl2 := Lib.hid hA2.1
 have hlr2 := Lib.hid hR2.1
 obtain ⟨i0, hi, hz0, hz1', hz2'⟩ := info_parts infoU8
 clear hA hR hA2 hR2 hm hn
 have t2 : (((nr2 : Nat) : Int) != count) = false := by simp; omega
 have hk2 : nr2 ≤ 125 := by omega
 have hk3 : 1 ≤ nr2 := by omega
 have hpm : ((2 * nr2 : Nat) : Int) % 256 = ((2 * nr2 : Nat) : Int) := by omega
 have hc0 : 0 < count := by omega
 have B1 := Lib.hid b1
 have B2 := Lib.hid b2
 clear b1 b2
 go_in
 go_wp2_with ((with_reducible refine at_loadT 59 2 ?_); refine wpList_load_rowG rfl 59 (.tmp 2) rfl w.heap.size rfl 59 _ _ hP1 hu rfl hsz ?_)
 refine HC.out.mono ?_
 rintro e w2 ⟨rfl, hb2⟩
 have hz2 := hb2.size
 have hP2 := hP1.below hb2 hP1.lt
 have hQ2 := hQ1.below hb2 hQ1.lt
 have hlt2 := hP2.lt
 have hlq2 := hQ2.lt
 have hb2w := hb1.trans (hb2.mono (by omega))
 obtain ⟨ka0, ka1, ka2, ka3, ka4, ka5⟩ := zC6 hP2
 obtain ⟨kr0, kr1, kr2, kr3⟩ := zC4 hQ2
 obtain ⟨w3, hw3⟩ : ∃ w3, w2.alloc (.cells #[.int .u8 3] 5) = w3 := ⟨_, rfl⟩
 have hb3 := zB1 hw3
 have ho3 : w3.ownsRow w2.heap.size 5 1 (.slice (some ⟨w2.heap.size, 0, none⟩) 1 1) 1 ([(3 : Int)].map (Value.int .u8)) := by rw [← hw3]; exact lit_own _ _ _ (Nat.le_refl _)
 have hb3w := hb2w.trans (hb3.mono hb2w.size)
 have Bw3 : Below w2.heap.size w2 w3 := hb3
 have Zw3 := Bw3.size
 have hP0 := hP2
 have hQ0 := hQ2
 have hPw3 := hP2.below Bw3 hP2.lt
 have hQw3 := hQ2.below Bw3 hQ2.lt
 have lhPw3 := hPw3.lt
 have lhQw3 := hQw3.lt
 obtain ⟨hPw30, hPw31, hPw32, hPw33, hPw34, hPw35⟩ := zC6 hPw3
 obtain ⟨hQw30, hQw31, hQw32, hQw33⟩ := zC4 hQw3
 have HC1 := Lib.hid (refpack_any A2 0 cb2 bits2 (by omega) w3 (HA2.out w3 (hb2w.trans (Bw3.mono hb2w.size))))
 go_wp2_with fail
 refine HC1.out.mono ?_
 rintro e wc1 ⟨vq, rfl, oq, hbwc1⟩
 have gq := fun g h => (oq.lt g h).1
 obtain ⟨Aq, cq, rfl, sq0⟩ := SlI.of_own oq
 have fq0 : OffRow (.slice (some ⟨w2.heap.size, 0, none⟩) 1 1) Aq := fun g hg a ha e => by { subst ha; have h1 := gq a.block rfl; have h2 := (ho3.lt g hg).2; omega }
 have ot1 := own_up ho3 hbwc1
 clear oq gq
 have hzwc1 : w3.heap.size ≤ wc1.heap.size := hbwc1.size
 have Bwc1 : Below w2.heap.size w2 wc1 := Bw3.trans (hbwc1.mono Bw3.size)
 have Zwc1 := Bwc1.size
 have hPwc1 := hPw3.below hbwc1 hPw3.lt
 have lhPwc1 := hPwc1.lt
 have hQwc1 := hQw3.below hbwc1 hQw3.lt
 have lhQwc1 := hQwc1.lt
 obtain ⟨hPwc10, hPwc11, hPwc12, hPwc13, hPwc14, hPwc15⟩ := zC6 hPwc1
 obtain ⟨hQwc10, hQwc11, hQwc12, hQwc13⟩ := zC4 hQwc1
 have sqwc1 := sq0
 have fqwc1 := fq0
 have HC2 := Lib.hid (rwords_any R2 nr2 cr2 regs2 (by omega) wc1 (HR2.out wc1 (hb2w.trans (Bwc1.mono hb2w.size))) hy2)
 go_wp2_with fail
 refine HC2.out.mono ?_
 rintro e wc2 ⟨vp, rfl, op, hbwc2⟩
 have gp := fun g h => (op.lt g h).1
 obtain ⟨Ap, cp, rfl, sp0⟩ := SlI.of_own op
 have fp0 : OffRow (.slice (some ⟨w2.heap.size, 0, none⟩) 1 1) Ap := fun g hg a ha e => by { subst ha; have h1 := gp a.block rfl; have h2 := (ot1.lt g hg).2; omega }
 have ot2 := own_up ot1 hbwc2
 clear op gp
 have hzwc2 : wc1.heap.size ≤ wc2.heap.size := hbwc2.size
 have Bwc2 : Below w2.heap.size w2 wc2 := Bwc1.trans (hbwc2.mono Bwc1.size)
 have Zwc2 := Bwc2.size
 have hPwc2 := hPwc1.below hbwc2 hPwc1.lt
 have lhPwc2 := hPwc2.lt
 have hQwc2 := hQwc1.below hbwc2 hQwc1.lt
 have lhQwc2 := hQwc2.lt
 obtain ⟨hPwc20, hPwc21, hPwc22, hPwc23, hPwc24, hPwc25⟩ := zC6 hPwc2
 obtain ⟨hQwc20, hQwc21, hQwc22, hQwc23⟩ := zC4 hQwc2
 have spwc2 := sp0
 have fpwc2 := fp0
 go_wp2_with (first
  | ((with_reducible refine at_append ?_); refine wpList_append_sl (wc2.alloc (.cells #[.int .u8 ((2 * nr2 : Nat) : Int)] 5)) rfl _ _ 22 rfl w2.heap.size 5 i0 (.int .u8 0) 1 Tryd.underlying22 hi hz0 hz1' hz2' rfl (.slice (some ⟨w2.heap.size, 0, none⟩) 1 1) 1 _ rfl (ot2.alloc (.cells #[.int .u8 ((2 * nr2 : Nat) : Int)] 5)) (wc2.alloc (.cells #[.int .u8 ((2 * nr2 : Nat) : Int)] 5)).heap.size .u8 (some ⟨wc2.heap.size, 0, none⟩) 1 1 [((2 * nr2 : Nat) : Int)] rfl (SlI.of_lit (w := wc2) (T := 5) (cs := #[.int .u8 ((2 * nr2 : Nat) : Int)]) rfl rfl (by omega)) (by unfold maxLen; omega) (by omega) (by rw [World.size_alloc]; omega) ?_; intro va3 wa3 oa3 hgr hlies; have spwa3 := (spwc2.alloc (.cells #[.int .u8 ((2 * nr2 : Nat) : Int)] 5)).grown hgr fpwc2; have fpwa3 := fpwc2.next (spwc2.alloc (.cells #[.int .u8 ((2 * nr2 : Nat) : Int)] 5)) (by omega) hlies; have Bwa3 : Below w2.heap.size w2 wa3 := (Bwc2.alloc Zwc2 (.cells #[.int .u8 ((2 * nr2 : Nat) : Int)] 5)).grown hgr (by rw [World.size_alloc]; omega) (fun j hj => (ot2.lt j hj).1); have Zwa3 := Bwa3.size; have hPwa3 := hP0.below Bwa3 hP0.lt; have lhPwa3 := hPwa3.lt; have hQwa3 := hQ0.below Bwa3 hQ0.lt; have lhQwa3 := hQwa3.lt; have hPwa30 : wa3.cell? ⟨w.heap.size, 0, none⟩ = some (.int .i64 3) := hPwa3.cell 0; have hPwa31 : wa3.cell? ⟨w.heap.size, 1, none⟩ = some (.int .i64 addr) := hPwa3.cell 1; have hPwa32 : wa3.cell? ⟨w.heap.size, 2, none⟩ = some (.int .i64 count) := hPwa3.cell 2; have hPwa33 : wa3.cell? ⟨w.heap.size, 3, none⟩ = some (.int .i64 to) := hPwa3.cell 3; have hPwa34 : wa3.cell? ⟨w.heap.size, 4, none⟩ = some (.slice A nb cb) := hPwa3.cell 4; have hPwa35 : wa3.cell? ⟨w.heap.size, 5, none⟩ = some (.slice R nr cr) := hPwa3.cell 5; have hQwa30 : wa3.cell? ⟨(w.heap.size + 1), 0, none⟩ = some (.int .i64 3) := hQwa3.cell 0; have hQwa31 : wa3.cell? ⟨(w.heap.size + 1), 1, none⟩ = some (.int .i64 0) := hQwa3.cell 1; have hQwa32 : wa3.cell? ⟨(w.heap.size + 1), 2, none⟩ = some (.slice A2 0 cb2) := hQwa3.cell 2; have hQwa33 : wa3.cell? ⟨(w.heap.size + 1), 3, none⟩ = some (.slice R2 nr2 cr2) := hQwa3.cell 3; rw [← List.map_append] at oa3; have Ooa3 := Lib.hid oa3; clear hgr hlies)
  | ((with_reducible refine at_append ?_); refine wpList_append_sl wa3 rfl _ _ 22 rfl w2.heap.size 5 i0 (.int .u8 0) 1 Tryd.underlying22 hi hz0 hz1' hz2' rfl va3 (1 + 1) _ rfl oa3 wa3.heap.size .u8 Ap (2 * nr2) cp (twosI regs2) rfl spwa3 (by unfold maxLen; omega) (by omega) Zwa3 ?_; intro va4 wa4 oa4 hgr hlies; have spwa4 := spwa3.grown hgr fpwa3; have fpwa4 := fpwa3.next spwa3 (by omega) hlies; have Bwa4 : Below w2.heap.size w2 wa4 := Bwa3.grown hgr Zwa3 (fun j hj => (oa3.lt j hj).1); have Zwa4 := Bwa4.size; have hPwa4 := hP0.below Bwa4 hP0.lt; have lhPwa4 := hPwa4.lt; have hQwa4 := hQ0.below Bwa4 hQ0.lt; have lhQwa4 := hQwa4.lt; have hPwa40 : wa4.cell? ⟨w.heap.size, 0, none⟩ = some (.int .i64 3) := hPwa4.cell 0; have hPwa41 : wa4.cell? ⟨w.heap.size, 1, none⟩ = some (.int .i64 addr) := hPwa4.cell 1; have hPwa42 : wa4.cell? ⟨w.heap.size, 2, none⟩ = some (.int .i64 count) := hPwa4.cell 2; have hPwa43 : wa4.cell? ⟨w.heap.size, 3, none⟩ = some (.int .i64 to) := hPwa4.cell 3; have hPwa44 : wa4.cell? ⟨w.heap.size, 4, none⟩ = some (.slice A nb cb) := hPwa4.cell 4; have hPwa45 : wa4.cell? ⟨w.heap.size, 5, none⟩ = some (.slice R nr cr) := hPwa4.cell 5; have hQwa40 : wa4.cell? ⟨(w.heap.size + 1), 0, none⟩ = some (.int .i64 3) := hQwa4.cell 0; have hQwa41 : wa4.cell? ⟨(w.heap.size + 1), 1, none⟩ = some (.int .i64 0) := hQwa4.cell 1; have hQwa42 : wa4.cell? ⟨(w.heap.size + 1), 2, none⟩ = some (.slice A2 0 cb2) := hQwa4.cell 2; have hQwa43 : wa4.cell? ⟨(w.heap.size + 1), 3, none⟩ = some (.slice R2 nr2 cr2) := hQwa4.cell 3; rw [← List.map_append] at oa4; have Ooa4 := Lib.hid oa4; clear hgr hlies))
 go_ret2
 exact ans_some (by rw [HN.out, if_neg (by have := B1.out; have := B2.out; omega)]; simp) oa4 (hb2w.trans (Bwa4.mono hb2w.size))
theorem ra_4a (fn addr count to : Int) (bits : List Bool) (regs : List Int) (A : Option Addr) (nb cb : Nat) (R : Option Addr) (nr cr : Nat) (rfn code : Int) (bits2 : List Bool) (regs2 : List Int) (A2 : Option Addr) (nb2 cb2 : Nat) (R2 : Option Addr) (nr2 cr2 : Nat) (w : World) (hA : SlB w w.heap.size A nb cb bits) (hR : SlI w w.heap.size .u16 R nr cr regs) (hA2 : SlB w w.heap.size A2 nb2 cb2 bits2) (hR2 : SlI w w.heap.size .u16 R2 nr2 cr2 regs2) (o : Option (List Int)) (hm : mayP ⟨fn, addr, count, to, bits, regs⟩ = true) (hq : rfn = fn) (hfn : fn = 4) (hz : code = 0) (hy : Reg16 regs) (hy2 : Reg16 regs2) (ha : 0 ≤ addr ∧ addr < 65536) (k1 : nb ≤ 1968) (k2 : nr ≤ 123) (hcnt : 1 ≤ count ∧ count ≤ 125) (hn : o = if (nb2 : Int) ≠ 0 ∨ (nr2 : Int) ≠ count then none else some (4 :: ((2 * nr2 : Nat) : Int) :: twosI regs2)) (b1 : (nb2 : Int) ≠ 0) : Calls Tryd.prog 87 #[.agg #[.int .i64 fn, .int .i64 addr, .int .i64 count, .int .i64 to, .slice A nb cb, .slice R nr cr], .agg #[.int .i64 rfn, .int .i64 code, .slice A2 nb2 cb2, .slice R2 nr2 cr2]] w (AnsPost w o) := by
 subst hq hfn hz
 obtain ⟨w1, hw1⟩ : ∃ w1, (w.alloc (.cells #[.int .i64 4, .int .i64 addr, .int .i64 count, .int .i64 to, .slice A nb cb, .slice R nr cr] 59)).alloc (.cells #[.int .i64 4, .int .i64 0, .slice A2 nb2 cb2, .slice R2 nr2 cr2] 68) = w1 := ⟨_, rfl⟩
 have hb1 := zB2 hw1
 have hz1 : w1.heap.size = w.heap.size + 2 := by rw [← hw1]; simp
 have hP1 : Held w1 w.heap.size 59 #[.int .i64 4, .int .i64 addr, .int .i64 count, .int .i64 to, .slice A nb cb, .slice R nr cr] := by rw [← hw1]; exact (Held.new w _ _).alloc _
 have hQ1 : Held w1 (w.heap.size + 1) 68 #[.int .i64 4, .int .i64 0, .slice A2 nb2 cb2, .slice R2 nr2 cr2] := by rw [← hw1]; have := Held.new (w.alloc (.cells #[.int .i64 4, .int .i64 addr, .int .i64 count, .int .i64 to, .slice A nb cb, .slice R nr cr] 59)) 68 #[.int .i64 4, .int .i64 0, .slice A2 nb2 cb2, .slice R2 nr2 cr2]; rw [World.size_alloc] at this; exact this
 have hu := Tryd.underlying59
 have hsz := zSz
 have hc := may_any (.agg #[.int .i64 4, .int .i64 addr, .int .i64 count, .int .i64 to, .slice A nb cb, .slice R nr cr]) ⟨4, addr, count, to, bits, regs⟩ w1 ⟨A, nb, cb, R, nr, cr, rfl, hA.up hb1, hR.up hb1⟩
 rw [hm] at hc
 have HC := Lib.hid hc
 clear hc
 have HN := Lib.hid hn
 have HA := Lib.hid (fun (X : World) (h : Below w.heap.size w X) => hA.up h)
 have HR := Lib.hid (fun (X : World) (h : Below w.heap.size w X) => hR.up h)
 have HA2 := Lib.hid (fun (X : World) (h : Below w.heap.size w X) => hA2.up h)
 have HR2 := Lib.hid (fun (X : World) (h : Below w.heap.size w X) => hR2.up h)
 have HM := Lib.hid hm
 have hl2 := Lib.hid hA2.1
 have hlr2 := Lib.hid hR2.1
 obtain ⟨i0, hi, hz0, hz1', hz2'⟩ := info_parts infoU8
 clear hA hR hA2 hR2 hm hn
 have t1 : (((nb2 : Nat) : Int) != 0) = true := by simpa using b1
 go_in
 go_wp2_with ((with_reducible refine at_loadT 59 2 ?_); refine wpList_load_rowG rfl 59 (.tmp 2) rfl w.heap.size rfl 59 _ _ hP1 hu rfl hsz ?_)
 refine HC.out.mono ?_
 rintro e w2 ⟨rfl, hb2⟩
 have hz2 := hb2.size
 have hP2 := hP1.below hb2 hP1.lt
 have hQ2 := hQ1.below hb2 hQ1.lt
 have hlt2 := hP2.lt
 have hlq2 := hQ2.lt
 have hb2w := hb1.trans (hb2.mono (by omega))
 obtain ⟨ka0, ka1, ka2, ka3, ka4, ka5⟩ := zC6 hP2
 obtain ⟨kr0, kr1, kr2, kr3⟩ := zC4 hQ2
 go_wp2_with fail
 go_ret2
 exact ans_none (by rw [HN.out, if_pos (by left; exact b1)]) hb2w
theorem ra_4b (fn addr count to : Int) (bits : List Bool) (regs : List Int) (A : Option Addr) (nb cb : Nat) (R : Option Addr) (nr cr : Nat) (rfn code : Int) (bits2 : List Bool) (regs2 : List Int) (A2 : Option Addr) (nb2 cb2 : Nat) (R2 : Option Addr) (nr2 cr2 : Nat) (w : World) (hA : SlB w w.heap.size A nb cb bits) (hR : SlI w w.heap.size .u16 R nr cr regs) (hA2 : SlB w w.heap.size A2 nb2 cb2 bits2) (hR2 : SlI w w.heap.size .u16 R2 nr2 cr2 regs2) (o : Option (List Int)) (hm : mayP ⟨fn, addr, count, to, bits, regs⟩ = true) (hq : rfn = fn) (hfn : fn = 4) (hz : code = 0) (hy : Reg16 regs) (hy2 : Reg16 regs2) (ha : 0 ≤ addr ∧ addr < 65536) (k1 : nb ≤ 1968) (k2 : nr ≤ 123) (hcnt : 1 ≤ count ∧ count ≤ 125) (hn : o = if (nb2 : Int) ≠ 0 ∨ (nr2 : Int) ≠ count then none else some (4 :: ((2 * nr2 : Nat) : Int) :: twosI regs2)) (b1 : (nb2 : Int) = 0) (b2 : (nr2 : Int) ≠ count) : Calls Tryd.prog 87 #[.agg #[.int .i64 fn, .int .i64 addr, .int .i64 count, .int .i64 to, .slice A nb cb, .slice R nr cr], .agg #[.int .i64 rfn, .int .i64 code, .slice A2 nb2 cb2, .slice R2 nr2 cr2]] w (AnsPost w o) := by
 subst hq hfn hz
 obtain rfl : nb2 = 0 := by omega
 obtain ⟨w1, hw1⟩ : ∃ w1, (w.alloc (.cells #[.int .i64 4, .int .i64 addr, .int .i64 count, .int .i64 to, .slice A nb cb, .slice R nr cr] 59)).alloc (.cells #[.int .i64 4, .int .i64 0, .slice A2 0 cb2, .slice R2 nr2 cr2] 68) = w1 := ⟨_, rfl⟩
 have hb1 := zB2 hw1
 have hz1 : w1.heap.size = w.heap.size + 2 := by rw [← hw1]; simp
 have hP1 : Held w1 w.heap.size 59 #[.int .i64 4, .int .i64 addr, .int .i64 count, .int .i64 to, .slice A nb cb, .slice R nr cr] := by rw [← hw1]; exact (Held.new w _ _).alloc _
 have hQ1 : Held w1 (w.heap.size + 1) 68 #[.int .i64 4, .int .i64 0, .slice A2 0 cb2, .slice R2 nr2 cr2] := by rw [← hw1]; have := Held.new (w.alloc (.cells #[.int .i64 4, .int .i64 addr, .int .i64 count, .int .i64 to, .slice A nb cb, .slice R nr cr] 59)) 68 #[.int .i64 4, .int .i64 0, .slice A2 0 cb2, .slice R2 nr2 cr2]; rw [World.size_alloc] at this; exact this
 have hu := Tryd.underlying59
 have hsz := zSz
 have hc := may_any (.agg #[.int .i64 4, .int .i64 addr, .int .i64 count, .int .i64 to, .slice A nb cb, .slice R nr cr]) ⟨4, addr, count, to, bits, regs⟩ w1 ⟨A, nb, cb, R, nr, cr, rfl, hA.up hb1, hR.up hb1⟩
 rw [hm] at hc
 have HC := Lib.hid hc
 clear hc
 have HN := Lib.hid hn
 have HA := Lib.hid (fun (X : World) (h : Below w.heap.size w X) => hA.up h)
 have HR := Lib.hid (fun (X : World) (h : Below w.heap.size w X) => hR.up h)
 have HA2 := Lib.hid (fun (X : World) (h : Below w.heap.size w X) => hA2.up h)
 have HR2 := Lib.hid (fun (X : World) (h : Below w.heap.size w X) => hR2.up h)
 have HM := Lib.hid hm
 have hl2 := Lib.hid hA2.1
 have hlr2 := Lib.hid hR2.1
 obtain ⟨i0, hi, hz0, hz1', hz2'⟩ := info_parts infoU8
 clear hA hR hA2 hR2 hm hn
 have B1 := Lib.hid b1
 clear b1
 have t2 : (((nr2 : Nat) : Int) != count) = true := by simpa using b2
 go_in
 go_wp2_with ((with_reducible refine at_loadT 59 2 ?_); refine wpList_load_rowG rfl 59 (.tmp 2) rfl w.heap.size rfl 59 _ _ hP1 hu rfl hsz ?_)
 refine HC.out.mono ?_
 rintro e w2 ⟨rfl, hb2⟩
 have hz2 := hb2.size
 have hP2 := hP1.below hb2 hP1.lt
 have hQ2 := hQ1.below hb2 hQ1.lt
 have hlt2 := hP2.lt
 have hlq2 := hQ2.lt
 have hb2w := hb1.trans (hb2.mono (by omega))
 obtain ⟨ka0, ka1, ka2, ka3, ka4, ka5⟩ := zC6 hP2
 obtain ⟨kr0, kr1, kr2, kr3⟩ := zC4 hQ2
 go_wp2_with fail
 go_ret2
 exact ans_none (by rw [HN.out, if_pos (by right; exact b2)]) hb2w
theorem ra_4c (fn addr count to : Int) (bits : List Bool) (regs : List Int) (A : Option Addr) (nb cb : Nat) (R : Option Addr) (nr cr : Nat) (rfn code : Int) (bits2 : List Bool) (regs2 : List Int) (A2 : Option Addr) (nb2 cb2 : Nat) (R2 : Option Addr) (nr2 cr2 : Nat) (w : World) (hA : SlB w w.heap.size A nb cb bits) (hR : SlI w w.heap.size .u16 R nr cr regs) (hA2 : SlB w w.heap.size A2 nb2 cb2 bits2) (hR2 : SlI w w.heap.size .u16 R2 nr2 cr2 regs2) (o : Option (List Int)) (hm : mayP ⟨fn, addr, count, to, bits, regs⟩ = true) (hq : rfn = fn) (hfn : fn = 4) (hz : code = 0) (hy : Reg16 regs) (hy2 : Reg16 regs2) (ha : 0 ≤ addr ∧ addr < 65536) (k1 : nb ≤ 1968) (k2 : nr ≤ 123) (hcnt : 1 ≤ count ∧ count ≤ 125) (hn : o = if (nb2 : Int) ≠ 0 ∨ (nr2 : Int) ≠ count then none else some (4 :: ((2 * nr2 : Nat) : Int) :: twosI regs2)) (b1 : (nb2 : Int) = 0) (b2 : (nr2 : Int) = count) : Calls Tryd.prog 87 #[.agg #[.int .i64 fn, .int .i64 addr, .int .i64 count, .int .i64 to, .slice A nb cb, .slice R nr cr], .agg #[.int .i64 rfn, .int .i64 code, .slice A2 nb2 cb2, .slice R2 nr2 cr2]] w (AnsPost w o) := by
 subst hq hfn hz
 obtain rfl : nb2 = 0 := by omega
 obtain ⟨w1, hw1⟩ : ∃ w1, (w.alloc (.cells #[.int .i64 4, .int .i64 addr, .int .i64 count, .int .i64 to, .slice A nb cb, .slice R nr cr] 59)).alloc (.cells #[.int .i64 4, .int .i64 0, .slice A2 0 cb2, .slice R2 nr2 cr2] 68) = w1 := ⟨_, rfl⟩
 have hb1 := zB2 hw1
 have hz1 : w1.heap.size = w.heap.size + 2 := by rw [← hw1]; simp
 have hP1 : Held w1 w.heap.size 59 #[.int .i64 4, .int .i64 addr, .int .i64 count, .int .i64 to, .slice A nb cb, .slice R nr cr] := by rw [← hw1]; exact (Held.new w _ _).alloc _
 have hQ1 : Held w1 (w.heap.size + 1) 68 #[.int .i64 4, .int .i64 0, .slice A2 0 cb2, .slice R2 nr2 cr2] := by rw [← hw1]; have := Held.new (w.alloc (.cells #[.int .i64 4, .int .i64 addr, .int .i64 count, .int .i64 to, .slice A nb cb, .slice R nr cr] 59)) 68 #[.int .i64 4, .int .i64 0, .slice A2 0 cb2, .slice R2 nr2 cr2]; rw [World.size_alloc] at this; exact this
 have hu := Tryd.underlying59
 have hsz := zSz
 have hc := may_any (.agg #[.int .i64 4, .int .i64 addr, .int .i64 count, .int .i64 to, .slice A nb cb, .slice R nr cr]) ⟨4, addr, count, to, bits, regs⟩ w1 ⟨A, nb, cb, R, nr, cr, rfl, hA.up hb1, hR.up hb1⟩
 rw [hm] at hc
 have HC := Lib.hid hc
 clear hc
 have HN := Lib.hid hn
 have HA := Lib.hid (fun (X : World) (h : Below w.heap.size w X) => hA.up h)
 have HR := Lib.hid (fun (X : World) (h : Below w.heap.size w X) => hR.up h)
 have HA2 := Lib.hid (fun (X : World) (h : Below w.heap.size w X) => hA2.up h)
 have HR2 := Lib.hid (fun (X : World) (h : Below w.heap.size w X) => hR2.up h)
 have HM := Lib.hid hm
 have hl2 := Lib.hid hA2.1
 have hlr2 := Lib.hid hR2.1
 obtain ⟨i0, hi, hz0, hz1', hz2'⟩ := info_parts infoU8
 clear hA hR hA2 hR2 hm hn
 have t2 : (((nr2 : Nat) : Int) != count) = false := by simp; omega
 have hk2 : nr2 ≤ 125 := by omega
 have hk3 : 1 ≤ nr2 := by omega
 have hpm : ((2 * nr2 : Nat) : Int) % 256 = ((2 * nr2 : Nat) : Int) := by omega
 have hc0 : 0 < count := by omega
 have B1 := Lib.hid b1
 have B2 := Lib.hid b2
 clear b1 b2
 go_in
 go_wp2_with ((with_reducible refine at_loadT 59 2 ?_); refine wpList_load_rowG rfl 59 (.tmp 2) rfl w.heap.size rfl 59 _ _ hP1 hu rfl hsz ?_)
 refine HC.out.mono ?_
 rintro e w2 ⟨rfl, hb2⟩
 have hz2 := hb2.size
 have hP2 := hP1.below hb2 hP1.lt
 have hQ2 := hQ1.below hb2 hQ1.lt
 have hlt2 := hP2.lt
 have hlq2 := hQ2.lt
 have hb2w := hb1.trans (hb2.mono (by omega))
 obtain ⟨ka0, ka1, ka2, ka3, ka4, ka5⟩ := zC6 hP2
 obtain ⟨kr0, kr1, kr2, kr3⟩ := zC4 hQ2
 obtain ⟨w3, hw3⟩ : ∃ w3, w2.alloc (.cells #[.int .u8 4] 5) = w3 := ⟨_, rfl⟩
 have hb3 := zB1 hw3
 have ho3 : w3.ownsRow w2.heap.size 5 1 (.slice (some ⟨w2.heap.size, 0, none⟩) 1 1) 1 ([(4 : Int)].map (Value.int .u8)) := by rw [← hw3]; exact lit_own _ _ _ (Nat.le_refl _)
 have hb3w := hb2w.trans (hb3.mono hb2w.size)
 have Bw3 : Below w2.heap.size w2 w3 := hb3
 have Zw3 := Bw3.size
 have hP0 := hP2
 have hQ0 := hQ2
 have hPw3 := hP2.below Bw3 hP2.lt
 have hQw3 := hQ2.below Bw3 hQ2.lt
 have lhPw3 := hPw3.lt
 have lhQw3 := hQw3.lt
 obtain ⟨hPw30, hPw31, hPw32, hPw33, hPw34, hPw35⟩ := zC6 hPw3
 obtain ⟨hQw30, hQw31, hQw32, hQw33⟩ := zC4 hQw3
 have HC1 := Lib.hid (refpack_any A2 0 cb2 bits2 (by omega) w3 (HA2.out w3 (hb2w.trans (Bw3.mono hb2w.size))))
 go_wp2_with fail
 refine HC1.out.mono ?_
 rintro e wc1 ⟨vq, rfl, oq, hbwc1⟩
 have gq := fun g h => (oq.lt g h).1
 obtain ⟨Aq, cq, rfl, sq0⟩ := SlI.of_own oq
 have fq0 : OffRow (.slice (some ⟨w2.heap.size, 0, none⟩) 1 1) Aq := fun g hg a ha e => by { subst ha; have h1 := gq a.block rfl; have h2 := (ho3.lt g hg).2; omega }
 have ot1 := own_up ho3 hbwc1
 clear oq gq
 have hzwc1 : w3.heap.size ≤ wc1.heap.size := hbwc1.size
 have Bwc1 : Below w2.heap.size w2 wc1 := Bw3.trans (hbwc1.mono Bw3.size)
 have Zwc1 := Bwc1.size
 have hPwc1 := hPw3.below hbwc1 hPw3.lt
 have lhPwc1 := hPwc1.lt
 have hQwc1 := hQw3.below hbwc1 hQw3.lt
 have lhQwc1 := hQwc1.lt
 obtain ⟨hPwc10, hPwc11, hPwc12, hPwc13, hPwc14, hPwc15⟩ := zC6 hPwc1
 obtain ⟨hQwc10, hQwc11, hQwc12, hQwc13⟩ := zC4 hQwc1
 have sqwc1 := sq0
 have fqwc1 := fq0
 have HC2 := Lib.hid (rwords_any R2 nr2 cr2 regs2 (by omega) wc1 (HR2.out wc1 (hb2w.trans (Bwc1.mono hb2w.size))) hy2)
 go_wp2_with fail
 refine HC2.out.mono ?_
 rintro e wc2 ⟨vp, rfl, op, hbwc2⟩
 have gp := fun g h => (op.lt g h).1
 obtain ⟨Ap, cp, rfl, sp0⟩ := SlI.of_own op
 have fp0 : OffRow (.slice (some ⟨w2.heap.size, 0, none⟩) 1 1) Ap := fun g hg a ha e => by { subst ha; have h1 := gp a.block rfl; have h2 := (ot1.lt g hg).2; omega }
 have ot2 := own_up ot1 hbwc2
 clear op gp
 have hzwc2 : wc1.heap.size ≤ wc2.heap.size := hbwc2.size
 have Bwc2 : Below w2.heap.size w2 wc2 := Bwc1.trans (hbwc2.mono Bwc1.size)
 have Zwc2 := Bwc2.size
 have hPwc2 := hPwc1.below hbwc2 hPwc1.lt
 have lhPwc2 := hPwc2.lt
 have hQwc2 := hQwc1.below hbwc2 hQwc1.lt
 have lhQwc2 := hQwc2.lt
 obtain ⟨hPwc20, hPwc21, hPwc22, hPwc23, hPwc24, hPwc25⟩ := zC6 hPwc2
 obtain ⟨hQwc20, hQwc21, hQwc22, hQwc23⟩ := zC4 hQwc2
 have spwc2 := sp0
 have fpwc2 := fp0
 go_wp2_with (first
  | ((with_reducible refine at_append ?_); refine wpList_append_sl (wc2.alloc (.cells #[.int .u8 ((2 * nr2 : Nat) : Int)] 5)) rfl _ _ 22 rfl w2.heap.size 5 i0 (.int .u8 0) 1 Tryd.underlying22 hi hz0 hz1' hz2' rfl (.slice (some ⟨w2.heap.size, 0, none⟩) 1 1) 1 _ rfl (ot2.alloc (.cells #[.int .u8 ((2 * nr2 : Nat) : Int)] 5)) (wc2.alloc (.cells #[.int .u8 ((2 * nr2 : Nat) : Int)] 5)).heap.size .u8 (some ⟨wc2.heap.size, 0, none⟩) 1 1 [((2 * nr2 : Nat) : Int)] rfl (SlI.of_lit (w := wc2) (T := 5) (cs := #[.int .u8 ((2 * nr2 : Nat) : Int)]) rfl rfl (by omega)) (by unfold maxLen; omega) (by omega) (by rw [World.size_alloc]; omega) ?_; intro va3 wa3 oa3 hgr hlies; have spwa3 := (spwc2.alloc (.cells #[.int .u8 ((2 * nr2 : Nat) : Int)] 5)).grown hgr fpwc2; have fpwa3 := fpwc2.next (spwc2.alloc (.cells #[.int .u8 ((2 * nr2 : Nat) : Int)] 5)) (by omega) hlies; have Bwa3 : Below w2.heap.size w2 wa3 := (Bwc2.alloc Zwc2 (.cells #[.int .u8 ((2 * nr2 : Nat) : Int)] 5)).grown hgr (by rw [World.size_alloc]; omega) (fun j hj => (ot2.lt j hj).1); have Zwa3 := Bwa3.size; have hPwa3 := hP0.below Bwa3 hP0.lt; have lhPwa3 := hPwa3.lt; have hQwa3 := hQ0.below Bwa3 hQ0.lt; have lhQwa3 := hQwa3.lt; have hPwa30 : wa3.cell? ⟨w.heap.size, 0, none⟩ = some (.int .i64 4) := hPwa3.cell 0; have hPwa31 : wa3.cell? ⟨w.heap.size, 1, none⟩ = some (.int .i64 addr) := hPwa3.cell 1; have hPwa32 : wa3.cell? ⟨w.heap.size, 2, none⟩ = some (.int .i64 count) := hPwa3.cell 2; have hPwa33 : wa3.cell? ⟨w.heap.size, 3, none⟩ = some (.int .i64 to) := hPwa3.cell 3; have hPwa34 : wa3.cell? ⟨w.heap.size, 4, none⟩ = some (.slice A nb cb) := hPwa3.cell 4; have hPwa35 : wa3.cell? ⟨w.heap.size, 5, none⟩ = some (.slice R nr cr) := hPwa3.cell 5; have hQwa30 : wa3.cell? ⟨(w.heap.size + 1), 0, none⟩ = some (.int .i64 4) := hQwa3.cell 0; have hQwa31 : wa3.cell? ⟨(w.heap.size + 1), 1, none⟩ = some (.int .i64 0) := hQwa3.cell 1; have hQwa32 : wa3.cell? ⟨(w.heap.size + 1), 2, none⟩ = some (.slice A2 0 cb2) := hQwa3.cell 2; have hQwa33 : wa3.cell? ⟨(w.heap.size + 1), 3, none⟩ = some (.slice R2 nr2 cr2) := hQwa3.cell 3; rw [← List.map_append] at oa3; have Ooa3 := Lib.hid oa3; clear hgr hlies)
  | ((with_reducible refine at_append ?_); refine wpList_append_sl wa3 rfl _ _ 22 rfl w2.heap.size 5 i0 (.int .u8 0) 1 Tryd.underlying22 hi hz0 hz1' hz2' rfl va3 (1 + 1) _ rfl oa3 wa3.heap.size .u8 Ap (2 * nr2) cp (twosI regs2) rfl spwa3 (by unfold maxLen; omega) (by omega) Zwa3 ?_; intro va4 wa4 oa4 hgr hlies; have spwa4 := spwa3.grown hgr fpwa3; have fpwa4 := fpwa3.next spwa3 (by omega) hlies; have Bwa4 : Below w2.heap.size w2 wa4 := Bwa3.grown hgr Zwa3 (fun j hj => (oa3.lt j hj).1); have Zwa4 := Bwa4.size; have hPwa4 := hP0.below Bwa4 hP0.lt; have lhPwa4 := hPwa4.lt; have hQwa4 := hQ0.below Bwa4 hQ0.lt; have lhQwa4 := hQwa4.lt; have hPwa40 : wa4.cell? ⟨w.heap.size, 0, none⟩ = some (.int .i64 4) := hPwa4.cell 0; have hPwa41 : wa4.cell? ⟨w.heap.size, 1, none⟩ = some (.int .i64 addr) := hPwa4.cell 1; have hPwa42 : wa4.cell? ⟨w.heap.size, 2, none⟩ = some (.int .i64 count) := hPwa4.cell 2; have hPwa43 : wa4.cell? ⟨w.heap.size, 3, none⟩ = some (.int .i64 to) := hPwa4.cell 3; have hPwa44 : wa4.cell? ⟨w.heap.size, 4, none⟩ = some (.slice A nb cb) := hPwa4.cell 4; have hPwa45 : wa4.cell? ⟨w.heap.size, 5, none⟩ = some (.slice R nr cr) := hPwa4.cell 5; have hQwa40 : wa4.cell? ⟨(w.heap.size + 1), 0, none⟩ = some (.int .i64 4) := hQwa4.cell 0; have hQwa41 : wa4.cell? ⟨(w.heap.size + 1), 1, none⟩ = some (.int .i64 0) := hQwa4.cell 1; have hQwa42 : wa4.cell? ⟨(w.heap.size + 1), 2, none⟩ = some (.slice A2 0 cb2) := hQwa4.cell 2; have hQwa43 : wa4.cell? ⟨(w.heap.size + 1), 3, none⟩ = some (.slice R2 nr2 cr2) := hQwa4.cell 3; rw [← List.map_append] at oa4; have Ooa4 := Lib.hid oa4; clear hgr hlies))
 go_ret2
 exact ans_some (by rw [HN.out, if_neg (by have := B1.out; have := B2.out; omega)]; simp) oa4 (hb2w.trans (Bwa4.mono hb2w.size))
theorem ra_may (fn addr count to : Int) (bits : List Bool) (regs : List Int) (A : Option Addr) (nb cb : Nat) (R : Option Addr) (nr cr : Nat) (rfn code : Int) (bits2 : List Bool) (regs2 : List Int) (A2 : Option Addr) (nb2 cb2 : Nat) (R2 : Option Addr) (nr2 cr2 : Nat) (w : World) (hA : SlB w w.heap.size A nb cb bits) (hR : SlI w w.heap.size .u16 R nr cr regs) (hA2 : SlB w w.heap.size A2 nb2 cb2 bits2) (hR2 : SlI w w.heap.size .u16 R2 nr2 cr2 regs2) (o : Option (List Int)) (hm : mayP ⟨fn, addr, count, to, bits, regs⟩ = false) (hn : o = none) : Calls Tryd.prog 87 #[.agg #[.int .i64 fn, .int .i64 addr, .int .i64 count, .int .i64 to, .slice A nb cb, .slice R nr cr], .agg #[.int .i64 rfn, .int .i64 code, .slice A2 nb2 cb2, .slice R2 nr2 cr2]] w (AnsPost w o) := by
 obtain ⟨w1, hw1⟩ : ∃ w1, (w.alloc (.cells #[.int .i64 fn, .int .i64 addr, .int .i64 count, .int .i64 to, .slice A nb cb, .slice R nr cr] 59)).alloc (.cells #[.int .i64 rfn, .int .i64 code, .slice A2 nb2 cb2, .slice R2 nr2 cr2] 68) = w1 := ⟨_, rfl⟩
 have hb1 := zB2 hw1
 have hz1 : w1.heap.size = w.heap.size + 2 := by rw [← hw1]; simp
 have hP1 : Held w1 w.heap.size 59 #[.int .i64 fn, .int .i64 addr, .int .i64 count, .int .i64 to, .slice A nb cb, .slice R nr cr] := by rw [← hw1]; exact (Held.new w _ _).alloc _
 have hQ1 : Held w1 (w.heap.size + 1) 68 #[.int .i64 rfn, .int .i64 code, .slice A2 nb2 cb2, .slice R2 nr2 cr2] := by rw [← hw1]; have := Held.new (w.alloc (.cells #[.int .i64 fn, .int .i64 addr, .int .i64 count, .int .i64 to, .slice A nb cb, .slice R nr cr] 59)) 68 #[.int .i64 rfn, .int .i64 code, .slice A2 nb2 cb2, .slice R2 nr2 cr2]; rw [World.size_alloc] at this; exact this
 have hu := Tryd.underlying59
 have hsz := zSz
 have hc := may_any (.agg #[.int .i64 fn, .int .i64 addr, .int .i64 count, .int .i64 to, .slice A nb cb, .slice R nr cr]) ⟨fn, addr, count, to, bits, regs⟩ w1 ⟨A, nb, cb, R, nr, cr, rfl, hA.up hb1, hR.up hb1⟩
 rw [hm] at hc
 have HC := Lib.hid hc
 clear hc
 have HN := Lib.hid hn
 clear hA hR hA2 hR2 hm hn
 go_in
 go_wp2_with ((with_reducible refine at_loadT 59 2 ?_); refine wpList_load_rowG rfl 59 (.tmp 2) rfl w.heap.size rfl 59 _ _ hP1 hu rfl hsz ?_)
 refine HC.out.mono ?_
 rintro e w2 ⟨rfl, hb2⟩
 have hz2 := hb2.size
 have hP2 := hP1.below hb2 hP1.lt
 have hQ2 := hQ1.below hb2 hQ1.lt
 have hlt2 := hP2.lt
 have hlq2 := hQ2.lt
 have hb2w := hb1.trans (hb2.mono (by omega))
 obtain ⟨ka0, ka1, ka2, ka3, ka4, ka5⟩ := zC6 hP2
 obtain ⟨kr0, kr1, kr2, kr3⟩ := zC4 hQ2
 go_wp2_with fail
 go_ret2
 exact ans_none HN.out hb2w
theorem ra_fn (fn addr count to : Int) (bits : List Bool) (regs : List Int) (A : Option Addr) (nb cb : Nat) (R : Option Addr) (nr cr : Nat) (rfn code : Int) (bits2 : List Bool) (regs2 : List Int) (A2 : Option Addr) (nb2 cb2 : Nat) (R2 : Option Addr) (nr2 cr2 : Nat) (w : World) (hA : SlB w w.heap.size A nb cb bits) (hR : SlI w w.heap.size .u16 R nr cr regs) (hA2 : SlB w w.heap.size A2 nb2 cb2 bits2) (hR2 : SlI w w.heap.size .u16 R2 nr2 cr2 regs2) (o : Option (List Int)) (hm : mayP ⟨fn, addr, count, to, bits, regs⟩ = true) (hne : rfn ≠ fn) (hn : o = none) : Calls Tryd.prog 87 #[.agg #[.int .i64 fn, .int .i64 addr, .int .i64 count, .int .i64 to, .slice A nb cb, .slice R nr cr], .agg #[.int .i64 rfn, .int .i64 code, .slice A2 nb2 cb2, .slice R2 nr2 cr2]] w (AnsPost w o) := by
 obtain ⟨w1, hw1⟩ : ∃ w1, (w.alloc (.cells #[.int .i64 fn, .int .i64 addr, .int .i64 count, .int .i64 to, .slice A nb cb, .slice R nr cr] 59)).alloc (.cells #[.int .i64 rfn, .int .i64 code, .slice A2 nb2 cb2, .slice R2 nr2 cr2] 68) = w1 := ⟨_, rfl⟩
 have hb1 := zB2 hw1
 have hz1 : w1.heap.size = w.heap.size + 2 := by rw [← hw1]; simp
 have hP1 : Held w1 w.heap.size 59 #[.int .i64 fn, .int .i64 addr, .int .i64 count, .int .i64 to, .slice A nb cb, .slice R nr cr] := by rw [← hw1]; exact (Held.new w _ _).alloc _
 have hQ1 : Held w1 (w.heap.size + 1) 68 #[.int .i64 rfn, .int .i64 code, .slice A2 nb2 cb2, .slice R2 nr2 cr2] := by rw [← hw1]; have := Held.new (w.alloc (.cells #[.int .i64 fn, .int .i64 addr, .int .i64 count, .int .i64 to, .slice A nb cb, .slice R nr cr] 59)) 68 #[.int .i64 rfn, .int .i64 code, .slice A2 nb2 cb2, .slice R2 nr2 cr2]; rw [World.size_alloc] at this; exact this
 have hu := Tryd.underlying59
 have hsz := zSz
 have hc := may_any (.agg #[.int .i64 fn, .int .i64 addr, .int .i64 count, .int .i64 to, .slice A nb cb, .slice R nr cr]) ⟨fn, addr, count, to, bits, regs⟩ w1 ⟨A, nb, cb, R, nr, cr, rfl, hA.up hb1, hR.up hb1⟩
 rw [hm] at hc
 have HC := Lib.hid hc
 clear hc
 have HN := Lib.hid hn
 have hne2 : (rfn != fn) = true := by simpa using hne
 clear hA hR hA2 hR2 hm hn hne
 go_in
 go_wp2_with ((with_reducible refine at_loadT 59 2 ?_); refine wpList_load_rowG rfl 59 (.tmp 2) rfl w.heap.size rfl 59 _ _ hP1 hu rfl hsz ?_)
 refine HC.out.mono ?_
 rintro e w2 ⟨rfl, hb2⟩
 have hz2 := hb2.size
 have hP2 := hP1.below hb2 hP1.lt
 have hQ2 := hQ1.below hb2 hQ1.lt
 have hlt2 := hP2.lt
 have hlq2 := hQ2.lt
 have hb2w := hb1.trans (hb2.mono (by omega))
 obtain ⟨ka0, ka1, ka2, ka3, ka4, ka5⟩ := zC6 hP2
 obtain ⟨kr0, kr1, kr2, kr3⟩ := zC4 hQ2
 go_wp2_with fail
 go_ret2
 exact ans_none HN.out hb2w
theorem ra_coden (fn addr count to : Int) (bits : List Bool) (regs : List Int) (A : Option Addr) (nb cb : Nat) (R : Option Addr) (nr cr : Nat) (rfn code : Int) (bits2 : List Bool) (regs2 : List Int) (A2 : Option Addr) (nb2 cb2 : Nat) (R2 : Option Addr) (nr2 cr2 : Nat) (w : World) (hA : SlB w w.heap.size A nb cb bits) (hR : SlI w w.heap.size .u16 R nr cr regs) (hA2 : SlB w w.heap.size A2 nb2 cb2 bits2) (hR2 : SlI w w.heap.size .u16 R2 nr2 cr2 regs2) (o : Option (List Int)) (hm : mayP ⟨fn, addr, count, to, bits, regs⟩ = true) (hq : rfn = fn) (hf : 1 ≤ fn ∧ fn ≤ 23) (hn : o = if code < 1 ∨ 11 < code ∨ 0 < nb2 + nr2 then none else some [fn + 128, code]) (h1 : code < 0) : Calls Tryd.prog 87 #[.agg #[.int .i64 fn, .int .i64 addr, .int .i64 count, .int .i64 to, .slice A nb cb, .slice R nr cr], .agg #[.int .i64 rfn, .int .i64 code, .slice A2 nb2 cb2, .slice R2 nr2 cr2]] w (AnsPost w o) := by
 subst hq
 obtain ⟨w1, hw1⟩ : ∃ w1, (w.alloc (.cells #[.int .i64 rfn, .int .i64 addr, .int .i64 count, .int .i64 to, .slice A nb cb, .slice R nr cr] 59)).alloc (.cells #[.int .i64 rfn, .int .i64 code, .slice A2 nb2 cb2, .slice R2 nr2 cr2] 68) = w1 := ⟨_, rfl⟩
 have hb1 := zB2 hw1
 have hz1 : w1.heap.size = w.heap.size + 2 := by rw [← hw1]; simp
 have hP1 : Held w1 w.heap.size 59 #[.int .i64 rfn, .int .i64 addr, .int .i64 count, .int .i64 to, .slice A nb cb, .slice R nr cr] := by rw [← hw1]; exact (Held.new w _ _).alloc _
 have hQ1 : Held w1 (w.heap.size + 1) 68 #[.int .i64 rfn, .int .i64 code, .slice A2 nb2 cb2, .slice R2 nr2 cr2] := by rw [← hw1]; have := Held.new (w.alloc (.cells #[.int .i64 rfn, .int .i64 addr, .int .i64 count, .int .i64 to, .slice A nb cb, .slice R nr cr] 59)) 68 #[.int .i64 rfn, .int .i64 code, .slice A2 nb2 cb2, .slice R2 nr2 cr2]; rw [World.size_alloc] at this; exact this
 have hu := Tryd.underlying59
 have hsz := zSz
 have hc := may_any (.agg #[.int .i64 rfn, .int .i64 addr, .int .i64 count, .int .i64 to, .slice A nb cb, .slice R nr cr]) ⟨rfn, addr, count, to, bits, regs⟩ w1 ⟨A, nb, cb, R, nr, cr, rfl, hA.up hb1, hR.up hb1⟩
 rw [hm] at hc
 have HC := Lib.hid hc
 clear hc
 have hne2 : (rfn != rfn) = false := by simp
 have HN := Lib.hid hn
 clear hA hR hA2 hR2 hm hn
 go_in
 go_wp2_with ((with_reducible refine at_loadT 59 2 ?_); refine wpList_load_rowG rfl 59 (.tmp 2) rfl w.heap.size rfl 59 _ _ hP1 hu rfl hsz ?_)
 refine HC.out.mono ?_
 rintro e w2 ⟨rfl, hb2⟩
 have hz2 := hb2.size
 have hP2 := hP1.below hb2 hP1.lt
 have hQ2 := hQ1.below hb2 hQ1.lt
 have hlt2 := hP2.lt
 have hlq2 := hQ2.lt
 have hb2w := hb1.trans (hb2.mono (by omega))
 obtain ⟨ka0, ka1, ka2, ka3, ka4, ka5⟩ := zC6 hP2
 obtain ⟨kr0, kr1, kr2, kr3⟩ := zC4 hQ2
 go_wp2_with fail
 go_ret2
 exact ans_none (by rw [HN.out, if_pos (by omega)]) hb2w
theorem ra_codeg (fn addr count to : Int) (bits : List Bool) (regs : List Int) (A : Option Addr) (nb cb : Nat) (R : Option Addr) (nr cr : Nat) (rfn code : Int) (bits2 : List Bool) (regs2 : List Int) (A2 : Option Addr) (nb2 cb2 : Nat) (R2 : Option Addr) (nr2 cr2 : Nat) (w : World) (hA : SlB w w.heap.size A nb cb bits) (hR : SlI w w.heap.size .u16 R nr cr regs) (hA2 : SlB w w.heap.size A2 nb2 cb2 bits2) (hR2 : SlI w w.heap.size .u16 R2 nr2 cr2 regs2) (o : Option (List Int)) (hm : mayP ⟨fn, addr, count, to, bits, regs⟩ = true) (hq : rfn = fn) (hf : 1 ≤ fn ∧ fn ≤ 23) (hn : o = if code < 1 ∨ 11 < code ∨ 0 < nb2 + nr2 then none else some [fn + 128, code]) (h1 : 11 < code) : Calls Tryd.prog 87 #[.agg #[.int .i64 fn, .int .i64 addr, .int .i64 count, .int .i64 to, .slice A nb cb, .slice R nr cr], .agg #[.int .i64 rfn, .int .i64 code, .slice A2 nb2 cb2, .slice R2 nr2 cr2]] w (AnsPost w o) := by
 subst hq
 obtain ⟨w1, hw1⟩ : ∃ w1, (w.alloc (.cells #[.int .i64 rfn, .int .i64 addr, .int .i64 count, .int .i64 to, .slice A nb cb, .slice R nr cr] 59)).alloc (.cells #[.int .i64 rfn, .int .i64 code, .slice A2 nb2 cb2, .slice R2 nr2 cr2] 68) = w1 := ⟨_, rfl⟩
 have hb1 := zB2 hw1
 have hz1 : w1.heap.size = w.heap.size + 2 := by rw [← hw1]; simp
 have hP1 : Held w1 w.heap.size 59 #[.int .i64 rfn, .int .i64 addr, .int .i64 count, .int .i64 to, .slice A nb cb, .slice R nr cr] := by rw [← hw1]; exact (Held.new w _ _).alloc _
 have hQ1 : Held w1 (w.heap.size + 1) 68 #[.int .i64 rfn, .int .i64 code, .slice A2 nb2 cb2, .slice R2 nr2 cr2] := by rw [← hw1]; have := Held.new (w.alloc (.cells #[.int .i64 rfn, .int .i64 addr, .int .i64 count, .int .i64 to, .slice A nb cb, .slice R nr cr] 59)) 68 #[.int .i64 rfn, .int .i64 code, .slice A2 nb2 cb2, .slice R2 nr2 cr2]; rw [World.size_alloc] at this; exact this
 have hu := Tryd.underlying59
 have hsz := zSz
 have hc := may_any (.agg #[.int .i64 rfn, .int .i64 addr, .int .i64 count, .int .i64 to, .slice A nb cb, .slice R nr cr]) ⟨rfn, addr, count, to, bits, regs⟩ w1 ⟨A, nb, cb, R, nr, cr, rfl, hA.up hb1, hR.up hb1⟩
 rw [hm] at hc
 have HC := Lib.hid hc
 clear hc
 have hne2 : (rfn != rfn) = false := by simp
 have HN := Lib.hid hn
 clear hA hR hA2 hR2 hm hn
 have h2 : ¬ code < 0 := by omega
 go_in
 go_wp2_with ((with_reducible refine at_loadT 59 2 ?_); refine wpList_load_rowG rfl 59 (.tmp 2) rfl w.heap.size rfl 59 _ _ hP1 hu rfl hsz ?_)
 refine HC.out.mono ?_
 rintro e w2 ⟨rfl, hb2⟩
 have hz2 := hb2.size
 have hP2 := hP1.below hb2 hP1.lt
 have hQ2 := hQ1.below hb2 hQ1.lt
 have hlt2 := hP2.lt
 have hlq2 := hQ2.lt
 have hb2w := hb1.trans (hb2.mono (by omega))
 obtain ⟨ka0, ka1, ka2, ka3, ka4, ka5⟩ := zC6 hP2
 obtain ⟨kr0, kr1, kr2, kr3⟩ := zC4 hQ2
 go_wp2_with fail
 go_ret2
 exact ans_none (by rw [HN.out, if_pos (by omega)]) hb2w
theorem ra_codeb (fn addr count to : Int) (bits : List Bool) (regs : List Int) (A : Option Addr) (nb cb : Nat) (R : Option Addr) (nr cr : Nat) (rfn code : Int) (bits2 : List Bool) (regs2 : List Int) (A2 : Option Addr) (nb2 cb2 : Nat) (R2 : Option Addr) (nr2 cr2 : Nat) (w : World) (hA : SlB w w.heap.size A nb cb bits) (hR : SlI w w.heap.size .u16 R nr cr regs) (hA2 : SlB w w.heap.size A2 nb2 cb2 bits2) (hR2 : SlI w w.heap.size .u16 R2 nr2 cr2 regs2) (o : Option (List Int)) (hm : mayP ⟨fn, addr, count, to, bits, regs⟩ = true) (hq : rfn = fn) (hf : 1 ≤ fn ∧ fn ≤ 23) (hn : o = if code < 1 ∨ 11 < code ∨ 0 < nb2 + nr2 then none else some [fn + 128, code]) (h1 : 1 ≤ code) (h2 : code ≤ 11) (h3 : 0 < nb2) : Calls Tryd.prog 87 #[.agg #[.int .i64 fn, .int .i64 addr, .int .i64 count, .int .i64 to, .slice A nb cb, .slice R nr cr], .agg #[.int .i64 rfn, .int .i64 code, .slice A2 nb2 cb2, .slice R2 nr2 cr2]] w (AnsPost w o) := by
 subst hq
 obtain ⟨w1, hw1⟩ : ∃ w1, (w.alloc (.cells #[.int .i64 rfn, .int .i64 addr, .int .i64 count, .int .i64 to, .slice A nb cb, .slice R nr cr] 59)).alloc (.cells #[.int .i64 rfn, .int .i64 code, .slice A2 nb2 cb2, .slice R2 nr2 cr2] 68) = w1 := ⟨_, rfl⟩
 have hb1 := zB2 hw1
 have hz1 : w1.heap.size = w.heap.size + 2 := by rw [← hw1]; simp
 have hP1 : Held w1 w.heap.size 59 #[.int .i64 rfn, .int .i64 addr, .int .i64 count, .int .i64 to, .slice A nb cb, .slice R nr cr] := by rw [← hw1]; exact (Held.new w _ _).alloc _
 have hQ1 : Held w1 (w.heap.size + 1) 68 #[.int .i64 rfn, .int .i64 code, .slice A2 nb2 cb2, .slice R2 nr2 cr2] := by rw [← hw1]; have := Held.new (w.alloc (.cells #[.int .i64 rfn, .int .i64 addr, .int .i64 count, .int .i64 to, .slice A nb cb, .slice R nr cr] 59)) 68 #[.int .i64 rfn, .int .i64 code, .slice A2 nb2 cb2, .slice R2 nr2 cr2]; rw [World.size_alloc] at this; exact this
 have hu := Tryd.underlying59
 have hsz := zSz
 have hc := may_any (.agg #[.int .i64 rfn, .int .i64 addr, .int .i64 count, .int .i64 to, .slice A nb cb, .slice R nr cr]) ⟨rfn, addr, count, to, bits, regs⟩ w1 ⟨A, nb, cb, R, nr, cr, rfl, hA.up hb1, hR.up hb1⟩
 rw [hm] at hc
 have HC := Lib.hid hc
 clear hc
 have hne2 : (rfn != rfn) = false := by simp
 have HN := Lib.hid hn
 clear hA hR hA2 hR2 hm hn
 have h4 : (0 : Int) < (nb2 : Int) := by omega
 go_in
 go_wp2_with ((with_reducible refine at_loadT 59 2 ?_); refine wpList_load_rowG rfl 59 (.tmp 2) rfl w.heap.size rfl 59 _ _ hP1 hu rfl hsz ?_)
 refine HC.out.mono ?_
 rintro e w2 ⟨rfl, hb2⟩
 have hz2 := hb2.size
 have hP2 := hP1.below hb2 hP1.lt
 have hQ2 := hQ1.below hb2 hQ1.lt
 have hlt2 := hP2.lt
 have hlq2 := hQ2.lt
 have hb2w := hb1.trans (hb2.mono (by omega))
 obtain ⟨ka0, ka1, ka2, ka3, ka4, ka5⟩ := zC6 hP2
 obtain ⟨kr0, kr1, kr2, kr3⟩ := zC4 hQ2
 go_wp2_with fail
 go_ret2
 exact ans_none (by rw [HN.out, if_pos (by omega)]) hb2w
theorem ra_coder (fn addr count to : Int) (bits : List Bool) (regs : List Int) (A : Option Addr) (nb cb : Nat) (R : Option Addr) (nr cr : Nat) (rfn code : Int) (bits2 : List Bool) (regs2 : List Int) (A2 : Option Addr) (nb2 cb2 : Nat) (R2 : Option Addr) (nr2 cr2 : Nat) (w : World) (hA : SlB w w.heap.size A nb cb bits) (hR : SlI w w.heap.size .u16 R nr cr regs) (hA2 : SlB w w.heap.size A2 nb2 cb2 bits2) (hR2 : SlI w w.heap.size .u16 R2 nr2 cr2 regs2) (o : Option (List Int)) (hm : mayP ⟨fn, addr, count, to, bits, regs⟩ = true) (hq : rfn = fn) (hf : 1 ≤ fn ∧ fn ≤ 23) (hn : o = if code < 1 ∨ 11 < code ∨ 0 < nb2 + nr2 then none else some [fn + 128, code]) (h1 : 1 ≤ code) (h2 : code ≤ 11) (h3 : nb2 = 0) (h5 : 0 < nr2) : Calls Tryd.prog 87 #[.agg #[.int .i64 fn, .int .i64 addr, .int .i64 count, .int .i64 to, .slice A nb cb, .slice R nr cr], .agg #[.int .i64 rfn, .int .i64 code, .slice A2 nb2 cb2, .slice R2 nr2 cr2]] w (AnsPost w o) := by
 subst hq
 subst h3
 obtain ⟨w1, hw1⟩ : ∃ w1, (w.alloc (.cells #[.int .i64 rfn, .int .i64 addr, .int .i64 count, .int .i64 to, .slice A nb cb, .slice R nr cr] 59)).alloc (.cells #[.int .i64 rfn, .int .i64 code, .slice A2 0 cb2, .slice R2 nr2 cr2] 68) = w1 := ⟨_, rfl⟩
 have hb1 := zB2 hw1
 have hz1 : w1.heap.size = w.heap.size + 2 := by rw [← hw1]; simp
 have hP1 : Held w1 w.heap.size 59 #[.int .i64 rfn, .int .i64 addr, .int .i64 count, .int .i64 to, .slice A nb cb, .slice R nr cr] := by rw [← hw1]; exact (Held.new w _ _).alloc _
 have hQ1 : Held w1 (w.heap.size + 1) 68 #[.int .i64 rfn, .int .i64 code, .slice A2 0 cb2, .slice R2 nr2 cr2] := by rw [← hw1]; have := Held.new (w.alloc (.cells #[.int .i64 rfn, .int .i64 addr, .int .i64 count, .int .i64 to, .slice A nb cb, .slice R nr cr] 59)) 68 #[.int .i64 rfn, .int .i64 code, .slice A2 0 cb2, .slice R2 nr2 cr2]; rw [World.size_alloc] at this; exact this
 have hu := Tryd.underlying59
 have hsz := zSz
 have hc := may_any (.agg #[.int .i64 rfn, .int .i64 addr, .int .i64 count, .int .i64 to, .slice A nb cb, .slice R nr cr]) ⟨rfn, addr, count, to, bits, regs⟩ w1 ⟨A, nb, cb, R, nr, cr, rfl, hA.up hb1, hR.up hb1⟩
 rw [hm] at hc
 have HC := Lib.hid hc
 clear hc
 have hne2 : (rfn != rfn) = false := by simp
 have HN := Lib.hid hn
 clear hA hR hA2 hR2 hm hn
 have h4 : (0 : Int) < (nr2 : Int) := by omega
 go_in
 go_wp2_with ((with_reducible refine at_loadT 59 2 ?_); refine wpList_load_rowG rfl 59 (.tmp 2) rfl w.heap.size rfl 59 _ _ hP1 hu rfl hsz ?_)
 refine HC.out.mono ?_
 rintro e w2 ⟨rfl, hb2⟩
 have hz2 := hb2.size
 have hP2 := hP1.below hb2 hP1.lt
 have hQ2 := hQ1.below hb2 hQ1.lt
 have hlt2 := hP2.lt
 have hlq2 := hQ2.lt
 have hb2w := hb1.trans (hb2.mono (by omega))
 obtain ⟨ka0, ka1, ka2, ka3, ka4, ka5⟩ := zC6 hP2
 obtain ⟨kr0, kr1, kr2, kr3⟩ := zC4 hQ2
 go_wp2_with fail
 go_ret2
 exact ans_none (by rw [HN.out, if_pos (by omega)]) hb2w
theorem ra_codey (fn addr count to : Int) (bits : List Bool) (regs : List Int) (A : Option Addr) (nb cb : Nat) (R : Option Addr) (nr cr : Nat) (rfn code : Int) (bits2 : List Bool) (regs2 : List Int) (A2 : Option Addr) (nb2 cb2 : Nat) (R2 : Option Addr) (nr2 cr2 : Nat) (w : World) (hA : SlB w w.heap.size A nb cb bits) (hR : SlI w w.heap.size .u16 R nr cr regs) (hA2 : SlB w w.heap.size A2 nb2 cb2 bits2) (hR2 : SlI w w.heap.size .u16 R2 nr2 cr2 regs2) (o : Option (List Int)) (hm : mayP ⟨fn, addr, count, to, bits, regs⟩ = true) (hq : rfn = fn) (hf : 1 ≤ fn ∧ fn ≤ 23) (hn : o = if code < 1 ∨ 11 < code ∨ 0 < nb2 + nr2 then none else some [fn + 128, code]) (h1 : 1 ≤ code) (h2 : code ≤ 11) (h3 : nb2 = 0) (h5 : nr2 = 0) : Calls Tryd.prog 87 #[.agg #[.int .i64 fn, .int .i64 addr, .int .i64 count, .int .i64 to, .slice A nb cb, .slice R nr cr], .agg #[.int .i64 rfn, .int .i64 code, .slice A2 nb2 cb2, .slice R2 nr2 cr2]] w (AnsPost w o) := by
 subst hq
 subst h3 h5
 obtain ⟨w1, hw1⟩ : ∃ w1, (w.alloc (.cells #[.int .i64 rfn, .int .i64 addr, .int .i64 count, .int .i64 to, .slice A nb cb, .slice R nr cr] 59)).alloc (.cells #[.int .i64 rfn, .int .i64 code, .slice A2 0 cb2, .slice R2 0 cr2] 68) = w1 := ⟨_, rfl⟩
 have hb1 := zB2 hw1
 have hz1 : w1.heap.size = w.heap.size + 2 := by rw [← hw1]; simp
 have hP1 : Held w1 w.heap.size 59 #[.int .i64 rfn, .int .i64 addr, .int .i64 count, .int .i64 to, .slice A nb cb, .slice R nr cr] := by rw [← hw1]; exact (Held.new w _ _).alloc _
 have hQ1 : Held w1 (w.heap.size + 1) 68 #[.int .i64 rfn, .int .i64 code, .slice A2 0 cb2, .slice R2 0 cr2] := by rw [← hw1]; have := Held.new (w.alloc (.cells #[.int .i64 rfn, .int .i64 addr, .int .i64 count, .int .i64 to, .slice A nb cb, .slice R nr cr] 59)) 68 #[.int .i64 rfn, .int .i64 code, .slice A2 0 cb2, .slice R2 0 cr2]; rw [World.size_alloc] at this; exact this
 have hu := Tryd.underlying59
 have hsz := zSz
 have hc := may_any (.agg #[.int .i64 rfn, .int .i64 addr, .int .i64 count, .int .i64 to, .slice A nb cb, .slice R nr cr]) ⟨rfn, addr, count, to, bits, regs⟩ w1 ⟨A, nb, cb, R, nr, cr, rfl, hA.up hb1, hR.up hb1⟩
 rw [hm] at hc
 have HC := Lib.hid hc
 clear hc
 have hne2 : (rfn != rfn) = false := by simp
 have HN := Lib.hid hn
 clear hA hR hA2 hR2 hm hn
 have m1 : (rfn + 128) % 256 = rfn + 128 := by omega
 have m2 : code % 256 = code := by omega
 go_in
 go_wp2_with ((with_reducible refine at_loadT 59 2 ?_); refine wpList_load_rowG rfl 59 (.tmp 2) rfl w.heap.size rfl 59 _ _ hP1 hu rfl hsz ?_)
 refine HC.out.mono ?_
 rintro e w2 ⟨rfl, hb2⟩
 have hz2 := hb2.size
 have hP2 := hP1.below hb2 hP1.lt
 have hQ2 := hQ1.below hb2 hQ1.lt
 have hlt2 := hP2.lt
 have hlq2 := hQ2.lt
 have hb2w := hb1.trans (hb2.mono (by omega))
 obtain ⟨ka0, ka1, ka2, ka3, ka4, ka5⟩ := zC6 hP2
 obtain ⟨kr0, kr1, kr2, kr3⟩ := zC4 hQ2
 have hs : SlI (w2.alloc (.cells #[.int .u8 (rfn + 128), .int .u8 code] 5)) (w2.alloc (.cells #[.int .u8 (rfn + 128), .int .u8 code] 5)).heap.size .u8 (some ⟨w2.heap.size, 0, none⟩) 2 2 [rfn + 128, code] := SlI.of_lit rfl rfl (by omega)
 have HS := Lib.hid hs
 clear hs
 go_wp2_with fail
 go_ret2
 exact ans_sl (by rw [HN.out, if_neg (by omega)]) HS.out (hb2w.alloc hb2w.size _)
theorem answer_ref (u v : Value) (a : AskP) (r : RepP) (w : World) (hu : AskAt w u a) (hv : RepAt w v r) (hy : Reg16 a.regs) (hy2 : Reg16 r.regs) (h34 : a.fn = 3 ∨ a.fn = 4) :
  Calls Tryd.prog 87 #[u, v] w (AnsPost w (answerP a r)) := by
 obtain ⟨A, nb, cb, R, nr, cr, rfl, hA, hR⟩ := hu
 obtain ⟨A2, nb2, cb2, R2, nr2, cr2, rfl, hA2, hR2⟩ := hv
 obtain ⟨fn, addr, count, to, bits, regs⟩ := a
 obtain ⟨rfn, code, bits2, regs2⟩ := r
 obtain rfl : bits.length = nb := hA.1
 obtain rfl : regs.length = nr := hR.1
 obtain rfl : bits2.length = nb2 := hA2.1
 obtain rfl : regs2.length = nr2 := hR2.1
 dsimp only at hA hR hA2 hR2 hy hy2 h34 ⊢
 cases hm : mayP ⟨fn, addr, count, to, bits, regs⟩ with
 | false => exact ra_may fn addr count to bits regs A _ cb R _ cr rfn code bits2 regs2 A2 _ cb2 R2 _ cr2 w hA hR hA2 hR2 _ hm (by unfold answerP; rw [if_pos (.inl hm)])
 | true =>
  by_cases hq : rfn = fn
  ·obtain ⟨⟨ha, ht⟩, hc⟩ := may_cases _ hm
   have h23 := (read_bytes _ hm).2.2.2.2
   simp only at hc ha ht h23
   by_cases hz : code = 0
   ·subst hz
    subst hq
    rcases hc with ⟨e, hn, _⟩ | ⟨e, hn, _⟩ | ⟨e, hn, ⟨b, hb⟩, hb2, _⟩ | ⟨e, hn, hb, ⟨x, hr⟩, _⟩ | ⟨e, hn, hb, hb2, _⟩ | ⟨e, hn, hb, hb2, _⟩ | ⟨e, hn, hb, hb2⟩
    ·exfalso; omega
    ·rename_i hh
     rcases e with e | e
     ·skip
      subst e
      by_cases b1 : (bits2.length : Int) = 0
      ·by_cases b2 : (regs2.length : Int) = count
       ·exact ra_3c 3 addr count to bits regs A _ cb R _ cr 3 0 bits2 regs2 A2 _ cb2 R2 _ cr2 w hA hR hA2 hR2 _ hm rfl rfl rfl hy hy2 ha (by rw [hh.1]; simp) (by rw [hh.2.1]; simp) (by omega) (ansP_3 addr count to bits regs bits2 regs2 hm) b1 b2
       ·exact ra_3b 3 addr count to bits regs A _ cb R _ cr 3 0 bits2 regs2 A2 _ cb2 R2 _ cr2 w hA hR hA2 hR2 _ hm rfl rfl rfl hy hy2 ha (by rw [hh.1]; simp) (by rw [hh.2.1]; simp) (by omega) (ansP_3 addr count to bits regs bits2 regs2 hm) b1 b2
      ·exact ra_3a 3 addr count to bits regs A _ cb R _ cr 3 0 bits2 regs2 A2 _ cb2 R2 _ cr2 w hA hR hA2 hR2 _ hm rfl rfl rfl hy hy2 ha (by rw [hh.1]; simp) (by rw [hh.2.1]; simp) (by omega) (ansP_3 addr count to bits regs bits2 regs2 hm) b1
     ·skip
      subst e
      by_cases b1 : (bits2.length : Int) = 0
      ·by_cases b2 : (regs2.length : Int) = count
       ·exact ra_4c 4 addr count to bits regs A _ cb R _ cr 4 0 bits2 regs2 A2 _ cb2 R2 _ cr2 w hA hR hA2 hR2 _ hm rfl rfl rfl hy hy2 ha (by rw [hh.1]; simp) (by rw [hh.2.1]; simp) (by omega) (ansP_4 addr count to bits regs bits2 regs2 hm) b1 b2
       ·exact ra_4b 4 addr count to bits regs A _ cb R _ cr 4 0 bits2 regs2 A2 _ cb2 R2 _ cr2 w hA hR hA2 hR2 _ hm rfl rfl rfl hy hy2 ha (by rw [hh.1]; simp) (by rw [hh.2.1]; simp) (by omega) (ansP_4 addr count to bits regs bits2 regs2 hm) b1 b2
      ·exact ra_4a 4 addr count to bits regs A _ cb R _ cr 4 0 bits2 regs2 A2 _ cb2 R2 _ cr2 w hA hR hA2 hR2 _ hm rfl rfl rfl hy hy2 ha (by rw [hh.1]; simp) (by rw [hh.2.1]; simp) (by omega) (ansP_4 addr count to bits regs bits2 regs2 hm) b1
    ·exfalso; omega
    ·exfalso; omega
    ·exfalso; omega
    ·exfalso; omega
    ·exfalso; omega
   ·have hx : answerP ⟨fn, addr, count, to, bits, regs⟩ ⟨rfn, code, bits2, regs2⟩ = if code < 1 ∨ 11 < code ∨ 0 < bits2.length + regs2.length then none else some [fn + 128, code] := by
     unfold answerP
     rw [if_neg (by rw [hm]; simp [hq]), if_pos hz]
    by_cases c1 : code < 0
    ·exact ra_coden fn addr count to bits regs A _ cb R _ cr rfn code bits2 regs2 A2 _ cb2 R2 _ cr2 w hA hR hA2 hR2 _ hm hq h23 hx c1
    ·by_cases c2 : 11 < code
     ·exact ra_codeg fn addr count to bits regs A _ cb R _ cr rfn code bits2 regs2 A2 _ cb2 R2 _ cr2 w hA hR hA2 hR2 _ hm hq h23 hx c2
     ·by_cases c3 : 0 < bits2.length
      ·exact ra_codeb fn addr count to bits regs A _ cb R _ cr rfn code bits2 regs2 A2 _ cb2 R2 _ cr2 w hA hR hA2 hR2 _ hm hq h23 hx (by omega) (by omega) c3
      ·by_cases c4 : 0 < regs2.length
       ·exact ra_coder fn addr count to bits regs A _ cb R _ cr rfn code bits2 regs2 A2 _ cb2 R2 _ cr2 w hA hR hA2 hR2 _ hm hq h23 hx (by omega) (by omega) (by omega) c4
       ·exact ra_codey fn addr count to bits regs A _ cb R _ cr rfn code bits2 regs2 A2 _ cb2 R2 _ cr2 w hA hR hA2 hR2 _ hm hq h23 hx (by omega) (by omega) (by omega) (by omega)
  ·exact ra_fn fn addr count to bits regs A _ cb R _ cr rfn code bits2 regs2 A2 _ cb2 R2 _ cr2 w hA hR hA2 hR2 _ hm hq (by unfold answerP; rw [if_pos (.inr hq)])
end Go.Proofs.YtcipleanckeoaaaDoor
