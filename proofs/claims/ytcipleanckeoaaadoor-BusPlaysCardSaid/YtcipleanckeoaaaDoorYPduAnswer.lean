/- pdu.Answer: what the functions share. -/
import Derived.Test.YtcipleanckeoaaaDoorYTk
import Derived.Test.YtcipleanckeoaaaDoorYPduBytes
set_option maxRecDepth 100000
set_option maxHeartbeats 40000000
namespace Go.Proofs.YtcipleanckeoaaaDoor
open Go.RowKit
set_option linter.unusedVariables false
def AnsPost (w : World) (o : Option (List Int)) (e : Ending) (w' : World) : Prop := ∃ A n c, e = .returned (.tuple #[.slice A n c, .int .i64 (errV o.isSome)]) ∧ SlI w' w'.heap.size .u8 A n c (o.getD []) ∧ Below w.heap.size w w'
theorem ans_none {w w' : World} {o : Option (List Int)} (h : o = none) (hb : Below w.heap.size w w') : AnsPost w o (.returned (.tuple #[.slice none 0 0, .int .i64 190])) w' := by
 subst h
 exact ⟨none, 0, 0, rfl, SlI.nil _ _ _, hb⟩
theorem ans_some {w w' : World} {o : Option (List Int)} {base n : Nat} {v : Value} {xs : List Int} (h : o = some xs) (ho : w'.ownsRow base 5 1 v n (xs.map (Value.int .u8))) (hb : Below w.heap.size w w') : AnsPost w o (.returned (.tuple #[v, .int .i64 0])) w' := by
 subst h
 obtain ⟨A, c, rfl, hs⟩ := SlI.of_own ho
 exact ⟨A, n, c, rfl, hs, hb⟩
theorem ans_sl {w w' : World} {o : Option (List Int)} {n c : Nat} {A : Option Addr} {xs : List Int} (h : o = some xs) (hs : SlI w' w'.heap.size .u8 A n c xs) (hb : Below w.heap.size w w') : AnsPost w o (.returned (.tuple #[.slice A n c, .int .i64 0])) w' := by
 subst h
 exact ⟨A, n, c, rfl, hs, hb⟩
theorem ans_may (fn addr count to : Int) (bits : List Bool) (regs : List Int) (A : Option Addr) (nb cb : Nat) (R : Option Addr) (nr cr : Nat) (rfn code : Int) (bits2 : List Bool) (regs2 : List Int) (A2 : Option Addr) (nb2 cb2 : Nat) (R2 : Option Addr) (nr2 cr2 : Nat) (w : World) (hT : LimT w) (hA : SlB w w.heap.size A nb cb bits) (hR : SlI w w.heap.size .u16 R nr cr regs) (hA2 : SlB w w.heap.size A2 nb2 cb2 bits2) (hR2 : SlI w w.heap.size .u16 R2 nr2 cr2 regs2) (o : Option (List Int)) (hm : mayP ⟨fn, addr, count, to, bits, regs⟩ = false) (hn : o = none) : Calls Tryd.prog 70 #[.agg #[.int .i64 fn, .int .i64 addr, .int .i64 count, .int .i64 to, .slice A nb cb, .slice R nr cr], .agg #[.int .i64 rfn, .int .i64 code, .slice A2 nb2 cb2, .slice R2 nr2 cr2]] w (AnsPost w o) := by
 obtain ⟨w1, hw1⟩ : ∃ w1, (w.alloc (.cells #[.int .i64 fn, .int .i64 addr, .int .i64 count, .int .i64 to, .slice A nb cb, .slice R nr cr] 59)).alloc (.cells #[.int .i64 rfn, .int .i64 code, .slice A2 nb2 cb2, .slice R2 nr2 cr2] 68) = w1 := ⟨_, rfl⟩
 have hb1 := zB2 hw1
 have hz1 : w1.heap.size = w.heap.size + 2 := by rw [← hw1]; simp
 have hP1 : Held w1 w.heap.size 59 #[.int .i64 fn, .int .i64 addr, .int .i64 count, .int .i64 to, .slice A nb cb, .slice R nr cr] := by rw [← hw1]; exact (Held.new w _ _).alloc _
 have hQ1 : Held w1 (w.heap.size + 1) 68 #[.int .i64 rfn, .int .i64 code, .slice A2 nb2 cb2, .slice R2 nr2 cr2] := by rw [← hw1]; have := Held.new (w.alloc (.cells #[.int .i64 fn, .int .i64 addr, .int .i64 count, .int .i64 to, .slice A nb cb, .slice R nr cr] 59)) 68 #[.int .i64 rfn, .int .i64 code, .slice A2 nb2 cb2, .slice R2 nr2 cr2]; rw [World.size_alloc] at this; exact this
 have hu := Tryd.underlying59
 have hsz := zSz
 have hc := check_own (.agg #[.int .i64 fn, .int .i64 addr, .int .i64 count, .int .i64 to, .slice A nb cb, .slice R nr cr]) ⟨fn, addr, count, to, bits, regs⟩ w1 (hT.up hb1) ⟨A, nb, cb, R, nr, cr, rfl, hA.up hb1, hR.up hb1⟩
 rw [hm] at hc
 have HC := Lib.hid hc
 have he : errV false = 190 := rfl
 clear hc
 have HN := Lib.hid hn
 clear hT hA hR hA2 hR2 hm hn
 go_in
 go_wp2_with ((with_reducible refine at_loadT 59 2 ?_); refine wpList_load_rowG rfl 59 (.tmp 2) rfl w.heap.size rfl 59 _ _ hP1 hu rfl hsz ?_)
 refine HC.out.mono ?_
 rintro e w2 ⟨rfl, hb2⟩
 have hz2 := hb2.size
 have hP2 := hP1.below hb2 hP1.lt
 have hQ2 := hQ1.below hb2 hQ1.lt
 have hlt2 := hP2.lt
 have hlq2 := hQ2.lt
 have hb2w := hb1.trans (hb2.mono (by omega))
 obtain ⟨ka0, ka1, ka2, ka3, ka4, ka5⟩ := zC6 hP2
 obtain ⟨kr0, kr1, kr2, kr3⟩ := zC4 hQ2
 go_wp2_with fail
 go_ret2
 exact ans_none HN.out hb2w
theorem ans_fn (fn addr count to : Int) (bits : List Bool) (regs : List Int) (A : Option Addr) (nb cb : Nat) (R : Option Addr) (nr cr : Nat) (rfn code : Int) (bits2 : List Bool) (regs2 : List Int) (A2 : Option Addr) (nb2 cb2 : Nat) (R2 : Option Addr) (nr2 cr2 : Nat) (w : World) (hT : LimT w) (hA : SlB w w.heap.size A nb cb bits) (hR : SlI w w.heap.size .u16 R nr cr regs) (hA2 : SlB w w.heap.size A2 nb2 cb2 bits2) (hR2 : SlI w w.heap.size .u16 R2 nr2 cr2 regs2) (o : Option (List Int)) (hm : mayP ⟨fn, addr, count, to, bits, regs⟩ = true) (hne : rfn ≠ fn) (hn : o = none) : Calls Tryd.prog 70 #[.agg #[.int .i64 fn, .int .i64 addr, .int .i64 count, .int .i64 to, .slice A nb cb, .slice R nr cr], .agg #[.int .i64 rfn, .int .i64 code, .slice A2 nb2 cb2, .slice R2 nr2 cr2]] w (AnsPost w o) := by
 obtain ⟨w1, hw1⟩ : ∃ w1, (w.alloc (.cells #[.int .i64 fn, .int .i64 addr, .int .i64 count, .int .i64 to, .slice A nb cb, .slice R nr cr] 59)).alloc (.cells #[.int .i64 rfn, .int .i64 code, .slice A2 nb2 cb2, .slice R2 nr2 cr2] 68) = w1 := ⟨_, rfl⟩
 have hb1 := zB2 hw1
 have hz1 : w1.heap.size = w.heap.size + 2 := by rw [← hw1]; simp
 have hP1 : Held w1 w.heap.size 59 #[.int .i64 fn, .int .i64 addr, .int .i64 count, .int .i64 to, .slice A nb cb, .slice R nr cr] := by rw [← hw1]; exact (Held.new w _ _).alloc _
 have hQ1 : Held w1 (w.heap.size + 1) 68 #[.int .i64 rfn, .int .i64 code, .slice A2 nb2 cb2, .slice R2 nr2 cr2] := by rw [← hw1]; have := Held.new (w.alloc (.cells #[.int .i64 fn, .int .i64 addr, .int .i64 count, .int .i64 to, .slice A nb cb, .slice R nr cr] 59)) 68 #[.int .i64 rfn, .int .i64 code, .slice A2 nb2 cb2, .slice R2 nr2 cr2]; rw [World.size_alloc] at this; exact this
 have hu := Tryd.underlying59
 have hsz := zSz
 have hc := check_own (.agg #[.int .i64 fn, .int .i64 addr, .int .i64 count, .int .i64 to, .slice A nb cb, .slice R nr cr]) ⟨fn, addr, count, to, bits, regs⟩ w1 (hT.up hb1) ⟨A, nb, cb, R, nr, cr, rfl, hA.up hb1, hR.up hb1⟩
 rw [hm] at hc
 have HC := Lib.hid hc
 have he : errV true = 0 := rfl
 clear hc
 have HN := Lib.hid hn
 have hne2 : (rfn != fn) = true := by simpa using hne
 clear hT hA hR hA2 hR2 hm hn hne
 go_in
 go_wp2_with ((with_reducible refine at_loadT 59 2 ?_); refine wpList_load_rowG rfl 59 (.tmp 2) rfl w.heap.size rfl 59 _ _ hP1 hu rfl hsz ?_)
 refine HC.out.mono ?_
 rintro e w2 ⟨rfl, hb2⟩
 have hz2 := hb2.size
 have hP2 := hP1.below hb2 hP1.lt
 have hQ2 := hQ1.below hb2 hQ1.lt
 have hlt2 := hP2.lt
 have hlq2 := hQ2.lt
 have hb2w := hb1.trans (hb2.mono (by omega))
 obtain ⟨ka0, ka1, ka2, ka3, ka4, ka5⟩ := zC6 hP2
 obtain ⟨kr0, kr1, kr2, kr3⟩ := zC4 hQ2
 go_wp2_with fail
 go_ret2
 exact ans_none HN.out hb2w
theorem ans_code (fn addr count to : Int) (bits : List Bool) (regs : List Int) (A : Option Addr) (nb cb : Nat) (R : Option Addr) (nr cr : Nat) (rfn code : Int) (bits2 : List Bool) (regs2 : List Int) (A2 : Option Addr) (nb2 cb2 : Nat) (R2 : Option Addr) (nr2 cr2 : Nat) (w : World) (hT : LimT w) (hA : SlB w w.heap.size A nb cb bits) (hR : SlI w w.heap.size .u16 R nr cr regs) (hA2 : SlB w w.heap.size A2 nb2 cb2 bits2) (hR2 : SlI w w.heap.size .u16 R2 nr2 cr2 regs2) (o : Option (List Int)) (hm : mayP ⟨fn, addr, count, to, bits, regs⟩ = true) (hq : rfn = fn) (hf : 1 ≤ fn ∧ fn ≤ 23) (hz : code ≠ 0) (k1 : nb2 ≤ 100000) (k2 : nr2 ≤ 100000) (hn : o = if code < 1 ∨ 11 < code ∨ 0 < nb2 + nr2 then none else some [fn + 128, code]) : Calls Tryd.prog 70 #[.agg #[.int .i64 fn, .int .i64 addr, .int .i64 count, .int .i64 to, .slice A nb cb, .slice R nr cr], .agg #[.int .i64 rfn, .int .i64 code, .slice A2 nb2 cb2, .slice R2 nr2 cr2]] w (AnsPost w o) := by
 subst hq
 obtain ⟨w1, hw1⟩ : ∃ w1, (w.alloc (.cells #[.int .i64 rfn, .int .i64 addr, .int .i64 count, .int .i64 to, .slice A nb cb, .slice R nr cr] 59)).alloc (.cells #[.int .i64 rfn, .int .i64 code, .slice A2 nb2 cb2, .slice R2 nr2 cr2] 68) = w1 := ⟨_, rfl⟩
 have hb1 := zB2 hw1
 have hz1 : w1.heap.size = w.heap.size + 2 := by rw [← hw1]; simp
 have hP1 : Held w1 w.heap.size 59 #[.int .i64 rfn, .int .i64 addr, .int .i64 count, .int .i64 to, .slice A nb cb, .slice R nr cr] := by rw [← hw1]; exact (Held.new w _ _).alloc _
 have hQ1 : Held w1 (w.heap.size + 1) 68 #[.int .i64 rfn, .int .i64 code, .slice A2 nb2 cb2, .slice R2 nr2 cr2] := by rw [← hw1]; have := Held.new (w.alloc (.cells #[.int .i64 rfn, .int .i64 addr, .int .i64 count, .int .i64 to, .slice A nb cb, .slice R nr cr] 59)) 68 #[.int .i64 rfn, .int .i64 code, .slice A2 nb2 cb2, .slice R2 nr2 cr2]; rw [World.size_alloc] at this; exact this
 have hu := Tryd.underlying59
 have hsz := zSz
 have hc := check_own (.agg #[.int .i64 rfn, .int .i64 addr, .int .i64 count, .int .i64 to, .slice A nb cb, .slice R nr cr]) ⟨rfn, addr, count, to, bits, regs⟩ w1 (hT.up hb1) ⟨A, nb, cb, R, nr, cr, rfl, hA.up hb1, hR.up hb1⟩
 rw [hm] at hc
 have HC := Lib.hid hc
 have he : errV true = 0 := rfl
 clear hc
 have hne2 : (rfn != rfn) = false := by simp
 have hz2 : (code != 0) = true := by simpa using hz
 have HN := Lib.hid hn
 have hf3 : 128 + rfn % 128 = rfn + 128 := by omega
 have HF := Lib.hid hf3
 clear hT hA hR hA2 hR2 hm hn hf3 hz
 by_cases c1 : code < 1
 ·skip
  go_in
  go_wp2_with ((with_reducible refine at_loadT 59 2 ?_); refine wpList_load_rowG rfl 59 (.tmp 2) rfl w.heap.size rfl 59 _ _ hP1 hu rfl hsz ?_)
  refine HC.out.mono ?_
  rintro e w2 ⟨rfl, hb2⟩
  have hz2 := hb2.size
  have hP2 := hP1.below hb2 hP1.lt
  have hQ2 := hQ1.below hb2 hQ1.lt
  have hlt2 := hP2.lt
  have hlq2 := hQ2.lt
  have hb2w := hb1.trans (hb2.mono (by omega))
  obtain ⟨ka0, ka1, ka2, ka3, ka4, ka5⟩ := zC6 hP2
  obtain ⟨kr0, kr1, kr2, kr3⟩ := zC4 hQ2
  go_wp2_with fail
  go_ret2
  exact ans_none (by rw [HN.out, if_pos (by omega)]) hb2w
 by_cases c2 : 11 < code
 ·skip
  go_in
  go_wp2_with ((with_reducible refine at_loadT 59 2 ?_); refine wpList_load_rowG rfl 59 (.tmp 2) rfl w.heap.size rfl 59 _ _ hP1 hu rfl hsz ?_)
  refine HC.out.mono ?_
  rintro e w2 ⟨rfl, hb2⟩
  have hz2 := hb2.size
  have hP2 := hP1.below hb2 hP1.lt
  have hQ2 := hQ1.below hb2 hQ1.lt
  have hlt2 := hP2.lt
  have hlq2 := hQ2.lt
  have hb2w := hb1.trans (hb2.mono (by omega))
  obtain ⟨ka0, ka1, ka2, ka3, ka4, ka5⟩ := zC6 hP2
  obtain ⟨kr0, kr1, kr2, kr3⟩ := zC4 hQ2
  go_wp2_with fail
  go_ret2
  exact ans_none (by rw [HN.out, if_pos (by omega)]) hb2w
 by_cases c3 : 0 < nb2 + nr2
 ·skip
  have c4 : (0 : Int) < (nb2 : Int) + nr2 := by omega
  go_in
  go_wp2_with ((with_reducible refine at_loadT 59 2 ?_); refine wpList_load_rowG rfl 59 (.tmp 2) rfl w.heap.size rfl 59 _ _ hP1 hu rfl hsz ?_)
  refine HC.out.mono ?_
  rintro e w2 ⟨rfl, hb2⟩
  have hz2 := hb2.size
  have hP2 := hP1.below hb2 hP1.lt
  have hQ2 := hQ1.below hb2 hQ1.lt
  have hlt2 := hP2.lt
  have hlq2 := hQ2.lt
  have hb2w := hb1.trans (hb2.mono (by omega))
  obtain ⟨ka0, ka1, ka2, ka3, ka4, ka5⟩ := zC6 hP2
  obtain ⟨kr0, kr1, kr2, kr3⟩ := zC4 hQ2
  go_wp2_with fail
  go_ret2
  exact ans_none (by rw [HN.out, if_pos (by omega)]) hb2w
 ·have c4 : ¬ (0 : Int) < (nb2 : Int) + nr2 := by omega
  have c5 : nb2 = 0 := by omega
  have c6 : nr2 = 0 := by omega
  subst c5 c6
  go_in
  go_wp2_with ((with_reducible refine at_loadT 59 2 ?_); refine wpList_load_rowG rfl 59 (.tmp 2) rfl w.heap.size rfl 59 _ _ hP1 hu rfl hsz ?_)
  refine HC.out.mono ?_
  rintro e w2 ⟨rfl, hb2⟩
  have hz2 := hb2.size
  have hP2 := hP1.below hb2 hP1.lt
  have hQ2 := hQ1.below hb2 hQ1.lt
  have hlt2 := hP2.lt
  have hlq2 := hQ2.lt
  have hb2w := hb1.trans (hb2.mono (by omega))
  obtain ⟨ka0, ka1, ka2, ka3, ka4, ka5⟩ := zC6 hP2
  obtain ⟨kr0, kr1, kr2, kr3⟩ := zC4 hQ2
  go_wp2_with fail
  refine (refuse_any rfn code w2).mono ?_
  rintro e w3 ⟨rfl, hw3⟩
  have hb3 : Below w2.heap.size w2 w3 := by rw [hw3]; exact (Below.refl _ w2).alloc (Nat.le_refl _) _
  have hs : SlI w3 w3.heap.size .u8 (some ⟨w2.heap.size, 0, none⟩) 2 2 [rfn + 128, code] := by
   rw [hw3, HF.out, show code % 256 = code by omega]
   exact SlI.of_lit rfl rfl (by omega)
  clear hw3
  go_wp2_with fail
  go_ret2
  exact ans_sl (by rw [HN.out, if_neg (by omega)]) hs (hb2w.trans (hb3.mono hb2w.size))
theorem ans_3a (fn addr count to : Int) (bits : List Bool) (regs : List Int) (A : Option Addr) (nb cb : Nat) (R : Option Addr) (nr cr : Nat) (rfn code : Int) (bits2 : List Bool) (regs2 : List Int) (A2 : Option Addr) (nb2 cb2 : Nat) (R2 : Option Addr) (nr2 cr2 : Nat) (w : World) (hT : LimT w) (hA : SlB w w.heap.size A nb cb bits) (hR : SlI w w.heap.size .u16 R nr cr regs) (hA2 : SlB w w.heap.size A2 nb2 cb2 bits2) (hR2 : SlI w w.heap.size .u16 R2 nr2 cr2 regs2) (o : Option (List Int)) (hm : mayP ⟨fn, addr, count, to, bits, regs⟩ = true) (hq : rfn = fn) (hfn : fn = 3) (hz : code = 0) (hy : Reg16 regs) (hy2 : Reg16 regs2) (ha : 0 ≤ addr ∧ addr < 65536) (k1 : nb ≤ 1968) (k2 : nr ≤ 123) (hcnt : 0 ≤ count ∧ count ≤ 125) (hn : o = if (nb2 : Int) ≠ 0 ∨ (nr2 : Int) ≠ count then none else some (3 :: ((2 * nr2 : Nat) : Int) :: twosI regs2)) (b1 : (nb2 : Int) ≠ 0) : Calls Tryd.prog 70 #[.agg #[.int .i64 fn, .int .i64 addr, .int .i64 count, .int .i64 to, .slice A nb cb, .slice R nr cr], .agg #[.int .i64 rfn, .int .i64 code, .slice A2 nb2 cb2, .slice R2 nr2 cr2]] w (AnsPost w o) := by
 subst hq hfn hz
 obtain ⟨w1, hw1⟩ : ∃ w1, (w.alloc (.cells #[.int .i64 3, .int .i64 addr, .int .i64 count, .int .i64 to, .slice A nb cb, .slice R nr cr] 59)).alloc (.cells #[.int .i64 3, .int .i64 0, .slice A2 nb2 cb2, .slice R2 nr2 cr2] 68) = w1 := ⟨_, rfl⟩
 have hb1 := zB2 hw1
 have hz1 : w1.heap.size = w.heap.size + 2 := by rw [← hw1]; simp
 have hP1 : Held w1 w.heap.size 59 #[.int .i64 3, .int .i64 addr, .int .i64 count, .int .i64 to, .slice A nb cb, .slice R nr cr] := by rw [← hw1]; exact (Held.new w _ _).alloc _
 have hQ1 : Held w1 (w.heap.size + 1) 68 #[.int .i64 3, .int .i64 0, .slice A2 nb2 cb2, .slice R2 nr2 cr2] := by rw [← hw1]; have := Held.new (w.alloc (.cells #[.int .i64 3, .int .i64 addr, .int .i64 count, .int .i64 to, .slice A nb cb, .slice R nr cr] 59)) 68 #[.int .i64 3, .int .i64 0, .slice A2 nb2 cb2, .slice R2 nr2 cr2]; rw [World.size_alloc] at this; exact this
 have hu := Tryd.underlying59
 have hsz := zSz
 have hc := check_own (.agg #[.int .i64 3, .int .i64 addr, .int .i64 count, .int .i64 to, .slice A nb cb, .slice R nr cr]) ⟨3, addr, count, to, bits, regs⟩ w1 (hT.up hb1) ⟨A, nb, cb, R, nr, cr, rfl, hA.up hb1, hR.up hb1⟩
 rw [hm] at hc
 have HC := Lib.hid hc
 have he : errV true = 0 := rfl
 clear hc
 have HN := Lib.hid hn
 have HT := Lib.hid (fun (X : World) (h : Below w.heap.size w X) => hT.up h)
 have HA := Lib.hid (fun (X : World) (h : Below w.heap.size w X) => hA.up h)
 have HR := Lib.hid (fun (X : World) (h : Below w.heap.size w X) => hR.up h)
 have HA2 := Lib.hid (fun (X : World) (h : Below w.heap.size w X) => hA2.up h)
 have HR2 := Lib.hid (fun (X : World) (h : Below w.heap.size w X) => hR2.up h)
 have HM := Lib.hid hm
 have hl2 := Lib.hid hA2.1
 have hlr2 := Lib.hid hR2.1
 clear hT hA hR hA2 hR2 hm hn
 have t1 : (((nb2 : Nat) : Int) != 0) = true := by simpa using b1
 go_in
 go_wp2_with ((with_reducible refine at_loadT 59 2 ?_); refine wpList_load_rowG rfl 59 (.tmp 2) rfl w.heap.size rfl 59 _ _ hP1 hu rfl hsz ?_)
 refine HC.out.mono ?_
 rintro e w2 ⟨rfl, hb2⟩
 have hz2 := hb2.size
 have hP2 := hP1.below hb2 hP1.lt
 have hQ2 := hQ1.below hb2 hQ1.lt
 have hlt2 := hP2.lt
 have hlq2 := hQ2.lt
 have hb2w := hb1.trans (hb2.mono (by omega))
 obtain ⟨ka0, ka1, ka2, ka3, ka4, ka5⟩ := zC6 hP2
 obtain ⟨kr0, kr1, kr2, kr3⟩ := zC4 hQ2
 go_wp2_with fail
 go_ret2
 exact ans_none (by rw [HN.out, if_pos (by omega)]) hb2w
theorem ans_3b (fn addr count to : Int) (bits : List Bool) (regs : List Int) (A : Option Addr) (nb cb : Nat) (R : Option Addr) (nr cr : Nat) (rfn code : Int) (bits2 : List Bool) (regs2 : List Int) (A2 : Option Addr) (nb2 cb2 : Nat) (R2 : Option Addr) (nr2 cr2 : Nat) (w : World) (hT : LimT w) (hA : SlB w w.heap.size A nb cb bits) (hR : SlI w w.heap.size .u16 R nr cr regs) (hA2 : SlB w w.heap.size A2 nb2 cb2 bits2) (hR2 : SlI w w.heap.size .u16 R2 nr2 cr2 regs2) (o : Option (List Int)) (hm : mayP ⟨fn, addr, count, to, bits, regs⟩ = true) (hq : rfn = fn) (hfn : fn = 3) (hz : code = 0) (hy : Reg16 regs) (hy2 : Reg16 regs2) (ha : 0 ≤ addr ∧ addr < 65536) (k1 : nb ≤ 1968) (k2 : nr ≤ 123) (hcnt : 0 ≤ count ∧ count ≤ 125) (hn : o = if (nb2 : Int) ≠ 0 ∨ (nr2 : Int) ≠ count then none else some (3 :: ((2 * nr2 : Nat) : Int) :: twosI regs2)) (b1 : (nb2 : Int) = 0) (b2 : (nr2 : Int) ≠ count) : Calls Tryd.prog 70 #[.agg #[.int .i64 fn, .int .i64 addr, .int .i64 count, .int .i64 to, .slice A nb cb, .slice R nr cr], .agg #[.int .i64 rfn, .int .i64 code, .slice A2 nb2 cb2, .slice R2 nr2 cr2]] w (AnsPost w o) := by
 subst hq hfn hz
 obtain rfl : nb2 = 0 := by omega
 obtain ⟨w1, hw1⟩ : ∃ w1, (w.alloc (.cells #[.int .i64 3, .int .i64 addr, .int .i64 count, .int .i64 to, .slice A nb cb, .slice R nr cr] 59)).alloc (.cells #[.int .i64 3, .int .i64 0, .slice A2 0 cb2, .slice R2 nr2 cr2] 68) = w1 := ⟨_, rfl⟩
 have hb1 := zB2 hw1
 have hz1 : w1.heap.size = w.heap.size + 2 := by rw [← hw1]; simp
 have hP1 : Held w1 w.heap.size 59 #[.int .i64 3, .int .i64 addr, .int .i64 count, .int .i64 to, .slice A nb cb, .slice R nr cr] := by rw [← hw1]; exact (Held.new w _ _).alloc _
 have hQ1 : Held w1 (w.heap.size + 1) 68 #[.int .i64 3, .int .i64 0, .slice A2 0 cb2, .slice R2 nr2 cr2] := by rw [← hw1]; have := Held.new (w.alloc (.cells #[.int .i64 3, .int .i64 addr, .int .i64 count, .int .i64 to, .slice A nb cb, .slice R nr cr] 59)) 68 #[.int .i64 3, .int .i64 0, .slice A2 0 cb2, .slice R2 nr2 cr2]; rw [World.size_alloc] at this; exact this
 have hu := Tryd.underlying59
 have hsz := zSz
 have hc := check_own (.agg #[.int .i64 3, .int .i64 addr, .int .i64 count, .int .i64 to, .slice A nb cb, .slice R nr cr]) ⟨3, addr, count, to, bits, regs⟩ w1 (hT.up hb1) ⟨A, nb, cb, R, nr, cr, rfl, hA.up hb1, hR.up hb1⟩
 rw [hm] at hc
 have HC := Lib.hid hc
 have he : errV true = 0 := rfl
 clear hc
 have HN := Lib.hid hn
 have HT := Lib.hid (fun (X : World) (h : Below w.heap.size w X) => hT.up h)
 have HA := Lib.hid (fun (X : World) (h : Below w.heap.size w X) => hA.up h)
 have HR := Lib.hid (fun (X : World) (h : Below w.heap.size w X) => hR.up h)
 have HA2 := Lib.hid (fun (X : World) (h : Below w.heap.size w X) => hA2.up h)
 have HR2 := Lib.hid (fun (X : World) (h : Below w.heap.size w X) => hR2.up h)
 have HM := Lib.hid hm
 have hl2 := Lib.hid hA2.1
 have hlr2 := Lib.hid hR2.1
 clear hT hA hR hA2 hR2 hm hn
 have t2 : (((nr2 : Nat) : Int) != count) = true := by simpa using b2
 go_in
 go_wp2_with ((with_reducible refine at_loadT 59 2 ?_); refine wpList_load_rowG rfl 59 (.tmp 2) rfl w.heap.size rfl 59 _ _ hP1 hu rfl hsz ?_)
 refine HC.out.mono ?_
 rintro e w2 ⟨rfl, hb2⟩
 have hz2 := hb2.size
 have hP2 := hP1.below hb2 hP1.lt
 have hQ2 := hQ1.below hb2 hQ1.lt
 have hlt2 := hP2.lt
 have hlq2 := hQ2.lt
 have hb2w := hb1.trans (hb2.mono (by omega))
 obtain ⟨ka0, ka1, ka2, ka3, ka4, ka5⟩ := zC6 hP2
 obtain ⟨kr0, kr1, kr2, kr3⟩ := zC4 hQ2
 go_wp2_with fail
 go_ret2
 exact ans_none (by rw [HN.out, if_pos (by right; exact b2)]) hb2w
theorem ans_3c (fn addr count to : Int) (bits : List Bool) (regs : List Int) (A : Option Addr) (nb cb : Nat) (R : Option Addr) (nr cr : Nat) (rfn code : Int) (bits2 : List Bool) (regs2 : List Int) (A2 : Option Addr) (nb2 cb2 : Nat) (R2 : Option Addr) (nr2 cr2 : Nat) (w : World) (hT : LimT w) (hA : SlB w w.heap.size A nb cb bits) (hR : SlI w w.heap.size .u16 R nr cr regs) (hA2 : SlB w w.heap.size A2 nb2 cb2 bits2) (hR2 : SlI w w.heap.size .u16 R2 nr2 cr2 regs2) (o : Option (List Int)) (hm : mayP ⟨fn, addr, count, to, bits, regs⟩ = true) (hq : rfn = fn) (hfn : fn = 3) (hz : code = 0) (hy : Reg16 regs) (hy2 : Reg16 regs2) (ha : 0 ≤ addr ∧ addr < 65536) (k1 : nb ≤ 1968) (k2 : nr ≤ 123) (hcnt : 0 ≤ count ∧ count ≤ 125) (hn : o = if (nb2 : Int) ≠ 0 ∨ (nr2 : Int) ≠ count then none else some (3 :: ((2 * nr2 : Nat) : Int) :: twosI regs2)) (b1 : (nb2 : Int) = 0) (b2 : (nr2 : Int) = count) : Calls Tryd.prog 70 #[.agg #[.int .i64 fn, .int .i64 addr, .int .i64 count, .int .i64 to, .slice A nb cb, .slice R nr cr], .agg #[.int .i64 rfn, .int .i64 code, .slice A2 nb2 cb2, .slice R2 nr2 cr2]] w (AnsPost w o) := by
 subst hq hfn hz
 obtain rfl : nb2 = 0 := by omega
 obtain ⟨w1, hw1⟩ : ∃ w1, (w.alloc (.cells #[.int .i64 3, .int .i64 addr, .int .i64 count, .int .i64 to, .slice A nb cb, .slice R nr cr] 59)).alloc (.cells #[.int .i64 3, .int .i64 0, .slice A2 0 cb2, .slice R2 nr2 cr2] 68) = w1 := ⟨_, rfl⟩
 have hb1 := zB2 hw1
 have hz1 : w1.heap.size = w.heap.size + 2 := by rw [← hw1]; simp
 have hP1 : Held w1 w.heap.size 59 #[.int .i64 3, .int .i64 addr, .int .i64 count, .int .i64 to, .slice A nb cb, .slice R nr cr] := by rw [← hw1]; exact (Held.new w _ _).alloc _
 have hQ1 : Held w1 (w.heap.size + 1) 68 #[.int .i64 3, .int .i64 0, .slice A2 0 cb2, .slice R2 nr2 cr2] := by rw [← hw1]; have := Held.new (w.alloc (.cells #[.int .i64 3, .int .i64 addr, .int .i64 count, .int .i64 to, .slice A nb cb, .slice R nr cr] 59)) 68 #[.int .i64 3, .int .i64 0, .slice A2 0 cb2, .slice R2 nr2 cr2]; rw [World.size_alloc] at this; exact this
 have hu := Tryd.underlying59
 have hsz := zSz
 have hc := check_own (.agg #[.int .i64 3, .int .i64 addr, .int .i64 count, .int .i64 to, .slice A nb cb, .slice R nr cr]) ⟨3, addr, count, to, bits, regs⟩ w1 (hT.up hb1) ⟨A, nb, cb, R, nr, cr, rfl, hA.up hb1, hR.up hb1⟩
 rw [hm] at hc
 have HC := Lib.hid hc
 have he : errV true = 0 := rfl
 clear hc
 have HN := Lib.hid hn
 have HT := Lib.hid (fun (X : World) (h : Below w.heap.size w X) => hT.up h)
 have HA := Lib.hid (fun (X : World) (h : Below w.heap.size w X) => hA.up h)
 have HR := Lib.hid (fun (X : World) (h : Below w.heap.size w X) => hR.up h)
 have HA2 := Lib.hid (fun (X : World) (h : Below w.heap.size w X) => hA2.up h)
 have HR2 := Lib.hid (fun (X : World) (h : Below w.heap.size w X) => hR2.up h)
 have HM := Lib.hid hm
 have hl2 := Lib.hid hA2.1
 have hlr2 := Lib.hid hR2.1
 clear hT hA hR hA2 hR2 hm hn
 have t2 : (((nr2 : Nat) : Int) != count) = false := by simp; omega
 have hk2 : nr2 ≤ 125 := by omega
 have B1 := Lib.hid b1
 have B2 := Lib.hid b2
 clear b1 b2
 go_in
 go_wp2_with ((with_reducible refine at_loadT 59 2 ?_); refine wpList_load_rowG rfl 59 (.tmp 2) rfl w.heap.size rfl 59 _ _ hP1 hu rfl hsz ?_)
 refine HC.out.mono ?_
 rintro e w2 ⟨rfl, hb2⟩
 have hz2 := hb2.size
 have hP2 := hP1.below hb2 hP1.lt
 have hQ2 := hQ1.below hb2 hQ1.lt
 have hlt2 := hP2.lt
 have hlq2 := hQ2.lt
 have hb2w := hb1.trans (hb2.mono (by omega))
 obtain ⟨ka0, ka1, ka2, ka3, ka4, ka5⟩ := zC6 hP2
 obtain ⟨kr0, kr1, kr2, kr3⟩ := zC4 hQ2
 obtain ⟨w3, hw3⟩ : ∃ w3, w2.alloc (.cells #[.int .u8 3] 5) = w3 := ⟨_, rfl⟩
 have hb3 := zB1 hw3
 have hz3 : w3.heap.size = w2.heap.size + 1 := by rw [← hw3]; simp
 have hs3 : SlI w3 w3.heap.size .u8 (some ⟨w2.heap.size, 0, none⟩) 1 1 [(3 : Int)] := by rw [← hw3]; exact SlI.of_lit rfl rfl (by omega)
 have hb3w := hb2w.trans (hb3.mono hb2w.size)
 have hP3 := hP2.below hb3 hP2.lt
 have hQ3 := hQ2.below hb3 hQ2.lt
 obtain ⟨ma0, ma1, ma2, ma3, ma4, ma5⟩ := zC6 hP3
 obtain ⟨mr0, mr1, mr2, mr3⟩ := zC4 hQ3
 have HRB := Lib.hid (rbytes_any R2 nr2 cr2 regs2 (by omega) hy2 w3 (HR2.out w3 hb3w))
 go_wp2_with fail
 refine HRB.out.mono ?_
 rintro e w4 ⟨v4, rfl, o4, hb4⟩
 obtain ⟨Aq, cq, rfl, sq⟩ := SlI.of_own o4
 have hb4w := hb3w.trans (hb4.mono hb3w.size)
 have HB := Lib.hid (behind_any _ 1 1 _ Aq _ cq _ w4 (hs3.up hb4) sq (by omega) (by omega))
 clear o4 sq
 go_wp2_with fail
 refine HB.out.mono ?_
 rintro e w5 ⟨v5, rfl, o5, hb5⟩
 go_wp2_with fail
 go_ret2
 exact ans_some (by rw [HN.out, if_neg (by have := B1.out; have := B2.out; omega)]; simp) o5 (hb4w.trans (hb5.mono hb4w.size))
theorem ans_4a (fn addr count to : Int) (bits : List Bool) (regs : List Int) (A : Option Addr) (nb cb : Nat) (R : Option Addr) (nr cr : Nat) (rfn code : Int) (bits2 : List Bool) (regs2 : List Int) (A2 : Option Addr) (nb2 cb2 : Nat) (R2 : Option Addr) (nr2 cr2 : Nat) (w : World) (hT : LimT w) (hA : SlB w w.heap.size A nb cb bits) (hR : SlI w w.heap.size .u16 R nr cr regs) (hA2 : SlB w w.heap.size A2 nb2 cb2 bits2) (hR2 : SlI w w.heap.size .u16 R2 nr2 cr2 regs2) (o : Option (List Int)) (hm : mayP ⟨fn, addr, count, to, bits, regs⟩ = true) (hq : rfn = fn) (hfn : fn = 4) (hz : code = 0) (hy : Reg16 regs) (hy2 : Reg16 regs2) (ha : 0 ≤ addr ∧ addr < 65536) (k1 : nb ≤ 1968) (k2 : nr ≤ 123) (hcnt : 0 ≤ count ∧ count ≤ 125) (hn : o = if (nb2 : Int) ≠ 0 ∨ (nr2 : Int) ≠ count then none else some (4 :: ((2 * nr2 : Nat) : Int) :: twosI regs2)) (b1 : (nb2 : Int) ≠ 0) : Calls Tryd.prog 70 #[.agg #[.int .i64 fn, .int .i64 addr, .int .i64 count, .int .i64 to, .slice A nb cb, .slice R nr cr], .agg #[.int .i64 rfn, .int .i64 code, .slice A2 nb2 cb2, .slice R2 nr2 cr2]] w (AnsPost w o) := by
 subst hq hfn hz
 obtain ⟨w1, hw1⟩ : ∃ w1, (w.alloc (.cells #[.int .i64 4, .int .i64 addr, .int .i64 count, .int .i64 to, .slice A nb cb, .slice R nr cr] 59)).alloc (.cells #[.int .i64 4, .int .i64 0, .slice A2 nb2 cb2, .slice R2 nr2 cr2] 68) = w1 := ⟨_, rfl⟩
 have hb1 := zB2 hw1
 have hz1 : w1.heap.size = w.heap.size + 2 := by rw [← hw1]; simp
 have hP1 : Held w1 w.heap.size 59 #[.int .i64 4, .int .i64 addr, .int .i64 count, .int .i64 to, .slice A nb cb, .slice R nr cr] := by rw [← hw1]; exact (Held.new w _ _).alloc _
 have hQ1 : Held w1 (w.heap.size + 1) 68 #[.int .i64 4, .int .i64 0, .slice A2 nb2 cb2, .slice R2 nr2 cr2] := by rw [← hw1]; have := Held.new (w.alloc (.cells #[.int .i64 4, .int .i64 addr, .int .i64 count, .int .i64 to, .slice A nb cb, .slice R nr cr] 59)) 68 #[.int .i64 4, .int .i64 0, .slice A2 nb2 cb2, .slice R2 nr2 cr2]; rw [World.size_alloc] at this; exact this
 have hu := Tryd.underlying59
 have hsz := zSz
 have hc := check_own (.agg #[.int .i64 4, .int .i64 addr, .int .i64 count, .int .i64 to, .slice A nb cb, .slice R nr cr]) ⟨4, addr, count, to, bits, regs⟩ w1 (hT.up hb1) ⟨A, nb, cb, R, nr, cr, rfl, hA.up hb1, hR.up hb1⟩
 rw [hm] at hc
 have HC := Lib.hid hc
 have he : errV true = 0 := rfl
 clear hc
 have HN := Lib.hid hn
 have HT := Lib.hid (fun (X : World) (h : Below w.heap.size w X) => hT.up h)
 have HA := Lib.hid (fun (X : World) (h : Below w.heap.size w X) => hA.up h)
 have HR := Lib.hid (fun (X : World) (h : Below w.heap.size w X) => hR.up h)
 have HA2 := Lib.hid (fun (X : World) (h : Below w.heap.size w X) => hA2.up h)
 have HR2 := Lib.hid (fun (X : World) (h : Below w.heap.size w X) => hR2.up h)
 have HM := Lib.hid hm
 have hl2 := Lib.hid hA2.1
 have hlr2 := Lib.hid hR2.1
 clear hT hA hR hA2 hR2 hm hn
 have t1 : (((nb2 : Nat) : Int) != 0) = true := by simpa using b1
 go_in
 go_wp2_with ((with_reducible refine at_loadT 59 2 ?_); refine wpList_load_rowG rfl 59 (.tmp 2) rfl w.heap.size rfl 59 _ _ hP1 hu rfl hsz ?_)
 refine HC.out.mono ?_
 rintro e w2 ⟨rfl, hb2⟩
 have hz2 := hb2.size
 have hP2 := hP1.below hb2 hP1.lt
 have hQ2 := hQ1.below hb2 hQ1.lt
 have hlt2 := hP2.lt
 have hlq2 := hQ2.lt
 have hb2w := hb1.trans (hb2.mono (by omega))
 obtain ⟨ka0, ka1, ka2, ka3, ka4, ka5⟩ := zC6 hP2
 obtain ⟨kr0, kr1, kr2, kr3⟩ := zC4 hQ2
 go_wp2_with fail
 go_ret2
 exact ans_none (by rw [HN.out, if_pos (by omega)]) hb2w
theorem ans_4b (fn addr count to : Int) (bits : List Bool) (regs : List Int) (A : Option Addr) (nb cb : Nat) (R : Option Addr) (nr cr : Nat) (rfn code : Int) (bits2 : List Bool) (regs2 : List Int) (A2 : Option Addr) (nb2 cb2 : Nat) (R2 : Option Addr) (nr2 cr2 : Nat) (w : World) (hT : LimT w) (hA : SlB w w.heap.size A nb cb bits) (hR : SlI w w.heap.size .u16 R nr cr regs) (hA2 : SlB w w.heap.size A2 nb2 cb2 bits2) (hR2 : SlI w w.heap.size .u16 R2 nr2 cr2 regs2) (o : Option (List Int)) (hm : mayP ⟨fn, addr, count, to, bits, regs⟩ = true) (hq : rfn = fn) (hfn : fn = 4) (hz : code = 0) (hy : Reg16 regs) (hy2 : Reg16 regs2) (ha : 0 ≤ addr ∧ addr < 65536) (k1 : nb ≤ 1968) (k2 : nr ≤ 123) (hcnt : 0 ≤ count ∧ count ≤ 125) (hn : o = if (nb2 : Int) ≠ 0 ∨ (nr2 : Int) ≠ count then none else some (4 :: ((2 * nr2 : Nat) : Int) :: twosI regs2)) (b1 : (nb2 : Int) = 0) (b2 : (nr2 : Int) ≠ count) : Calls Tryd.prog 70 #[.agg #[.int .i64 fn, .int .i64 addr, .int .i64 count, .int .i64 to, .slice A nb cb, .slice R nr cr], .agg #[.int .i64 rfn, .int .i64 code, .slice A2 nb2 cb2, .slice R2 nr2 cr2]] w (AnsPost w o) := by
 subst hq hfn hz
 obtain rfl : nb2 = 0 := by omega
 obtain ⟨w1, hw1⟩ : ∃ w1, (w.alloc (.cells #[.int .i64 4, .int .i64 addr, .int .i64 count, .int .i64 to, .slice A nb cb, .slice R nr cr] 59)).alloc (.cells #[.int .i64 4, .int .i64 0, .slice A2 0 cb2, .slice R2 nr2 cr2] 68) = w1 := ⟨_, rfl⟩
 have hb1 := zB2 hw1
 have hz1 : w1.heap.size = w.heap.size + 2 := by rw [← hw1]; simp
 have hP1 : Held w1 w.heap.size 59 #[.int .i64 4, .int .i64 addr, .int .i64 count, .int .i64 to, .slice A nb cb, .slice R nr cr] := by rw [← hw1]; exact (Held.new w _ _).alloc _
 have hQ1 : Held w1 (w.heap.size + 1) 68 #[.int .i64 4, .int .i64 0, .slice A2 0 cb2, .slice R2 nr2 cr2] := by rw [← hw1]; have := Held.new (w.alloc (.cells #[.int .i64 4, .int .i64 addr, .int .i64 count, .int .i64 to, .slice A nb cb, .slice R nr cr] 59)) 68 #[.int .i64 4, .int .i64 0, .slice A2 0 cb2, .slice R2 nr2 cr2]; rw [World.size_alloc] at this; exact this
 have hu := Tryd.underlying59
 have hsz := zSz
 have hc := check_own (.agg #[.int .i64 4, .int .i64 addr, .int .i64 count, .int .i64 to, .slice A nb cb, .slice R nr cr]) ⟨4, addr, count, to, bits, regs⟩ w1 (hT.up hb1) ⟨A, nb, cb, R, nr, cr, rfl, hA.up hb1, hR.up hb1⟩
 rw [hm] at hc
 have HC := Lib.hid hc
 have he : errV true = 0 := rfl
 clear hc
 have HN := Lib.hid hn
 have HT := Lib.hid (fun (X : World) (h : Below w.heap.size w X) => hT.up h)
 have HA := Lib.hid (fun (X : World) (h : Below w.heap.size w X) => hA.up h)
 have HR := Lib.hid (fun (X : World) (h : Below w.heap.size w X) => hR.up h)
 have HA2 := Lib.hid (fun (X : World) (h : Below w.heap.size w X) => hA2.up h)
 have HR2 := Lib.hid (fun (X : World) (h : Below w.heap.size w X) => hR2.up h)
 have HM := Lib.hid hm
 have hl2 := Lib.hid hA2.1
 have hlr2 := Lib.hid hR2.1
 clear hT hA hR hA2 hR2 hm hn
 have t2 : (((nr2 : Nat) : Int) != count) = true := by simpa using b2
 go_in
 go_wp2_with ((with_reducible refine at_loadT 59 2 ?_); refine wpList_load_rowG rfl 59 (.tmp 2) rfl w.heap.size rfl 59 _ _ hP1 hu rfl hsz ?_)
 refine HC.out.mono ?_
 rintro e w2 ⟨rfl, hb2⟩
 have hz2 := hb2.size
 have hP2 := hP1.below hb2 hP1.lt
 have hQ2 := hQ1.below hb2 hQ1.lt
 have hlt2 := hP2.lt
 have hlq2 := hQ2.lt
 have hb2w := hb1.trans (hb2.mono (by omega))
 obtain ⟨ka0, ka1, ka2, ka3, ka4, ka5⟩ := zC6 hP2
 obtain ⟨kr0, kr1, kr2, kr3⟩ := zC4 hQ2
 go_wp2_with fail
 go_ret2
 exact ans_none (by rw [HN.out, if_pos (by right; exact b2)]) hb2w
theorem ans_4c (fn addr count to : Int) (bits : List Bool) (regs : List Int) (A : Option Addr) (nb cb : Nat) (R : Option Addr) (nr cr : Nat) (rfn code : Int) (bits2 : List Bool) (regs2 : List Int) (A2 : Option Addr) (nb2 cb2 : Nat) (R2 : Option Addr) (nr2 cr2 : Nat) (w : World) (hT : LimT w) (hA : SlB w w.heap.size A nb cb bits) (hR : SlI w w.heap.size .u16 R nr cr regs) (hA2 : SlB w w.heap.size A2 nb2 cb2 bits2) (hR2 : SlI w w.heap.size .u16 R2 nr2 cr2 regs2) (o : Option (List Int)) (hm : mayP ⟨fn, addr, count, to, bits, regs⟩ = true) (hq : rfn = fn) (hfn : fn = 4) (hz : code = 0) (hy : Reg16 regs) (hy2 : Reg16 regs2) (ha : 0 ≤ addr ∧ addr < 65536) (k1 : nb ≤ 1968) (k2 : nr ≤ 123) (hcnt : 0 ≤ count ∧ count ≤ 125) (hn : o = if (nb2 : Int) ≠ 0 ∨ (nr2 : Int) ≠ count then none else some (4 :: ((2 * nr2 : Nat) : Int) :: twosI regs2)) (b1 : (nb2 : Int) = 0) (b2 : (nr2 : Int) = count) : Calls Tryd.prog 70 #[.agg #[.int .i64 fn, .int .i64 addr, .int .i64 count, .int .i64 to, .slice A nb cb, .slice R nr cr], .agg #[.int .i64 rfn, .int .i64 code, .slice A2 nb2 cb2, .slice R2 nr2 cr2]] w (AnsPost w o) := by
 subst hq hfn hz
 obtain rfl : nb2 = 0 := by omega
 obtain ⟨w1, hw1⟩ : ∃ w1, (w.alloc (.cells #[.int .i64 4, .int .i64 addr, .int .i64 count, .int .i64 to, .slice A nb cb, .slice R nr cr] 59)).alloc (.cells #[.int .i64 4, .int .i64 0, .slice A2 0 cb2, .slice R2 nr2 cr2] 68) = w1 := ⟨_, rfl⟩
 have hb1 := zB2 hw1
 have hz1 : w1.heap.size = w.heap.size + 2 := by rw [← hw1]; simp
 have hP1 : Held w1 w.heap.size 59 #[.int .i64 4, .int .i64 addr, .int .i64 count, .int .i64 to, .slice A nb cb, .slice R nr cr] := by rw [← hw1]; exact (Held.new w _ _).alloc _
 have hQ1 : Held w1 (w.heap.size + 1) 68 #[.int .i64 4, .int .i64 0, .slice A2 0 cb2, .slice R2 nr2 cr2] := by rw [← hw1]; have := Held.new (w.alloc (.cells #[.int .i64 4, .int .i64 addr, .int .i64 count, .int .i64 to, .slice A nb cb, .slice R nr cr] 59)) 68 #[.int .i64 4, .int .i64 0, .slice A2 0 cb2, .slice R2 nr2 cr2]; rw [World.size_alloc] at this; exact this
 have hu := Tryd.underlying59
 have hsz := zSz
 have hc := check_own (.agg #[.int .i64 4, .int .i64 addr, .int .i64 count, .int .i64 to, .slice A nb cb, .slice R nr cr]) ⟨4, addr, count, to, bits, regs⟩ w1 (hT.up hb1) ⟨A, nb, cb, R, nr, cr, rfl, hA.up hb1, hR.up hb1⟩
 rw [hm] at hc
 have HC := Lib.hid hc
 have he : errV true = 0 := rfl
 clear hc
 have HN := Lib.hid hn
 have HT := Lib.hid (fun (X : World) (h : Below w.heap.size w X) => hT.up h)
 have HA := Lib.hid (fun (X : World) (h : Below w.heap.size w X) => hA.up h)
 have HR := Lib.hid (fun (X : World) (h : Below w.heap.size w X) => hR.up h)
 have HA2 := Lib.hid (fun (X : World) (h : Below w.heap.size w X) => hA2.up h)
 have HR2 := Lib.hid (fun (X : World) (h : Below w.heap.size w X) => hR2.up h)
 have HM := Lib.hid hm
 have hl2 := Lib.hid hA2.1
 have hlr2 := Lib.hid hR2.1
 clear hT hA hR hA2 hR2 hm hn
 have t2 : (((nr2 : Nat) : Int) != count) = false := by simp; omega
 have hk2 : nr2 ≤ 125 := by omega
 have B1 := Lib.hid b1
 have B2 := Lib.hid b2
 clear b1 b2
 go_in
 go_wp2_with ((with_reducible refine at_loadT 59 2 ?_); refine wpList_load_rowG rfl 59 (.tmp 2) rfl w.heap.size rfl 59 _ _ hP1 hu rfl hsz ?_)
 refine HC.out.mono ?_
 rintro e w2 ⟨rfl, hb2⟩
 have hz2 := hb2.size
 have hP2 := hP1.below hb2 hP1.lt
 have hQ2 := hQ1.below hb2 hQ1.lt
 have hlt2 := hP2.lt
 have hlq2 := hQ2.lt
 have hb2w := hb1.trans (hb2.mono (by omega))
 obtain ⟨ka0, ka1, ka2, ka3, ka4, ka5⟩ := zC6 hP2
 obtain ⟨kr0, kr1, kr2, kr3⟩ := zC4 hQ2
 obtain ⟨w3, hw3⟩ : ∃ w3, w2.alloc (.cells #[.int .u8 4] 5) = w3 := ⟨_, rfl⟩
 have hb3 := zB1 hw3
 have hz3 : w3.heap.size = w2.heap.size + 1 := by rw [← hw3]; simp
 have hs3 : SlI w3 w3.heap.size .u8 (some ⟨w2.heap.size, 0, none⟩) 1 1 [(4 : Int)] := by rw [← hw3]; exact SlI.of_lit rfl rfl (by omega)
 have hb3w := hb2w.trans (hb3.mono hb2w.size)
 have hP3 := hP2.below hb3 hP2.lt
 have hQ3 := hQ2.below hb3 hQ2.lt
 obtain ⟨ma0, ma1, ma2, ma3, ma4, ma5⟩ := zC6 hP3
 obtain ⟨mr0, mr1, mr2, mr3⟩ := zC4 hQ3
 have HRB := Lib.hid (rbytes_any R2 nr2 cr2 regs2 (by omega) hy2 w3 (HR2.out w3 hb3w))
 go_wp2_with fail
 refine HRB.out.mono ?_
 rintro e w4 ⟨v4, rfl, o4, hb4⟩
 obtain ⟨Aq, cq, rfl, sq⟩ := SlI.of_own o4
 have hb4w := hb3w.trans (hb4.mono hb3w.size)
 have HB := Lib.hid (behind_any _ 1 1 _ Aq _ cq _ w4 (hs3.up hb4) sq (by omega) (by omega))
 clear o4 sq
 go_wp2_with fail
 refine HB.out.mono ?_
 rintro e w5 ⟨v5, rfl, o5, hb5⟩
 go_wp2_with fail
 go_ret2
 exact ans_some (by rw [HN.out, if_neg (by have := B1.out; have := B2.out; omega)]; simp) o5 (hb4w.trans (hb5.mono hb4w.size))
theorem ansP_3 (addr count to : Int) (bits : List Bool) (regs : List Int) (bits2 : List Bool) (regs2 : List Int) (hm : mayP ⟨3, addr, count, to, bits, regs⟩ = true) : answerP ⟨3, addr, count, to, bits, regs⟩ ⟨3, 0, bits2, regs2⟩ = if (bits2.length : Int) ≠ 0 ∨ (regs2.length : Int) ≠ count then none else some (3 :: ((2 * regs2.length : Nat) : Int) :: twosI regs2) := by
 have e1 : wantB ⟨3, addr, count, to, bits, regs⟩ = 0 := by unfold wantB; rw [if_neg (by dsimp only; decide)]
 have e2 : wantR ⟨3, addr, count, to, bits, regs⟩ = count := by unfold wantR; rw [if_pos (by dsimp only; decide)]
 unfold answerP
 rw [if_neg (by rw [hm]; simp), if_neg (by dsimp only; decide), e1, e2]
 split
 ·rfl
 ·rw [if_neg (by dsimp only; decide), if_neg (by dsimp only; decide), if_neg (by dsimp only; decide)]
  congr 2
theorem ansP_4 (addr count to : Int) (bits : List Bool) (regs : List Int) (bits2 : List Bool) (regs2 : List Int) (hm : mayP ⟨4, addr, count, to, bits, regs⟩ = true) : answerP ⟨4, addr, count, to, bits, regs⟩ ⟨4, 0, bits2, regs2⟩ = if (bits2.length : Int) ≠ 0 ∨ (regs2.length : Int) ≠ count then none else some (4 :: ((2 * regs2.length : Nat) : Int) :: twosI regs2) := by
 have e1 : wantB ⟨4, addr, count, to, bits, regs⟩ = 0 := by unfold wantB; rw [if_neg (by dsimp only; decide)]
 have e2 : wantR ⟨4, addr, count, to, bits, regs⟩ = count := by unfold wantR; rw [if_pos (by dsimp only; decide)]
 unfold answerP
 rw [if_neg (by rw [hm]; simp), if_neg (by dsimp only; decide), e1, e2]
 split
 ·rfl
 ·rw [if_neg (by dsimp only; decide), if_neg (by dsimp only; decide), if_neg (by dsimp only; decide)]
  congr 2
theorem answer_own (u v : Value) (a : AskP) (r : RepP) (w : World) (hT : LimT w) (hu : AskAt w u a) (hv : RepAt w v r) (hy : Reg16 a.regs) (hy2 : Reg16 r.regs) (k1 : r.bits.length ≤ 100000) (k2 : r.regs.length ≤ 100000) (h34 : a.fn = 3 ∨ a.fn = 4) :
  Calls Tryd.prog 70 #[u, v] w (AnsPost w (answerP a r)) := by
 obtain ⟨A, nb, cb, R, nr, cr, rfl, hA, hR⟩ := hu
 obtain ⟨A2, nb2, cb2, R2, nr2, cr2, rfl, hA2, hR2⟩ := hv
 obtain ⟨fn, addr, count, to, bits, regs⟩ := a
 obtain ⟨rfn, code, bits2, regs2⟩ := r
 obtain rfl : bits.length = nb := hA.1
 obtain rfl : regs.length = nr := hR.1
 obtain rfl : bits2.length = nb2 := hA2.1
 obtain rfl : regs2.length = nr2 := hR2.1
 dsimp only at hA hR hA2 hR2 hy hy2 k1 k2 h34 ⊢
 cases hm : mayP ⟨fn, addr, count, to, bits, regs⟩ with
 | false => exact ans_may fn addr count to bits regs A _ cb R _ cr rfn code bits2 regs2 A2 _ cb2 R2 _ cr2 w hT hA hR hA2 hR2 _ hm (by unfold answerP; rw [if_pos (.inl hm)])
 | true =>
  by_cases hq : rfn = fn
  ·obtain ⟨⟨ha, ht⟩, hc⟩ := may_cases _ hm
   have h23 := (read_bytes _ hm).2.2.2.2
   simp only at hc ha ht h23
   by_cases hz : code = 0
   ·subst hz
    subst hq
    rcases hc with ⟨e, hn, _⟩ | ⟨e, hn, _⟩ | ⟨e, hn, ⟨b, hb⟩, hb2, _⟩ | ⟨e, hn, hb, ⟨x, hr⟩, _⟩ | ⟨e, hn, hb, hb2, _⟩ | ⟨e, hn, hb, hb2, _⟩ | ⟨e, hn, hb, hb2⟩
    ·exfalso; omega
    ·rename_i hh
     rcases e with e | e
     ·skip
      subst e
      by_cases b1 : (bits2.length : Int) = 0
      ·by_cases b2 : (regs2.length : Int) = count
       ·exact ans_3c 3 addr count to bits regs A _ cb R _ cr 3 0 bits2 regs2 A2 _ cb2 R2 _ cr2 w hT hA hR hA2 hR2 _ hm rfl rfl rfl hy hy2 ha (by rw [hh.1]; simp) (by rw [hh.2.1]; simp) (by omega) (ansP_3 addr count to bits regs bits2 regs2 hm) b1 b2
       ·exact ans_3b 3 addr count to bits regs A _ cb R _ cr 3 0 bits2 regs2 A2 _ cb2 R2 _ cr2 w hT hA hR hA2 hR2 _ hm rfl rfl rfl hy hy2 ha (by rw [hh.1]; simp) (by rw [hh.2.1]; simp) (by omega) (ansP_3 addr count to bits regs bits2 regs2 hm) b1 b2
      ·exact ans_3a 3 addr count to bits regs A _ cb R _ cr 3 0 bits2 regs2 A2 _ cb2 R2 _ cr2 w hT hA hR hA2 hR2 _ hm rfl rfl rfl hy hy2 ha (by rw [hh.1]; simp) (by rw [hh.2.1]; simp) (by omega) (ansP_3 addr count to bits regs bits2 regs2 hm) b1
     ·skip
      subst e
      by_cases b1 : (bits2.length : Int) = 0
      ·by_cases b2 : (regs2.length : Int) = count
       ·exact ans_4c 4 addr count to bits regs A _ cb R _ cr 4 0 bits2 regs2 A2 _ cb2 R2 _ cr2 w hT hA hR hA2 hR2 _ hm rfl rfl rfl hy hy2 ha (by rw [hh.1]; simp) (by rw [hh.2.1]; simp) (by omega) (ansP_4 addr count to bits regs bits2 regs2 hm) b1 b2
       ·exact ans_4b 4 addr count to bits regs A _ cb R _ cr 4 0 bits2 regs2 A2 _ cb2 R2 _ cr2 w hT hA hR hA2 hR2 _ hm rfl rfl rfl hy hy2 ha (by rw [hh.1]; simp) (by rw [hh.2.1]; simp) (by omega) (ansP_4 addr count to bits regs bits2 regs2 hm) b1 b2
      ·exact ans_4a 4 addr count to bits regs A _ cb R _ cr 4 0 bits2 regs2 A2 _ cb2 R2 _ cr2 w hT hA hR hA2 hR2 _ hm rfl rfl rfl hy hy2 ha (by rw [hh.1]; simp) (by rw [hh.2.1]; simp) (by omega) (ansP_4 addr count to bits regs bits2 regs2 hm) b1
    ·exfalso; omega
    ·exfalso; omega
    ·exfalso; omega
    ·exfalso; omega
    ·exfalso; omega
   ·refine ans_code fn addr count to bits regs A _ cb R _ cr rfn code bits2 regs2 A2 _ cb2 R2 _ cr2 w hT hA hR hA2 hR2 _ hm hq h23 hz k1 k2 ?_
    unfold answerP
    rw [if_neg (by rw [hm]; simp [hq]), if_pos hz]
  ·exact ans_fn fn addr count to bits regs A _ cb R _ cr rfn code bits2 regs2 A2 _ cb2 R2 _ cr2 w hT hA hR hA2 hR2 _ hm hq (by unfold answerP; rw [if_pos (.inr hq)])
end Go.Proofs.YtcipleanckeoaaaDoor
