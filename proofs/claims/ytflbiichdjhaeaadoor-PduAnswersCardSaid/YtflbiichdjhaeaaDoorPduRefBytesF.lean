/- kilowattref19.Bytes: 23. -/
import Derived.Test.YtflbiichdjhaeaaDoorPduMay
import Derived.Test.YtflbiichdjhaeaaDoorPduBytes
namespace Go.Proofs.YtflbiichdjhaeaaDoor
open Go.RowKit
set_option linter.unusedVariables false

set_option maxRecDepth 100000 in
set_option maxHeartbeats 2000000 in
theorem rb_23 (fn addr count to : Int) (bits : List Bool) (regs : List Int) (A : Option Addr) (nb cb : Nat) (R : Option Addr) (nr cr : Nat) (w : World) (hA : SlB w w.heap.size A nb cb bits) (hR : SlI w w.heap.size .u16 R nr cr regs) (hm : mayP ⟨fn, addr, count, to, bits, regs⟩ = true) (hy : Reg16 regs) (ha : 0 ≤ addr ∧ addr < 65536) (hfn : fn = 23) (hnr : 1 ≤ nr ∧ nr ≤ 121) (hcnt : 0 ≤ count ∧ count < 65536) (hto : 0 ≤ to ∧ to < 65536) : Calls Tryd.prog 20 #[.agg #[.int .i64 fn, .int .i64 addr, .int .i64 count, .int .i64 to, .slice A nb cb, .slice R nr cr]] w (BytesPost w ⟨fn, addr, count, to, bits, regs⟩) := by
  subst hfn
  obtain ⟨nr0, nr1⟩ := hnr
  have hpm : 2 * (nr : Int) % 256 = 2 * (nr : Int) := by omega
  obtain ⟨w1, hw1⟩ : ∃ w1, w.alloc (.cells #[.int .i64 23, .int .i64 addr, .int .i64 count, .int .i64 to, .slice A nb cb, .slice R nr cr] 25) = w1 := ⟨_, rfl⟩
  have hb1 : Below w.heap.size w w1 := by rw [← hw1]; exact (Below.refl _ w).alloc (Nat.le_refl _) _
  have hz1 : w1.heap.size = w.heap.size + 1 := by rw [← hw1]; simp
  have hP1 : Held w1 w.heap.size 25 #[.int .i64 23, .int .i64 addr, .int .i64 count, .int .i64 to, .slice A nb cb, .slice R nr cr] := by rw [← hw1]; exact Held.new _ _ _
  have hu := Tryd.underlying25
  have hsz : (Tryd.prog.info? 25).map (·.size) = some 6 := by kernel_rfl
  have hc := may_any (.agg #[.int .i64 23, .int .i64 addr, .int .i64 count, .int .i64 to, .slice A nb cb, .slice R nr cr]) ⟨23, addr, count, to, bits, regs⟩ w1 ⟨A, nb, cb, R, nr, cr, rfl, hA.up hb1, hR.up hb1⟩
  rw [hm] at hc
  have HC := Lib.hid hc
  clear hc
  obtain ⟨i0, hi, hz0, hz1', hz2'⟩ := info_parts infoU8
  have HM := Lib.hid hm
  have HA := Lib.hid (fun (X : World) (h : Below w.heap.size w X) => hA.up h)
  have HR := Lib.hid (fun (X : World) (h : Below w.heap.size w X) => hR.up h)
  have HLB := Lib.hid hA.1
  have HLR := Lib.hid hR.1
  clear hA hR hm
  have hf1 : True := by trivial
  have wr0 : True := by trivial
  go_in
  go_wp2_with ((with_reducible refine at_loadT 25 1 ?_); refine wpList_load_rowG rfl 25 (.tmp 1) rfl w.heap.size rfl 25 _ _ hP1 hu rfl hsz ?_)
  refine HC.out.mono ?_
  rintro e w2 ⟨rfl, hb2⟩
  go_wp2_with fail
  obtain ⟨wd, hwd⟩ : ∃ wd : World, w2.drew = wd := ⟨_, rfl⟩
  have hb2d : Below w1.heap.size w1 wd := by rw [← hwd]; exact hb2.drew
  have hPd := hP1.below hb2d hP1.lt
  have hld := hPd.lt
  have hbdw := hb1.trans (hb2d.mono (by omega))
  have hzd := hb2d.size
  refine wp_region_held (S := Below wd.heap.size wd) (by kernel_rfl) ?_
  change wpAnyH _ _ _ _ _ _ _ _ w2.drew
  rw [hwd]
  have hS := Below.refl wd.heap.size wd
  refine wpAnyH_take (i := 0) (v := ?v0_1) rfl (by kernel_rfl) (by kernel_rfl) (by kernel_rfl) (fun _ _ _ h => h) (Or.inl ⟨by rfl, ?y0_1⟩) hS ?r0_1
  case y0_1 =>
    rintro W hH
    have hPW := hPd.below hH hPd.lt
    have q0 : W.cell? ⟨w.heap.size, 0, none⟩ = some (.int .i64 23) := hPW.cell 0
    have q1 : W.cell? ⟨w.heap.size, 1, none⟩ = some (.int .i64 addr) := hPW.cell 1
    clear hPW
    go_simp
    with_reducible rfl
  simp only [Act.put]
  try simp only [List.getElem_toArray, List.getElem_cons_zero]
  try simp only [List.setIfInBounds_toArray, List.set_cons_succ, List.set_cons_zero]
  refine wpAnyH_take (i := 1) (v := ?v1_2) rfl (by kernel_rfl) (by kernel_rfl) (by kernel_rfl) (fun _ _ _ h => h) (Or.inl ⟨by rfl, ?y1_2⟩) hS ?r1_2
  case y1_2 =>
    rintro W hH
    have hPW := hPd.below hH hPd.lt
    have q0 : W.cell? ⟨w.heap.size, 0, none⟩ = some (.int .i64 23) := hPW.cell 0
    have q1 : W.cell? ⟨w.heap.size, 1, none⟩ = some (.int .i64 addr) := hPW.cell 1
    clear hPW
    go_simp
    with_reducible rfl
  simp only [Act.put]
  try simp only [List.getElem_toArray, List.getElem_cons_succ, List.getElem_cons_zero]
  try simp only [List.setIfInBounds_toArray, List.set_cons_succ, List.set_cons_zero]
  refine wpAnyH_take (i := 2) (v := ?v2_3) rfl (by kernel_rfl) (by kernel_rfl) (by kernel_rfl) (fun _ _ _ h => h) (Or.inl ⟨by rfl, ?y2_3⟩) hS ?r2_3
  case y2_3 =>
    rintro W hH
    have hPW := hPd.below hH hPd.lt
    have q0 : W.cell? ⟨w.heap.size, 0, none⟩ = some (.int .i64 23) := hPW.cell 0
    have q1 : W.cell? ⟨w.heap.size, 1, none⟩ = some (.int .i64 addr) := hPW.cell 1
    clear hPW
    go_simp
    with_reducible rfl
  simp only [Act.put]
  try simp only [List.getElem_toArray, List.getElem_cons_succ, List.getElem_cons_zero]
  try simp only [List.setIfInBounds_toArray, List.set_cons_succ, List.set_cons_zero]
  refine wpAnyH_take (i := 4) (v := ?v4_4) rfl (by kernel_rfl) (by kernel_rfl) (by kernel_rfl) (fun _ _ _ h => h) (Or.inl ⟨by rfl, ?y4_4⟩) hS ?r4_4
  case y4_4 =>
    rintro W hH
    have hPW := hPd.below hH hPd.lt
    have q0 : W.cell? ⟨w.heap.size, 0, none⟩ = some (.int .i64 23) := hPW.cell 0
    have q1 : W.cell? ⟨w.heap.size, 1, none⟩ = some (.int .i64 addr) := hPW.cell 1
    clear hPW
    go_simp
    with_reducible rfl
  simp only [Act.put]
  try simp only [List.getElem_toArray, List.getElem_cons_succ, List.getElem_cons_zero]
  try simp only [List.setIfInBounds_toArray, List.set_cons_succ, List.set_cons_zero]
  refine wpAnyH_take (i := 5) (v := ?v5_5) rfl (by kernel_rfl) (by kernel_rfl) (by kernel_rfl) (fun _ _ _ h => h) (Or.inl ⟨by rfl, ?y5_5⟩) hS ?r5_5
  case y5_5 =>
    rintro W hH
    have hPW := hPd.below hH hPd.lt
    have q0 : W.cell? ⟨w.heap.size, 0, none⟩ = some (.int .i64 23) := hPW.cell 0
    have q1 : W.cell? ⟨w.heap.size, 1, none⟩ = some (.int .i64 addr) := hPW.cell 1
    clear hPW
    go_simp
    with_reducible rfl
  simp only [Act.put]
  try simp only [List.getElem_toArray, List.getElem_cons_succ, List.getElem_cons_zero]
  try simp only [List.setIfInBounds_toArray, List.set_cons_succ, List.set_cons_zero]
  refine wpAnyH_ready (rs := [3, 6]) (by kernel_rfl) (by simp) ?_
  refine AllReadyH.cons rfl (fun K' hK' => ?_) (AllReadyH.cons rfl (fun K' hK' => ?_) AllReadyH.nil)
  · skip
    go_simp
    have hSt := hS.alloc (Nat.le_refl _) (.cells #[.int .u8 23] 5)
    refine hK'.out _ _ hSt (fun hS => ?_)
    clear hK' K'
    refine wpAnyH_ready (rs := [6]) (by kernel_rfl) (by simp) ?_
    refine AllReadyH.cons rfl (fun K' hK' => ?_) AllReadyH.nil
    go_simp
    refine (two_any addr ha _).mono ?_
    rintro e wt0 ⟨rfl, hwt⟩
    have hbt : Below (wd.alloc (.cells #[.int .u8 23] 5)).heap.size (wd.alloc (.cells #[.int .u8 23] 5)) wt0 := by rw [hwt]; exact (Below.refl _ _).alloc (Nat.le_refl _) _
    have hst : SlI wt0 wt0.heap.size .u8 (some ⟨(wd.alloc (.cells #[.int .u8 23] 5)).heap.size, 0, none⟩) 2 2 (twoI addr) := by rw [hwt]; exact two_sl addr _
    have hSt := hS.trans (hbt.mono hS.size)
    have hzt := hSt.size
    have hown := own_up (lit_own wd.heap.size wd 23 (Nat.le_refl _)) hbt
    have hsl := hst
    rw [World.size_alloc] at hsl
    clear hwt
    go_simp
    refine hK'.out _ _ hSt (fun hS => ?_)
    clear hK' K'
    refine wpAnyH_ready (rs := [7]) (by kernel_rfl) (by simp) ?_
    refine AllReadyH.cons rfl (fun K' hK' => ?_) AllReadyH.nil
    refine step_append_lies _ (by rfl) _ _ _ (by rfl) wd.heap.size 5 i0 (.int .u8 0) 1 1 Tryd.underlying28 hi hz0 hz1' hz2' rfl (by decide) _ 1 _ (by rfl) hown ⟨wd.heap.size + 1, 0, none⟩ 2 2 ((twoI addr).map (Value.int .u8)) (by rfl) (by rfl) (news_of hsl.2.2.2.2) (ints_oneCell _ _) (by omega) (by unfold maxLen; omega) (by omega) hSt.size _ rfl ?_
    intro g0 c0 wa0 oa0 hgr _ _
    have hSa := hSt.grown hgr hSt.size (fun j hj => (hown.lt j hj).1)
    clear hgr hS
    refine hK'.out _ _ hSa (fun hS => ?_)
    clear hK' K'
    refine wpAnyH_take (i := 8) (v := ?v8_6) rfl (by kernel_rfl) (by kernel_rfl) (by kernel_rfl) (fun _ _ _ h => h) (Or.inl ⟨by rfl, ?y8_6⟩) hS ?r8_6
    case y8_6 =>
      rintro W hH
      have hPW := hPd.below hH hPd.lt
      have q0 : W.cell? ⟨w.heap.size, 0, none⟩ = some (.int .i64 23) := hPW.cell 0
      have q1 : W.cell? ⟨w.heap.size, 1, none⟩ = some (.int .i64 addr) := hPW.cell 1
      clear hPW
      go_simp
      with_reducible rfl
    simp only [Act.put]
    try simp only [List.getElem_toArray, List.getElem_cons_succ, List.getElem_cons_zero]
    try simp only [List.setIfInBounds_toArray, List.set_cons_succ, List.set_cons_zero]
    refine wpAnyH_done (by kernel_rfl) ?_ _
    have hP0 := hPd
    have Bwa0 : Below wd.heap.size wd wa0 := hS
    have Zwa0 := Bwa0.size
    have hPwa0 := hPd.below Bwa0 hPd.lt
    have lhPwa0 := hPwa0.lt
    have oa0' : wa0.ownsRow wd.heap.size 5 1 (.slice (some ⟨g0, 0, none⟩) (1 + 2) c0) (1 + 2) ((23 :: twoI addr).map (Value.int .u8)) := oa0
    clear oa0 hown hsl hst
    have hPwa00 : wa0.cell? ⟨w.heap.size, 0, none⟩ = some (.int .i64 23) := hPwa0.cell 0
    have hPwa01 : wa0.cell? ⟨w.heap.size, 1, none⟩ = some (.int .i64 addr) := hPwa0.cell 1
    have hPwa02 : wa0.cell? ⟨w.heap.size, 2, none⟩ = some (.int .i64 count) := hPwa0.cell 2
    have hPwa03 : wa0.cell? ⟨w.heap.size, 3, none⟩ = some (.int .i64 to) := hPwa0.cell 3
    have hPwa04 : wa0.cell? ⟨w.heap.size, 4, none⟩ = some (.slice A nb cb) := hPwa0.cell 4
    have hPwa05 : wa0.cell? ⟨w.heap.size, 5, none⟩ = some (.slice R nr cr) := hPwa0.cell 5
    have HT1 := Lib.hid (two_any count hcnt wa0)
    go_wp2_with fail
    refine HT1.out.mono ?_
    rintro e wt1 ⟨rfl, hwt⟩
    have hbwt1 : Below wa0.heap.size wa0 wt1 := by rw [hwt]; exact (Below.refl _ wa0).alloc (Nat.le_refl _) _
    have st1 : SlI wt1 wt1.heap.size .u8 (some ⟨wa0.heap.size, 0, none⟩) 2 2 (twoI count) := by rw [hwt]; exact two_sl count wa0
    have ot1 := own_up oa0' hbwt1
    clear hwt
    have hzwt1 : wa0.heap.size ≤ wt1.heap.size := hbwt1.size
    have Bwt1 : Below wd.heap.size wd wt1 := Bwa0.trans (hbwt1.mono Bwa0.size)
    have Zwt1 := Bwt1.size
    have hPwt1 := hPwa0.below hbwt1 hPwa0.lt
    have lhPwt1 := hPwt1.lt
    have hPwt10 : wt1.cell? ⟨w.heap.size, 0, none⟩ = some (.int .i64 23) := hPwt1.cell 0
    have hPwt11 : wt1.cell? ⟨w.heap.size, 1, none⟩ = some (.int .i64 addr) := hPwt1.cell 1
    have hPwt12 : wt1.cell? ⟨w.heap.size, 2, none⟩ = some (.int .i64 count) := hPwt1.cell 2
    have hPwt13 : wt1.cell? ⟨w.heap.size, 3, none⟩ = some (.int .i64 to) := hPwt1.cell 3
    have hPwt14 : wt1.cell? ⟨w.heap.size, 4, none⟩ = some (.slice A nb cb) := hPwt1.cell 4
    have hPwt15 : wt1.cell? ⟨w.heap.size, 5, none⟩ = some (.slice R nr cr) := hPwt1.cell 5
    go_wp2_with ((with_reducible refine at_append ?_); refine wpList_append_sl wt1 rfl _ _ 28 rfl wd.heap.size 5 i0 (.int .u8 0) 1 Tryd.underlying28 hi hz0 hz1' hz2' rfl (.slice (some ⟨g0, 0, none⟩) (1 + 2) c0) (1 + 2) _ rfl ot1 wt1.heap.size .u8 (some ⟨wa0.heap.size, 0, none⟩) 2 2 (twoI count) rfl st1 (by unfold maxLen; omega) (by omega) Zwt1 ?_; intro va2 wa2 oa2 hgr hlies; have Bwa2 : Below wd.heap.size wd wa2 := Bwt1.grown hgr Zwt1 (fun j hj => (ot1.lt j hj).1); have Zwa2 := Bwa2.size; have hPwa2 := hP0.below Bwa2 hP0.lt; have lhPwa2 := hPwa2.lt; have hPwa20 : wa2.cell? ⟨w.heap.size, 0, none⟩ = some (.int .i64 23) := hPwa2.cell 0; have hPwa21 : wa2.cell? ⟨w.heap.size, 1, none⟩ = some (.int .i64 addr) := hPwa2.cell 1; have hPwa22 : wa2.cell? ⟨w.heap.size, 2, none⟩ = some (.int .i64 count) := hPwa2.cell 2; have hPwa23 : wa2.cell? ⟨w.heap.size, 3, none⟩ = some (.int .i64 to) := hPwa2.cell 3; have hPwa24 : wa2.cell? ⟨w.heap.size, 4, none⟩ = some (.slice A nb cb) := hPwa2.cell 4; have hPwa25 : wa2.cell? ⟨w.heap.size, 5, none⟩ = some (.slice R nr cr) := hPwa2.cell 5; rw [← List.map_append] at oa2; have Ooa2 := Lib.hid oa2; clear hgr hlies)
    have HT3 := Lib.hid (two_any to hto wa2)
    refine HT3.out.mono ?_
    rintro e wt3 ⟨rfl, hwt⟩
    have hbwt3 : Below wa2.heap.size wa2 wt3 := by rw [hwt]; exact (Below.refl _ wa2).alloc (Nat.le_refl _) _
    have st3 : SlI wt3 wt3.heap.size .u8 (some ⟨wa2.heap.size, 0, none⟩) 2 2 (twoI to) := by rw [hwt]; exact two_sl to wa2
    have ot3 := own_up oa2 hbwt3
    clear hwt
    have hzwt3 : wa2.heap.size ≤ wt3.heap.size := hbwt3.size
    have Bwt3 : Below wd.heap.size wd wt3 := Bwa2.trans (hbwt3.mono Bwa2.size)
    have Zwt3 := Bwt3.size
    have hPwt3 := hPwa2.below hbwt3 hPwa2.lt
    have lhPwt3 := hPwt3.lt
    have hPwt30 : wt3.cell? ⟨w.heap.size, 0, none⟩ = some (.int .i64 23) := hPwt3.cell 0
    have hPwt31 : wt3.cell? ⟨w.heap.size, 1, none⟩ = some (.int .i64 addr) := hPwt3.cell 1
    have hPwt32 : wt3.cell? ⟨w.heap.size, 2, none⟩ = some (.int .i64 count) := hPwt3.cell 2
    have hPwt33 : wt3.cell? ⟨w.heap.size, 3, none⟩ = some (.int .i64 to) := hPwt3.cell 3
    have hPwt34 : wt3.cell? ⟨w.heap.size, 4, none⟩ = some (.slice A nb cb) := hPwt3.cell 4
    have hPwt35 : wt3.cell? ⟨w.heap.size, 5, none⟩ = some (.slice R nr cr) := hPwt3.cell 5
    go_wp2_with ((with_reducible refine at_append ?_); refine wpList_append_sl wt3 rfl _ _ 28 rfl wd.heap.size 5 i0 (.int .u8 0) 1 Tryd.underlying28 hi hz0 hz1' hz2' rfl va2 ((1 + 2) + 2) _ rfl ot3 wt3.heap.size .u8 (some ⟨wa2.heap.size, 0, none⟩) 2 2 (twoI to) rfl st3 (by unfold maxLen; omega) (by omega) Zwt3 ?_; intro va4 wa4 oa4 hgr hlies; have Bwa4 : Below wd.heap.size wd wa4 := Bwt3.grown hgr Zwt3 (fun j hj => (ot3.lt j hj).1); have Zwa4 := Bwa4.size; have hPwa4 := hP0.below Bwa4 hP0.lt; have lhPwa4 := hPwa4.lt; have hPwa40 : wa4.cell? ⟨w.heap.size, 0, none⟩ = some (.int .i64 23) := hPwa4.cell 0; have hPwa41 : wa4.cell? ⟨w.heap.size, 1, none⟩ = some (.int .i64 addr) := hPwa4.cell 1; have hPwa42 : wa4.cell? ⟨w.heap.size, 2, none⟩ = some (.int .i64 count) := hPwa4.cell 2; have hPwa43 : wa4.cell? ⟨w.heap.size, 3, none⟩ = some (.int .i64 to) := hPwa4.cell 3; have hPwa44 : wa4.cell? ⟨w.heap.size, 4, none⟩ = some (.slice A nb cb) := hPwa4.cell 4; have hPwa45 : wa4.cell? ⟨w.heap.size, 5, none⟩ = some (.slice R nr cr) := hPwa4.cell 5; rw [← List.map_append] at oa4; have Ooa4 := Lib.hid oa4; clear hgr hlies)
    have HT5 := Lib.hid (two_any (nr : Int) (by omega) wa4)
    refine HT5.out.mono ?_
    rintro e wt5 ⟨rfl, hwt⟩
    have hbwt5 : Below wa4.heap.size wa4 wt5 := by rw [hwt]; exact (Below.refl _ wa4).alloc (Nat.le_refl _) _
    have st5 : SlI wt5 wt5.heap.size .u8 (some ⟨wa4.heap.size, 0, none⟩) 2 2 (twoI (nr : Int)) := by rw [hwt]; exact two_sl (nr : Int) wa4
    have ot5 := own_up oa4 hbwt5
    clear hwt
    have hzwt5 : wa4.heap.size ≤ wt5.heap.size := hbwt5.size
    have Bwt5 : Below wd.heap.size wd wt5 := Bwa4.trans (hbwt5.mono Bwa4.size)
    have Zwt5 := Bwt5.size
    have hPwt5 := hPwa4.below hbwt5 hPwa4.lt
    have lhPwt5 := hPwt5.lt
    have hPwt50 : wt5.cell? ⟨w.heap.size, 0, none⟩ = some (.int .i64 23) := hPwt5.cell 0
    have hPwt51 : wt5.cell? ⟨w.heap.size, 1, none⟩ = some (.int .i64 addr) := hPwt5.cell 1
    have hPwt52 : wt5.cell? ⟨w.heap.size, 2, none⟩ = some (.int .i64 count) := hPwt5.cell 2
    have hPwt53 : wt5.cell? ⟨w.heap.size, 3, none⟩ = some (.int .i64 to) := hPwt5.cell 3
    have hPwt54 : wt5.cell? ⟨w.heap.size, 4, none⟩ = some (.slice A nb cb) := hPwt5.cell 4
    have hPwt55 : wt5.cell? ⟨w.heap.size, 5, none⟩ = some (.slice R nr cr) := hPwt5.cell 5
    go_wp2_with (first
      | ((with_reducible refine at_append ?_); refine wpList_append_sl wt5 rfl _ _ 28 rfl wd.heap.size 5 i0 (.int .u8 0) 1 Tryd.underlying28 hi hz0 hz1' hz2' rfl va4 (((1 + 2) + 2) + 2) _ rfl ot5 wt5.heap.size .u8 (some ⟨wa4.heap.size, 0, none⟩) 2 2 (twoI (nr : Int)) rfl st5 (by unfold maxLen; omega) (by omega) Zwt5 ?_; intro va6 wa6 oa6 hgr hlies; have Bwa6 : Below wd.heap.size wd wa6 := Bwt5.grown hgr Zwt5 (fun j hj => (ot5.lt j hj).1); have Zwa6 := Bwa6.size; have hPwa6 := hP0.below Bwa6 hP0.lt; have lhPwa6 := hPwa6.lt; have hPwa60 : wa6.cell? ⟨w.heap.size, 0, none⟩ = some (.int .i64 23) := hPwa6.cell 0; have hPwa61 : wa6.cell? ⟨w.heap.size, 1, none⟩ = some (.int .i64 addr) := hPwa6.cell 1; have hPwa62 : wa6.cell? ⟨w.heap.size, 2, none⟩ = some (.int .i64 count) := hPwa6.cell 2; have hPwa63 : wa6.cell? ⟨w.heap.size, 3, none⟩ = some (.int .i64 to) := hPwa6.cell 3; have hPwa64 : wa6.cell? ⟨w.heap.size, 4, none⟩ = some (.slice A nb cb) := hPwa6.cell 4; have hPwa65 : wa6.cell? ⟨w.heap.size, 5, none⟩ = some (.slice R nr cr) := hPwa6.cell 5; rw [← List.map_append] at oa6; have Ooa6 := Lib.hid oa6; clear hgr hlies)
      | ((with_reducible refine at_append ?_); refine wpList_append_sl (wa6.alloc (.cells #[.int .u8 (2 * (nr : Int))] 5)) rfl _ _ 28 rfl wd.heap.size 5 i0 (.int .u8 0) 1 Tryd.underlying28 hi hz0 hz1' hz2' rfl va6 ((((1 + 2) + 2) + 2) + 2) _ rfl (oa6.alloc (.cells #[.int .u8 (2 * (nr : Int))] 5)) (wa6.alloc (.cells #[.int .u8 (2 * (nr : Int))] 5)).heap.size .u8 (some ⟨wa6.heap.size, 0, none⟩) 1 1 [(2 * (nr : Int))] rfl (SlI.of_lit (w := wa6) (T := 5) (cs := #[.int .u8 (2 * (nr : Int))]) rfl rfl (by omega)) (by unfold maxLen; omega) (by omega) (by rw [World.size_alloc]; omega) ?_; intro va7 wa7 oa7 hgr hlies; have Bwa7 : Below wd.heap.size wd wa7 := (Bwa6.alloc Zwa6 (.cells #[.int .u8 (2 * (nr : Int))] 5)).grown hgr (by rw [World.size_alloc]; omega) (fun j hj => (oa6.lt j hj).1); have Zwa7 := Bwa7.size; have hPwa7 := hP0.below Bwa7 hP0.lt; have lhPwa7 := hPwa7.lt; have hPwa70 : wa7.cell? ⟨w.heap.size, 0, none⟩ = some (.int .i64 23) := hPwa7.cell 0; have hPwa71 : wa7.cell? ⟨w.heap.size, 1, none⟩ = some (.int .i64 addr) := hPwa7.cell 1; have hPwa72 : wa7.cell? ⟨w.heap.size, 2, none⟩ = some (.int .i64 count) := hPwa7.cell 2; have hPwa73 : wa7.cell? ⟨w.heap.size, 3, none⟩ = some (.int .i64 to) := hPwa7.cell 3; have hPwa74 : wa7.cell? ⟨w.heap.size, 4, none⟩ = some (.slice A nb cb) := hPwa7.cell 4; have hPwa75 : wa7.cell? ⟨w.heap.size, 5, none⟩ = some (.slice R nr cr) := hPwa7.cell 5; rw [← List.map_append] at oa7; have Ooa7 := Lib.hid oa7; clear hgr hlies))
    have HC8 := Lib.hid (rwords_any R nr cr regs (by omega) wa7 (HR.out wa7 (hbdw.trans (Bwa7.mono hbdw.size))) hy)
    refine HC8.out.mono ?_
    rintro e wc8 ⟨vp, rfl, op, hbwc8⟩
    have gp := fun g h => (op.lt g h).1
    obtain ⟨Ap, cp, rfl, sp0⟩ := SlI.of_own op
    have fp0 : OffRow va7 Ap := fun g hg a ha e => by { subst ha; have h1 := gp a.block rfl; have h2 := (oa7.lt g hg).2; omega }
    have ot8 := own_up oa7 hbwc8
    clear op gp
    have hzwc8 : wa7.heap.size ≤ wc8.heap.size := hbwc8.size
    have Bwc8 : Below wd.heap.size wd wc8 := Bwa7.trans (hbwc8.mono Bwa7.size)
    have Zwc8 := Bwc8.size
    have hPwc8 := hPwa7.below hbwc8 hPwa7.lt
    have lhPwc8 := hPwc8.lt
    have hPwc80 : wc8.cell? ⟨w.heap.size, 0, none⟩ = some (.int .i64 23) := hPwc8.cell 0
    have hPwc81 : wc8.cell? ⟨w.heap.size, 1, none⟩ = some (.int .i64 addr) := hPwc8.cell 1
    have hPwc82 : wc8.cell? ⟨w.heap.size, 2, none⟩ = some (.int .i64 count) := hPwc8.cell 2
    have hPwc83 : wc8.cell? ⟨w.heap.size, 3, none⟩ = some (.int .i64 to) := hPwc8.cell 3
    have hPwc84 : wc8.cell? ⟨w.heap.size, 4, none⟩ = some (.slice A nb cb) := hPwc8.cell 4
    have hPwc85 : wc8.cell? ⟨w.heap.size, 5, none⟩ = some (.slice R nr cr) := hPwc8.cell 5
    have spwc8 := sp0
    have fpwc8 := fp0
    go_wp2_with ((with_reducible refine at_append ?_); refine wpList_append_sl wc8 rfl _ _ 28 rfl wd.heap.size 5 i0 (.int .u8 0) 1 Tryd.underlying28 hi hz0 hz1' hz2' rfl va7 (((((1 + 2) + 2) + 2) + 2) + 1) _ rfl ot8 wc8.heap.size .u8 Ap (2 * nr) cp (twosI regs) rfl spwc8 (by unfold maxLen; omega) (by omega) Zwc8 ?_; intro va9 wa9 oa9 hgr hlies; have spwa9 := spwc8.grown hgr fpwc8; have fpwa9 := fpwc8.next spwc8 (by omega) hlies; have Bwa9 : Below wd.heap.size wd wa9 := Bwc8.grown hgr Zwc8 (fun j hj => (ot8.lt j hj).1); have Zwa9 := Bwa9.size; have hPwa9 := hP0.below Bwa9 hP0.lt; have lhPwa9 := hPwa9.lt; have hPwa90 : wa9.cell? ⟨w.heap.size, 0, none⟩ = some (.int .i64 23) := hPwa9.cell 0; have hPwa91 : wa9.cell? ⟨w.heap.size, 1, none⟩ = some (.int .i64 addr) := hPwa9.cell 1; have hPwa92 : wa9.cell? ⟨w.heap.size, 2, none⟩ = some (.int .i64 count) := hPwa9.cell 2; have hPwa93 : wa9.cell? ⟨w.heap.size, 3, none⟩ = some (.int .i64 to) := hPwa9.cell 3; have hPwa94 : wa9.cell? ⟨w.heap.size, 4, none⟩ = some (.slice A nb cb) := hPwa9.cell 4; have hPwa95 : wa9.cell? ⟨w.heap.size, 5, none⟩ = some (.slice R nr cr) := hPwa9.cell 5; rw [← List.map_append] at oa9; have Ooa9 := Lib.hid oa9; clear hgr hlies)
    go_ret2
    exact bytes_post HM.out (by unfold bytesP; simp only; rw [if_neg (by omega), if_neg (by omega), if_neg (by omega), if_neg (by omega), if_pos trivial, HLR.out]; simp) oa9 (hbdw.trans (Bwa9.mono hbdw.size))
  · skip
    go_simp
    refine (two_any addr ha _).mono ?_
    rintro e wt0 ⟨rfl, hwt⟩
    have hbt : Below wd.heap.size wd wt0 := by rw [hwt]; exact (Below.refl _ _).alloc (Nat.le_refl _) _
    have hst : SlI wt0 wt0.heap.size .u8 (some ⟨wd.heap.size, 0, none⟩) 2 2 (twoI addr) := by rw [hwt]; exact two_sl addr _
    have hSt := hS.trans (hbt.mono hS.size)
    have hzt := hSt.size
    clear hwt
    go_simp
    refine hK'.out _ _ hSt (fun hS => ?_)
    clear hK' K'
    refine wpAnyH_ready (rs := [3]) (by kernel_rfl) (by simp) ?_
    refine AllReadyH.cons rfl (fun K' hK' => ?_) AllReadyH.nil
    go_simp
    have hown := lit_own wd.heap.size wt0 23 hzt
    have hsl := hst.alloc (.cells #[.int .u8 23] 5)
    have hSt := hS.alloc hzt (.cells #[.int .u8 23] 5)
    refine hK'.out _ _ hSt (fun hS => ?_)
    clear hK' K'
    refine wpAnyH_ready (rs := [7]) (by kernel_rfl) (by simp) ?_
    refine AllReadyH.cons rfl (fun K' hK' => ?_) AllReadyH.nil
    refine step_append_lies _ (by rfl) _ _ _ (by rfl) wd.heap.size 5 i0 (.int .u8 0) 1 1 Tryd.underlying28 hi hz0 hz1' hz2' rfl (by decide) _ 1 _ (by rfl) hown ⟨wd.heap.size, 0, none⟩ 2 2 ((twoI addr).map (Value.int .u8)) (by rfl) (by rfl) (news_of hsl.2.2.2.2) (ints_oneCell _ _) (by omega) (by unfold maxLen; omega) (by omega) hSt.size _ rfl ?_
    intro g0 c0 wa0 oa0 hgr _ _
    have hSa := hSt.grown hgr hSt.size (fun j hj => (hown.lt j hj).1)
    clear hgr hS
    refine hK'.out _ _ hSa (fun hS => ?_)
    clear hK' K'
    refine wpAnyH_take (i := 8) (v := ?v8_7) rfl (by kernel_rfl) (by kernel_rfl) (by kernel_rfl) (fun _ _ _ h => h) (Or.inl ⟨by rfl, ?y8_7⟩) hS ?r8_7
    case y8_7 =>
      rintro W hH
      have hPW := hPd.below hH hPd.lt
      have q0 : W.cell? ⟨w.heap.size, 0, none⟩ = some (.int .i64 23) := hPW.cell 0
      have q1 : W.cell? ⟨w.heap.size, 1, none⟩ = some (.int .i64 addr) := hPW.cell 1
      clear hPW
      go_simp
      with_reducible rfl
    simp only [Act.put]
    try simp only [List.getElem_toArray, List.getElem_cons_succ, List.getElem_cons_zero]
    try simp only [List.setIfInBounds_toArray, List.set_cons_succ, List.set_cons_zero]
    refine wpAnyH_done (by kernel_rfl) ?_ _
    have hP0 := hPd
    have Bwa0 : Below wd.heap.size wd wa0 := hS
    have Zwa0 := Bwa0.size
    have hPwa0 := hPd.below Bwa0 hPd.lt
    have lhPwa0 := hPwa0.lt
    have oa0' : wa0.ownsRow wd.heap.size 5 1 (.slice (some ⟨g0, 0, none⟩) (1 + 2) c0) (1 + 2) ((23 :: twoI addr).map (Value.int .u8)) := oa0
    clear oa0 hown hsl hst
    have hPwa00 : wa0.cell? ⟨w.heap.size, 0, none⟩ = some (.int .i64 23) := hPwa0.cell 0
    have hPwa01 : wa0.cell? ⟨w.heap.size, 1, none⟩ = some (.int .i64 addr) := hPwa0.cell 1
    have hPwa02 : wa0.cell? ⟨w.heap.size, 2, none⟩ = some (.int .i64 count) := hPwa0.cell 2
    have hPwa03 : wa0.cell? ⟨w.heap.size, 3, none⟩ = some (.int .i64 to) := hPwa0.cell 3
    have hPwa04 : wa0.cell? ⟨w.heap.size, 4, none⟩ = some (.slice A nb cb) := hPwa0.cell 4
    have hPwa05 : wa0.cell? ⟨w.heap.size, 5, none⟩ = some (.slice R nr cr) := hPwa0.cell 5
    have HT1 := Lib.hid (two_any count hcnt wa0)
    go_wp2_with fail
    refine HT1.out.mono ?_
    rintro e wt1 ⟨rfl, hwt⟩
    have hbwt1 : Below wa0.heap.size wa0 wt1 := by rw [hwt]; exact (Below.refl _ wa0).alloc (Nat.le_refl _) _
    have st1 : SlI wt1 wt1.heap.size .u8 (some ⟨wa0.heap.size, 0, none⟩) 2 2 (twoI count) := by rw [hwt]; exact two_sl count wa0
    have ot1 := own_up oa0' hbwt1
    clear hwt
    have hzwt1 : wa0.heap.size ≤ wt1.heap.size := hbwt1.size
    have Bwt1 : Below wd.heap.size wd wt1 := Bwa0.trans (hbwt1.mono Bwa0.size)
    have Zwt1 := Bwt1.size
    have hPwt1 := hPwa0.below hbwt1 hPwa0.lt
    have lhPwt1 := hPwt1.lt
    have hPwt10 : wt1.cell? ⟨w.heap.size, 0, none⟩ = some (.int .i64 23) := hPwt1.cell 0
    have hPwt11 : wt1.cell? ⟨w.heap.size, 1, none⟩ = some (.int .i64 addr) := hPwt1.cell 1
    have hPwt12 : wt1.cell? ⟨w.heap.size, 2, none⟩ = some (.int .i64 count) := hPwt1.cell 2
    have hPwt13 : wt1.cell? ⟨w.heap.size, 3, none⟩ = some (.int .i64 to) := hPwt1.cell 3
    have hPwt14 : wt1.cell? ⟨w.heap.size, 4, none⟩ = some (.slice A nb cb) := hPwt1.cell 4
    have hPwt15 : wt1.cell? ⟨w.heap.size, 5, none⟩ = some (.slice R nr cr) := hPwt1.cell 5
    go_wp2_with ((with_reducible refine at_append ?_); refine wpList_append_sl wt1 rfl _ _ 28 rfl wd.heap.size 5 i0 (.int .u8 0) 1 Tryd.underlying28 hi hz0 hz1' hz2' rfl (.slice (some ⟨g0, 0, none⟩) (1 + 2) c0) (1 + 2) _ rfl ot1 wt1.heap.size .u8 (some ⟨wa0.heap.size, 0, none⟩) 2 2 (twoI count) rfl st1 (by unfold maxLen; omega) (by omega) Zwt1 ?_; intro va2 wa2 oa2 hgr hlies; have Bwa2 : Below wd.heap.size wd wa2 := Bwt1.grown hgr Zwt1 (fun j hj => (ot1.lt j hj).1); have Zwa2 := Bwa2.size; have hPwa2 := hP0.below Bwa2 hP0.lt; have lhPwa2 := hPwa2.lt; have hPwa20 : wa2.cell? ⟨w.heap.size, 0, none⟩ = some (.int .i64 23) := hPwa2.cell 0; have hPwa21 : wa2.cell? ⟨w.heap.size, 1, none⟩ = some (.int .i64 addr) := hPwa2.cell 1; have hPwa22 : wa2.cell? ⟨w.heap.size, 2, none⟩ = some (.int .i64 count) := hPwa2.cell 2; have hPwa23 : wa2.cell? ⟨w.heap.size, 3, none⟩ = some (.int .i64 to) := hPwa2.cell 3; have hPwa24 : wa2.cell? ⟨w.heap.size, 4, none⟩ = some (.slice A nb cb) := hPwa2.cell 4; have hPwa25 : wa2.cell? ⟨w.heap.size, 5, none⟩ = some (.slice R nr cr) := hPwa2.cell 5; rw [← List.map_append] at oa2; have Ooa2 := Lib.hid oa2; clear hgr hlies)
    have HT3 := Lib.hid (two_any to hto wa2)
    refine HT3.out.mono ?_
    rintro e wt3 ⟨rfl, hwt⟩
    have hbwt3 : Below wa2.heap.size wa2 wt3 := by rw [hwt]; exact (Below.refl _ wa2).alloc (Nat.le_refl _) _
    have st3 : SlI wt3 wt3.heap.size .u8 (some ⟨wa2.heap.size, 0, none⟩) 2 2 (twoI to) := by rw [hwt]; exact two_sl to wa2
    have ot3 := own_up oa2 hbwt3
    clear hwt
    have hzwt3 : wa2.heap.size ≤ wt3.heap.size := hbwt3.size
    have Bwt3 : Below wd.heap.size wd wt3 := Bwa2.trans (hbwt3.mono Bwa2.size)
    have Zwt3 := Bwt3.size
    have hPwt3 := hPwa2.below hbwt3 hPwa2.lt
    have lhPwt3 := hPwt3.lt
    have hPwt30 : wt3.cell? ⟨w.heap.size, 0, none⟩ = some (.int .i64 23) := hPwt3.cell 0
    have hPwt31 : wt3.cell? ⟨w.heap.size, 1, none⟩ = some (.int .i64 addr) := hPwt3.cell 1
    have hPwt32 : wt3.cell? ⟨w.heap.size, 2, none⟩ = some (.int .i64 count) := hPwt3.cell 2
    have hPwt33 : wt3.cell? ⟨w.heap.size, 3, none⟩ = some (.int .i64 to) := hPwt3.cell 3
    have hPwt34 : wt3.cell? ⟨w.heap.size, 4, none⟩ = some (.slice A nb cb) := hPwt3.cell 4
    have hPwt35 : wt3.cell? ⟨w.heap.size, 5, none⟩ = some (.slice R nr cr) := hPwt3.cell 5
    go_wp2_with ((with_reducible refine at_append ?_); refine wpList_append_sl wt3 rfl _ _ 28 rfl wd.heap.size 5 i0 (.int .u8 0) 1 Tryd.underlying28 hi hz0 hz1' hz2' rfl va2 ((1 + 2) + 2) _ rfl ot3 wt3.heap.size .u8 (some ⟨wa2.heap.size, 0, none⟩) 2 2 (twoI to) rfl st3 (by unfold maxLen; omega) (by omega) Zwt3 ?_; intro va4 wa4 oa4 hgr hlies; have Bwa4 : Below wd.heap.size wd wa4 := Bwt3.grown hgr Zwt3 (fun j hj => (ot3.lt j hj).1); have Zwa4 := Bwa4.size; have hPwa4 := hP0.below Bwa4 hP0.lt; have lhPwa4 := hPwa4.lt; have hPwa40 : wa4.cell? ⟨w.heap.size, 0, none⟩ = some (.int .i64 23) := hPwa4.cell 0; have hPwa41 : wa4.cell? ⟨w.heap.size, 1, none⟩ = some (.int .i64 addr) := hPwa4.cell 1; have hPwa42 : wa4.cell? ⟨w.heap.size, 2, none⟩ = some (.int .i64 count) := hPwa4.cell 2; have hPwa43 : wa4.cell? ⟨w.heap.size, 3, none⟩ = some (.int .i64 to) := hPwa4.cell 3; have hPwa44 : wa4.cell? ⟨w.heap.size, 4, none⟩ = some (.slice A nb cb) := hPwa4.cell 4; have hPwa45 : wa4.cell? ⟨w.heap.size, 5, none⟩ = some (.slice R nr cr) := hPwa4.cell 5; rw [← List.map_append] at oa4; have Ooa4 := Lib.hid oa4; clear hgr hlies)
    have HT5 := Lib.hid (two_any (nr : Int) (by omega) wa4)
    refine HT5.out.mono ?_
    rintro e wt5 ⟨rfl, hwt⟩
    have hbwt5 : Below wa4.heap.size wa4 wt5 := by rw [hwt]; exact (Below.refl _ wa4).alloc (Nat.le_refl _) _
    have st5 : SlI wt5 wt5.heap.size .u8 (some ⟨wa4.heap.size, 0, none⟩) 2 2 (twoI (nr : Int)) := by rw [hwt]; exact two_sl (nr : Int) wa4
    have ot5 := own_up oa4 hbwt5
    clear hwt
    have hzwt5 : wa4.heap.size ≤ wt5.heap.size := hbwt5.size
    have Bwt5 : Below wd.heap.size wd wt5 := Bwa4.trans (hbwt5.mono Bwa4.size)
    have Zwt5 := Bwt5.size
    have hPwt5 := hPwa4.below hbwt5 hPwa4.lt
    have lhPwt5 := hPwt5.lt
    have hPwt50 : wt5.cell? ⟨w.heap.size, 0, none⟩ = some (.int .i64 23) := hPwt5.cell 0
    have hPwt51 : wt5.cell? ⟨w.heap.size, 1, none⟩ = some (.int .i64 addr) := hPwt5.cell 1
    have hPwt52 : wt5.cell? ⟨w.heap.size, 2, none⟩ = some (.int .i64 count) := hPwt5.cell 2
    have hPwt53 : wt5.cell? ⟨w.heap.size, 3, none⟩ = some (.int .i64 to) := hPwt5.cell 3
    have hPwt54 : wt5.cell? ⟨w.heap.size, 4, none⟩ = some (.slice A nb cb) := hPwt5.cell 4
    have hPwt55 : wt5.cell? ⟨w.heap.size, 5, none⟩ = some (.slice R nr cr) := hPwt5.cell 5
    go_wp2_with (first
      | ((with_reducible refine at_append ?_); refine wpList_append_sl wt5 rfl _ _ 28 rfl wd.heap.size 5 i0 (.int .u8 0) 1 Tryd.underlying28 hi hz0 hz1' hz2' rfl va4 (((1 + 2) + 2) + 2) _ rfl ot5 wt5.heap.size .u8 (some ⟨wa4.heap.size, 0, none⟩) 2 2 (twoI (nr : Int)) rfl st5 (by unfold maxLen; omega) (by omega) Zwt5 ?_; intro va6 wa6 oa6 hgr hlies; have Bwa6 : Below wd.heap.size wd wa6 := Bwt5.grown hgr Zwt5 (fun j hj => (ot5.lt j hj).1); have Zwa6 := Bwa6.size; have hPwa6 := hP0.below Bwa6 hP0.lt; have lhPwa6 := hPwa6.lt; have hPwa60 : wa6.cell? ⟨w.heap.size, 0, none⟩ = some (.int .i64 23) := hPwa6.cell 0; have hPwa61 : wa6.cell? ⟨w.heap.size, 1, none⟩ = some (.int .i64 addr) := hPwa6.cell 1; have hPwa62 : wa6.cell? ⟨w.heap.size, 2, none⟩ = some (.int .i64 count) := hPwa6.cell 2; have hPwa63 : wa6.cell? ⟨w.heap.size, 3, none⟩ = some (.int .i64 to) := hPwa6.cell 3; have hPwa64 : wa6.cell? ⟨w.heap.size, 4, none⟩ = some (.slice A nb cb) := hPwa6.cell 4; have hPwa65 : wa6.cell? ⟨w.heap.size, 5, none⟩ = some (.slice R nr cr) := hPwa6.cell 5; rw [← List.map_append] at oa6; have Ooa6 := Lib.hid oa6; clear hgr hlies)
      | ((with_reducible refine at_append ?_); refine wpList_append_sl (wa6.alloc (.cells #[.int .u8 (2 * (nr : Int))] 5)) rfl _ _ 28 rfl wd.heap.size 5 i0 (.int .u8 0) 1 Tryd.underlying28 hi hz0 hz1' hz2' rfl va6 ((((1 + 2) + 2) + 2) + 2) _ rfl (oa6.alloc (.cells #[.int .u8 (2 * (nr : Int))] 5)) (wa6.alloc (.cells #[.int .u8 (2 * (nr : Int))] 5)).heap.size .u8 (some ⟨wa6.heap.size, 0, none⟩) 1 1 [(2 * (nr : Int))] rfl (SlI.of_lit (w := wa6) (T := 5) (cs := #[.int .u8 (2 * (nr : Int))]) rfl rfl (by omega)) (by unfold maxLen; omega) (by omega) (by rw [World.size_alloc]; omega) ?_; intro va7 wa7 oa7 hgr hlies; have Bwa7 : Below wd.heap.size wd wa7 := (Bwa6.alloc Zwa6 (.cells #[.int .u8 (2 * (nr : Int))] 5)).grown hgr (by rw [World.size_alloc]; omega) (fun j hj => (oa6.lt j hj).1); have Zwa7 := Bwa7.size; have hPwa7 := hP0.below Bwa7 hP0.lt; have lhPwa7 := hPwa7.lt; have hPwa70 : wa7.cell? ⟨w.heap.size, 0, none⟩ = some (.int .i64 23) := hPwa7.cell 0; have hPwa71 : wa7.cell? ⟨w.heap.size, 1, none⟩ = some (.int .i64 addr) := hPwa7.cell 1; have hPwa72 : wa7.cell? ⟨w.heap.size, 2, none⟩ = some (.int .i64 count) := hPwa7.cell 2; have hPwa73 : wa7.cell? ⟨w.heap.size, 3, none⟩ = some (.int .i64 to) := hPwa7.cell 3; have hPwa74 : wa7.cell? ⟨w.heap.size, 4, none⟩ = some (.slice A nb cb) := hPwa7.cell 4; have hPwa75 : wa7.cell? ⟨w.heap.size, 5, none⟩ = some (.slice R nr cr) := hPwa7.cell 5; rw [← List.map_append] at oa7; have Ooa7 := Lib.hid oa7; clear hgr hlies))
    have HC8 := Lib.hid (rwords_any R nr cr regs (by omega) wa7 (HR.out wa7 (hbdw.trans (Bwa7.mono hbdw.size))) hy)
    refine HC8.out.mono ?_
    rintro e wc8 ⟨vp, rfl, op, hbwc8⟩
    have gp := fun g h => (op.lt g h).1
    obtain ⟨Ap, cp, rfl, sp0⟩ := SlI.of_own op
    have fp0 : OffRow va7 Ap := fun g hg a ha e => by { subst ha; have h1 := gp a.block rfl; have h2 := (oa7.lt g hg).2; omega }
    have ot8 := own_up oa7 hbwc8
    clear op gp
    have hzwc8 : wa7.heap.size ≤ wc8.heap.size := hbwc8.size
    have Bwc8 : Below wd.heap.size wd wc8 := Bwa7.trans (hbwc8.mono Bwa7.size)
    have Zwc8 := Bwc8.size
    have hPwc8 := hPwa7.below hbwc8 hPwa7.lt
    have lhPwc8 := hPwc8.lt
    have hPwc80 : wc8.cell? ⟨w.heap.size, 0, none⟩ = some (.int .i64 23) := hPwc8.cell 0
    have hPwc81 : wc8.cell? ⟨w.heap.size, 1, none⟩ = some (.int .i64 addr) := hPwc8.cell 1
    have hPwc82 : wc8.cell? ⟨w.heap.size, 2, none⟩ = some (.int .i64 count) := hPwc8.cell 2
    have hPwc83 : wc8.cell? ⟨w.heap.size, 3, none⟩ = some (.int .i64 to) := hPwc8.cell 3
    have hPwc84 : wc8.cell? ⟨w.heap.size, 4, none⟩ = some (.slice A nb cb) := hPwc8.cell 4
    have hPwc85 : wc8.cell? ⟨w.heap.size, 5, none⟩ = some (.slice R nr cr) := hPwc8.cell 5
    have spwc8 := sp0
    have fpwc8 := fp0
    go_wp2_with ((with_reducible refine at_append ?_); refine wpList_append_sl wc8 rfl _ _ 28 rfl wd.heap.size 5 i0 (.int .u8 0) 1 Tryd.underlying28 hi hz0 hz1' hz2' rfl va7 (((((1 + 2) + 2) + 2) + 2) + 1) _ rfl ot8 wc8.heap.size .u8 Ap (2 * nr) cp (twosI regs) rfl spwc8 (by unfold maxLen; omega) (by omega) Zwc8 ?_; intro va9 wa9 oa9 hgr hlies; have spwa9 := spwc8.grown hgr fpwc8; have fpwa9 := fpwc8.next spwc8 (by omega) hlies; have Bwa9 : Below wd.heap.size wd wa9 := Bwc8.grown hgr Zwc8 (fun j hj => (ot8.lt j hj).1); have Zwa9 := Bwa9.size; have hPwa9 := hP0.below Bwa9 hP0.lt; have lhPwa9 := hPwa9.lt; have hPwa90 : wa9.cell? ⟨w.heap.size, 0, none⟩ = some (.int .i64 23) := hPwa9.cell 0; have hPwa91 : wa9.cell? ⟨w.heap.size, 1, none⟩ = some (.int .i64 addr) := hPwa9.cell 1; have hPwa92 : wa9.cell? ⟨w.heap.size, 2, none⟩ = some (.int .i64 count) := hPwa9.cell 2; have hPwa93 : wa9.cell? ⟨w.heap.size, 3, none⟩ = some (.int .i64 to) := hPwa9.cell 3; have hPwa94 : wa9.cell? ⟨w.heap.size, 4, none⟩ = some (.slice A nb cb) := hPwa9.cell 4; have hPwa95 : wa9.cell? ⟨w.heap.size, 5, none⟩ = some (.slice R nr cr) := hPwa9.cell 5; rw [← List.map_append] at oa9; have Ooa9 := Lib.hid oa9; clear hgr hlies)
    go_ret2
    exact bytes_post HM.out (by unfold bytesP; simp only; rw [if_neg (by omega), if_neg (by omega), if_neg (by omega), if_neg (by omega), if_pos trivial, HLR.out]; simp) oa9 (hbdw.trans (Bwa9.mono hbdw.size))

end Go.Proofs.YtflbiichdjhaeaaDoor
