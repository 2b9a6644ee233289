/- kilowattref19.Bytes: what may not be; functions that read. -/
import Derived.Test.YtflbiichdjhaeaaDoorPduMay
import Derived.Test.YtflbiichdjhaeaaDoorPduBytes
namespace Go.Proofs.YtflbiichdjhaeaaDoor
open Go.RowKit
set_option linter.unusedVariables false

set_option maxRecDepth 100000 in
set_option maxHeartbeats 2000000 in
theorem rb_no (fn addr count to : Int) (bits : List Bool) (regs : List Int) (A : Option Addr) (nb cb : Nat) (R : Option Addr) (nr cr : Nat) (w : World) (hA : SlB w w.heap.size A nb cb bits) (hR : SlI w w.heap.size .u16 R nr cr regs) (hm : mayP ⟨fn, addr, count, to, bits, regs⟩ = false) : Calls Tryd.prog 20 #[.agg #[.int .i64 fn, .int .i64 addr, .int .i64 count, .int .i64 to, .slice A nb cb, .slice R nr cr]] w (BytesPost w ⟨fn, addr, count, to, bits, regs⟩) := by
  obtain ⟨w1, hw1⟩ : ∃ w1, w.alloc (.cells #[.int .i64 fn, .int .i64 addr, .int .i64 count, .int .i64 to, .slice A nb cb, .slice R nr cr] 25) = w1 := ⟨_, rfl⟩
  have hb1 : Below w.heap.size w w1 := by rw [← hw1]; exact (Below.refl _ w).alloc (Nat.le_refl _) _
  have hz1 : w1.heap.size = w.heap.size + 1 := by rw [← hw1]; simp
  have hP1 : Held w1 w.heap.size 25 #[.int .i64 fn, .int .i64 addr, .int .i64 count, .int .i64 to, .slice A nb cb, .slice R nr cr] := by rw [← hw1]; exact Held.new _ _ _
  have hu := Tryd.underlying25
  have hsz : (Tryd.prog.info? 25).map (·.size) = some 6 := by kernel_rfl
  have hc := may_any (.agg #[.int .i64 fn, .int .i64 addr, .int .i64 count, .int .i64 to, .slice A nb cb, .slice R nr cr]) ⟨fn, addr, count, to, bits, regs⟩ w1 ⟨A, nb, cb, R, nr, cr, rfl, hA.up hb1, hR.up hb1⟩
  rw [hm] at hc
  have HC := Lib.hid hc
  clear hc
  have HM := Lib.hid hm
  clear hA hR hm
  go_in
  go_wp2_with ((with_reducible refine at_loadT 25 1 ?_); refine wpList_load_rowG rfl 25 (.tmp 1) rfl w.heap.size rfl 25 _ _ hP1 hu rfl hsz ?_)
  refine HC.out.mono ?_
  rintro e w2 ⟨rfl, hb2⟩
  go_wp2_with fail
  go_ret2
  refine ⟨none, 0, 0, by rw [HM.out]; rfl, ?_, hb1.trans (hb2.mono (by omega))⟩
  unfold askL
  rw [if_neg (by rw [HM.out]; decide)]
  exact SlI.nil _ _ _
set_option maxRecDepth 100000 in
set_option maxHeartbeats 2000000 in
theorem rb_rd (fn addr count to : Int) (bits : List Bool) (regs : List Int) (A : Option Addr) (nb cb : Nat) (R : Option Addr) (nr cr : Nat) (w : World) (hA : SlB w w.heap.size A nb cb bits) (hR : SlI w w.heap.size .u16 R nr cr regs) (hm : mayP ⟨fn, addr, count, to, bits, regs⟩ = true) (hy : Reg16 regs) (ha : 0 ≤ addr ∧ addr < 65536) (hfn : fn = 1 ∨ fn = 2 ∨ fn = 3 ∨ fn = 4) (hcnt : 0 ≤ count ∧ count < 65536) : Calls Tryd.prog 20 #[.agg #[.int .i64 fn, .int .i64 addr, .int .i64 count, .int .i64 to, .slice A nb cb, .slice R nr cr]] w (BytesPost w ⟨fn, addr, count, to, bits, regs⟩) := by
  have e1 : (fn == 5) = false := by simp; omega
  have e2 : (fn == 6) = false := by simp; omega
  have e3 : (fn == 15) = false := by simp; omega
  have e4 : (fn == 23) = false := by simp; omega
  have e5 : (fn == 16) = false := by simp; omega
  have HF := Lib.hid hfn
  have f0 : 0 ≤ fn := by omega
  have f1 : fn < 256 := by omega
  clear hfn
  obtain ⟨w1, hw1⟩ : ∃ w1, w.alloc (.cells #[.int .i64 fn, .int .i64 addr, .int .i64 count, .int .i64 to, .slice A nb cb, .slice R nr cr] 25) = w1 := ⟨_, rfl⟩
  have hb1 : Below w.heap.size w w1 := by rw [← hw1]; exact (Below.refl _ w).alloc (Nat.le_refl _) _
  have hz1 : w1.heap.size = w.heap.size + 1 := by rw [← hw1]; simp
  have hP1 : Held w1 w.heap.size 25 #[.int .i64 fn, .int .i64 addr, .int .i64 count, .int .i64 to, .slice A nb cb, .slice R nr cr] := by rw [← hw1]; exact Held.new _ _ _
  have hu := Tryd.underlying25
  have hsz : (Tryd.prog.info? 25).map (·.size) = some 6 := by kernel_rfl
  have hc := may_any (.agg #[.int .i64 fn, .int .i64 addr, .int .i64 count, .int .i64 to, .slice A nb cb, .slice R nr cr]) ⟨fn, addr, count, to, bits, regs⟩ w1 ⟨A, nb, cb, R, nr, cr, rfl, hA.up hb1, hR.up hb1⟩
  rw [hm] at hc
  have HC := Lib.hid hc
  clear hc
  obtain ⟨i0, hi, hz0, hz1', hz2'⟩ := info_parts infoU8
  have HM := Lib.hid hm
  have HA := Lib.hid (fun (X : World) (h : Below w.heap.size w X) => hA.up h)
  have HR := Lib.hid (fun (X : World) (h : Below w.heap.size w X) => hR.up h)
  have HLB := Lib.hid hA.1
  have HLR := Lib.hid hR.1
  clear hA hR hm
  have hf1 : fn % 256 = fn := by omega
  have wr0 : IntKind.u8.wrap fn = fn := by rw [IntKind.wrap_u8]; omega
  go_in
  go_wp2_with ((with_reducible refine at_loadT 25 1 ?_); refine wpList_load_rowG rfl 25 (.tmp 1) rfl w.heap.size rfl 25 _ _ hP1 hu rfl hsz ?_)
  refine HC.out.mono ?_
  rintro e w2 ⟨rfl, hb2⟩
  go_wp2_with fail
  obtain ⟨wd, hwd⟩ : ∃ wd : World, w2.drew = wd := ⟨_, rfl⟩
  have hb2d : Below w1.heap.size w1 wd := by rw [← hwd]; exact hb2.drew
  have hPd := hP1.below hb2d hP1.lt
  have hld := hPd.lt
  have hbdw := hb1.trans (hb2d.mono (by omega))
  have hzd := hb2d.size
  refine wp_region_held (S := Below wd.heap.size wd) (by kernel_rfl) ?_
  change wpAnyH _ _ _ _ _ _ _ _ w2.drew
  rw [hwd]
  have hS := Below.refl wd.heap.size wd
  refine wpAnyH_take (i := 0) (v := ?v0_1) rfl (by kernel_rfl) (by kernel_rfl) (by kernel_rfl) (fun _ _ _ h => h) (Or.inl ⟨by rfl, ?y0_1⟩) hS ?r0_1
  case y0_1 =>
    rintro W hH
    have hPW := hPd.below hH hPd.lt
    have q0 : W.cell? ⟨w.heap.size, 0, none⟩ = some (.int .i64 fn) := hPW.cell 0
    have q1 : W.cell? ⟨w.heap.size, 1, none⟩ = some (.int .i64 addr) := hPW.cell 1
    clear hPW
    go_simp
    with_reducible rfl
  simp only [Act.put]
  try simp only [List.getElem_toArray, List.getElem_cons_zero]
  try simp only [List.setIfInBounds_toArray, List.set_cons_succ, List.set_cons_zero]
  refine wpAnyH_take (i := 1) (v := ?v1_2) rfl (by kernel_rfl) (by kernel_rfl) (by kernel_rfl) (fun _ _ _ h => h) (Or.inl ⟨by rfl, ?y1_2⟩) hS ?r1_2
  case y1_2 =>
    rintro W hH
    have hPW := hPd.below hH hPd.lt
    have q0 : W.cell? ⟨w.heap.size, 0, none⟩ = some (.int .i64 fn) := hPW.cell 0
    have q1 : W.cell? ⟨w.heap.size, 1, none⟩ = some (.int .i64 addr) := hPW.cell 1
    clear hPW
    go_simp
    with_reducible rfl
  simp only [Act.put]
  try simp only [List.getElem_toArray, List.getElem_cons_succ, List.getElem_cons_zero]
  try simp only [List.setIfInBounds_toArray, List.set_cons_succ, List.set_cons_zero]
  refine wpAnyH_take (i := 2) (v := ?v2_3) rfl (by kernel_rfl) (by kernel_rfl) (by kernel_rfl) (fun _ _ _ h => h) (Or.inl ⟨by rfl, ?y2_3⟩) hS ?r2_3
  case y2_3 =>
    rintro W hH
    have hPW := hPd.below hH hPd.lt
    have q0 : W.cell? ⟨w.heap.size, 0, none⟩ = some (.int .i64 fn) := hPW.cell 0
    have q1 : W.cell? ⟨w.heap.size, 1, none⟩ = some (.int .i64 addr) := hPW.cell 1
    clear hPW
    go_simp
    with_reducible rfl
  simp only [Act.put]
  try simp only [List.getElem_toArray, List.getElem_cons_succ, List.getElem_cons_zero]
  try simp only [List.setIfInBounds_toArray, List.set_cons_succ, List.set_cons_zero]
  refine wpAnyH_take (i := 4) (v := ?v4_4) rfl (by kernel_rfl) (by kernel_rfl) (by kernel_rfl) (fun _ _ _ h => h) (Or.inl ⟨by rfl, ?y4_4⟩) hS ?r4_4
  case y4_4 =>
    rintro W hH
    have hPW := hPd.below hH hPd.lt
    have q0 : W.cell? ⟨w.heap.size, 0, none⟩ = some (.int .i64 fn) := hPW.cell 0
    have q1 : W.cell? ⟨w.heap.size, 1, none⟩ = some (.int .i64 addr) := hPW.cell 1
    clear hPW
    go_simp
    with_reducible rfl
  simp only [Act.put]
  try simp only [List.getElem_toArray, List.getElem_cons_succ, List.getElem_cons_zero]
  try simp only [List.setIfInBounds_toArray, List.set_cons_succ, List.set_cons_zero]
  refine wpAnyH_take (i := 5) (v := ?v5_5) rfl (by kernel_rfl) (by kernel_rfl) (by kernel_rfl) (fun _ _ _ h => h) (Or.inl ⟨by rfl, ?y5_5⟩) hS ?r5_5
  case y5_5 =>
    rintro W hH
    have hPW := hPd.below hH hPd.lt
    have q0 : W.cell? ⟨w.heap.size, 0, none⟩ = some (.int .i64 fn) := hPW.cell 0
    have q1 : W.cell? ⟨w.heap.size, 1, none⟩ = some (.int .i64 addr) := hPW.cell 1
    clear hPW
    go_simp
    with_reducible rfl
  simp only [Act.put]
  try simp only [List.getElem_toArray, List.getElem_cons_succ, List.getElem_cons_zero]
  try simp only [List.setIfInBounds_toArray, List.set_cons_succ, List.set_cons_zero]
  refine wpAnyH_ready (rs := [3, 6]) (by kernel_rfl) (by simp) ?_
  refine AllReadyH.cons rfl (fun K' hK' => ?_) (AllReadyH.cons rfl (fun K' hK' => ?_) AllReadyH.nil)
  · skip
    go_simp
    have hSt := hS.alloc (Nat.le_refl _) (.cells #[.int .u8 fn] 5)
    refine hK'.out _ _ hSt (fun hS => ?_)
    clear hK' K'
    refine wpAnyH_ready (rs := [6]) (by kernel_rfl) (by simp) ?_
    refine AllReadyH.cons rfl (fun K' hK' => ?_) AllReadyH.nil
    go_simp
    refine (two_any addr ha _).mono ?_
    rintro e wt0 ⟨rfl, hwt⟩
    have hbt : Below (wd.alloc (.cells #[.int .u8 fn] 5)).heap.size (wd.alloc (.cells #[.int .u8 fn] 5)) wt0 := by rw [hwt]; exact (Below.refl _ _).alloc (Nat.le_refl _) _
    have hst : SlI wt0 wt0.heap.size .u8 (some ⟨(wd.alloc (.cells #[.int .u8 fn] 5)).heap.size, 0, none⟩) 2 2 (twoI addr) := by rw [hwt]; exact two_sl addr _
    have hSt := hS.trans (hbt.mono hS.size)
    have hzt := hSt.size
    have hown := own_up (lit_own wd.heap.size wd fn (Nat.le_refl _)) hbt
    have hsl := hst
    rw [World.size_alloc] at hsl
    clear hwt
    go_simp
    refine hK'.out _ _ hSt (fun hS => ?_)
    clear hK' K'
    refine wpAnyH_ready (rs := [7]) (by kernel_rfl) (by simp) ?_
    refine AllReadyH.cons rfl (fun K' hK' => ?_) AllReadyH.nil
    refine step_append_lies _ (by rfl) _ _ _ (by rfl) wd.heap.size 5 i0 (.int .u8 0) 1 1 Tryd.underlying28 hi hz0 hz1' hz2' rfl (by decide) _ 1 _ (by rfl) hown ⟨wd.heap.size + 1, 0, none⟩ 2 2 ((twoI addr).map (Value.int .u8)) (by rfl) (by rfl) (news_of hsl.2.2.2.2) (ints_oneCell _ _) (by omega) (by unfold maxLen; omega) (by omega) hSt.size _ rfl ?_
    intro g0 c0 wa0 oa0 hgr _ _
    have hSa := hSt.grown hgr hSt.size (fun j hj => (hown.lt j hj).1)
    clear hgr hS
    refine hK'.out _ _ hSa (fun hS => ?_)
    clear hK' K'
    refine wpAnyH_take (i := 8) (v := ?v8_6) rfl (by kernel_rfl) (by kernel_rfl) (by kernel_rfl) (fun _ _ _ h => h) (Or.inl ⟨by rfl, ?y8_6⟩) hS ?r8_6
    case y8_6 =>
      rintro W hH
      have hPW := hPd.below hH hPd.lt
      have q0 : W.cell? ⟨w.heap.size, 0, none⟩ = some (.int .i64 fn) := hPW.cell 0
      have q1 : W.cell? ⟨w.heap.size, 1, none⟩ = some (.int .i64 addr) := hPW.cell 1
      clear hPW
      go_simp
      with_reducible rfl
    simp only [Act.put]
    try simp only [List.getElem_toArray, List.getElem_cons_succ, List.getElem_cons_zero]
    try simp only [List.setIfInBounds_toArray, List.set_cons_succ, List.set_cons_zero]
    refine wpAnyH_done (by kernel_rfl) ?_ _
    have hP0 := hPd
    have Bwa0 : Below wd.heap.size wd wa0 := hS
    have Zwa0 := Bwa0.size
    have hPwa0 := hPd.below Bwa0 hPd.lt
    have lhPwa0 := hPwa0.lt
    have oa0' : wa0.ownsRow wd.heap.size 5 1 (.slice (some ⟨g0, 0, none⟩) (1 + 2) c0) (1 + 2) ((fn :: twoI addr).map (Value.int .u8)) := oa0
    clear oa0 hown hsl hst
    have hPwa00 : wa0.cell? ⟨w.heap.size, 0, none⟩ = some (.int .i64 fn) := hPwa0.cell 0
    have hPwa01 : wa0.cell? ⟨w.heap.size, 1, none⟩ = some (.int .i64 addr) := hPwa0.cell 1
    have hPwa02 : wa0.cell? ⟨w.heap.size, 2, none⟩ = some (.int .i64 count) := hPwa0.cell 2
    have hPwa03 : wa0.cell? ⟨w.heap.size, 3, none⟩ = some (.int .i64 to) := hPwa0.cell 3
    have hPwa04 : wa0.cell? ⟨w.heap.size, 4, none⟩ = some (.slice A nb cb) := hPwa0.cell 4
    have hPwa05 : wa0.cell? ⟨w.heap.size, 5, none⟩ = some (.slice R nr cr) := hPwa0.cell 5
    have HT1 := Lib.hid (two_any count hcnt wa0)
    go_wp2_with fail
    refine HT1.out.mono ?_
    rintro e wt1 ⟨rfl, hwt⟩
    have hbwt1 : Below wa0.heap.size wa0 wt1 := by rw [hwt]; exact (Below.refl _ wa0).alloc (Nat.le_refl _) _
    have st1 : SlI wt1 wt1.heap.size .u8 (some ⟨wa0.heap.size, 0, none⟩) 2 2 (twoI count) := by rw [hwt]; exact two_sl count wa0
    have ot1 := own_up oa0' hbwt1
    clear hwt
    have hzwt1 : wa0.heap.size ≤ wt1.heap.size := hbwt1.size
    have Bwt1 : Below wd.heap.size wd wt1 := Bwa0.trans (hbwt1.mono Bwa0.size)
    have Zwt1 := Bwt1.size
    have hPwt1 := hPwa0.below hbwt1 hPwa0.lt
    have lhPwt1 := hPwt1.lt
    have hPwt10 : wt1.cell? ⟨w.heap.size, 0, none⟩ = some (.int .i64 fn) := hPwt1.cell 0
    have hPwt11 : wt1.cell? ⟨w.heap.size, 1, none⟩ = some (.int .i64 addr) := hPwt1.cell 1
    have hPwt12 : wt1.cell? ⟨w.heap.size, 2, none⟩ = some (.int .i64 count) := hPwt1.cell 2
    have hPwt13 : wt1.cell? ⟨w.heap.size, 3, none⟩ = some (.int .i64 to) := hPwt1.cell 3
    have hPwt14 : wt1.cell? ⟨w.heap.size, 4, none⟩ = some (.slice A nb cb) := hPwt1.cell 4
    have hPwt15 : wt1.cell? ⟨w.heap.size, 5, none⟩ = some (.slice R nr cr) := hPwt1.cell 5
    go_wp2_with ((with_reducible refine at_append ?_); refine wpList_append_sl wt1 rfl _ _ 28 rfl wd.heap.size 5 i0 (.int .u8 0) 1 Tryd.underlying28 hi hz0 hz1' hz2' rfl (.slice (some ⟨g0, 0, none⟩) (1 + 2) c0) (1 + 2) _ rfl ot1 wt1.heap.size .u8 (some ⟨wa0.heap.size, 0, none⟩) 2 2 (twoI count) rfl st1 (by unfold maxLen; omega) (by omega) Zwt1 ?_; intro va2 wa2 oa2 hgr hlies; have Bwa2 : Below wd.heap.size wd wa2 := Bwt1.grown hgr Zwt1 (fun j hj => (ot1.lt j hj).1); have Zwa2 := Bwa2.size; have hPwa2 := hP0.below Bwa2 hP0.lt; have lhPwa2 := hPwa2.lt; have hPwa20 : wa2.cell? ⟨w.heap.size, 0, none⟩ = some (.int .i64 fn) := hPwa2.cell 0; have hPwa21 : wa2.cell? ⟨w.heap.size, 1, none⟩ = some (.int .i64 addr) := hPwa2.cell 1; have hPwa22 : wa2.cell? ⟨w.heap.size, 2, none⟩ = some (.int .i64 count) := hPwa2.cell 2; have hPwa23 : wa2.cell? ⟨w.heap.size, 3, none⟩ = some (.int .i64 to) := hPwa2.cell 3; have hPwa24 : wa2.cell? ⟨w.heap.size, 4, none⟩ = some (.slice A nb cb) := hPwa2.cell 4; have hPwa25 : wa2.cell? ⟨w.heap.size, 5, none⟩ = some (.slice R nr cr) := hPwa2.cell 5; rw [← List.map_append] at oa2; have Ooa2 := Lib.hid oa2; clear hgr hlies)
    go_ret2
    exact bytes_post HM.out (by unfold bytesP; have := HF.out; simp only; rw [if_neg (by omega), if_neg (by omega), if_neg (by omega), if_neg (by omega), if_neg (by omega)]) oa2 (hbdw.trans (Bwa2.mono hbdw.size))
  · skip
    go_simp
    refine (two_any addr ha _).mono ?_
    rintro e wt0 ⟨rfl, hwt⟩
    have hbt : Below wd.heap.size wd wt0 := by rw [hwt]; exact (Below.refl _ _).alloc (Nat.le_refl _) _
    have hst : SlI wt0 wt0.heap.size .u8 (some ⟨wd.heap.size, 0, none⟩) 2 2 (twoI addr) := by rw [hwt]; exact two_sl addr _
    have hSt := hS.trans (hbt.mono hS.size)
    have hzt := hSt.size
    clear hwt
    go_simp
    refine hK'.out _ _ hSt (fun hS => ?_)
    clear hK' K'
    refine wpAnyH_ready (rs := [3]) (by kernel_rfl) (by simp) ?_
    refine AllReadyH.cons rfl (fun K' hK' => ?_) AllReadyH.nil
    go_simp
    have hown := lit_own wd.heap.size wt0 fn hzt
    have hsl := hst.alloc (.cells #[.int .u8 fn] 5)
    have hSt := hS.alloc hzt (.cells #[.int .u8 fn] 5)
    refine hK'.out _ _ hSt (fun hS => ?_)
    clear hK' K'
    refine wpAnyH_ready (rs := [7]) (by kernel_rfl) (by simp) ?_
    refine AllReadyH.cons rfl (fun K' hK' => ?_) AllReadyH.nil
    refine step_append_lies _ (by rfl) _ _ _ (by rfl) wd.heap.size 5 i0 (.int .u8 0) 1 1 Tryd.underlying28 hi hz0 hz1' hz2' rfl (by decide) _ 1 _ (by rfl) hown ⟨wd.heap.size, 0, none⟩ 2 2 ((twoI addr).map (Value.int .u8)) (by rfl) (by rfl) (news_of hsl.2.2.2.2) (ints_oneCell _ _) (by omega) (by unfold maxLen; omega) (by omega) hSt.size _ rfl ?_
    intro g0 c0 wa0 oa0 hgr _ _
    have hSa := hSt.grown hgr hSt.size (fun j hj => (hown.lt j hj).1)
    clear hgr hS
    refine hK'.out _ _ hSa (fun hS => ?_)
    clear hK' K'
    refine wpAnyH_take (i := 8) (v := ?v8_7) rfl (by kernel_rfl) (by kernel_rfl) (by kernel_rfl) (fun _ _ _ h => h) (Or.inl ⟨by rfl, ?y8_7⟩) hS ?r8_7
    case y8_7 =>
      rintro W hH
      have hPW := hPd.below hH hPd.lt
      have q0 : W.cell? ⟨w.heap.size, 0, none⟩ = some (.int .i64 fn) := hPW.cell 0
      have q1 : W.cell? ⟨w.heap.size, 1, none⟩ = some (.int .i64 addr) := hPW.cell 1
      clear hPW
      go_simp
      with_reducible rfl
    simp only [Act.put]
    try simp only [List.getElem_toArray, List.getElem_cons_succ, List.getElem_cons_zero]
    try simp only [List.setIfInBounds_toArray, List.set_cons_succ, List.set_cons_zero]
    refine wpAnyH_done (by kernel_rfl) ?_ _
    have hP0 := hPd
    have Bwa0 : Below wd.heap.size wd wa0 := hS
    have Zwa0 := Bwa0.size
    have hPwa0 := hPd.below Bwa0 hPd.lt
    have lhPwa0 := hPwa0.lt
    have oa0' : wa0.ownsRow wd.heap.size 5 1 (.slice (some ⟨g0, 0, none⟩) (1 + 2) c0) (1 + 2) ((fn :: twoI addr).map (Value.int .u8)) := oa0
    clear oa0 hown hsl hst
    have hPwa00 : wa0.cell? ⟨w.heap.size, 0, none⟩ = some (.int .i64 fn) := hPwa0.cell 0
    have hPwa01 : wa0.cell? ⟨w.heap.size, 1, none⟩ = some (.int .i64 addr) := hPwa0.cell 1
    have hPwa02 : wa0.cell? ⟨w.heap.size, 2, none⟩ = some (.int .i64 count) := hPwa0.cell 2
    have hPwa03 : wa0.cell? ⟨w.heap.size, 3, none⟩ = some (.int .i64 to) := hPwa0.cell 3
    have hPwa04 : wa0.cell? ⟨w.heap.size, 4, none⟩ = some (.slice A nb cb) := hPwa0.cell 4
    have hPwa05 : wa0.cell? ⟨w.heap.size, 5, none⟩ = some (.slice R nr cr) := hPwa0.cell 5
    have HT1 := Lib.hid (two_any count hcnt wa0)
    go_wp2_with fail
    refine HT1.out.mono ?_
    rintro e wt1 ⟨rfl, hwt⟩
    have hbwt1 : Below wa0.heap.size wa0 wt1 := by rw [hwt]; exact (Below.refl _ wa0).alloc (Nat.le_refl _) _
    have st1 : SlI wt1 wt1.heap.size .u8 (some ⟨wa0.heap.size, 0, none⟩) 2 2 (twoI count) := by rw [hwt]; exact two_sl count wa0
    have ot1 := own_up oa0' hbwt1
    clear hwt
    have hzwt1 : wa0.heap.size ≤ wt1.heap.size := hbwt1.size
    have Bwt1 : Below wd.heap.size wd wt1 := Bwa0.trans (hbwt1.mono Bwa0.size)
    have Zwt1 := Bwt1.size
    have hPwt1 := hPwa0.below hbwt1 hPwa0.lt
    have lhPwt1 := hPwt1.lt
    have hPwt10 : wt1.cell? ⟨w.heap.size, 0, none⟩ = some (.int .i64 fn) := hPwt1.cell 0
    have hPwt11 : wt1.cell? ⟨w.heap.size, 1, none⟩ = some (.int .i64 addr) := hPwt1.cell 1
    have hPwt12 : wt1.cell? ⟨w.heap.size, 2, none⟩ = some (.int .i64 count) := hPwt1.cell 2
    have hPwt13 : wt1.cell? ⟨w.heap.size, 3, none⟩ = some (.int .i64 to) := hPwt1.cell 3
    have hPwt14 : wt1.cell? ⟨w.heap.size, 4, none⟩ = some (.slice A nb cb) := hPwt1.cell 4
    have hPwt15 : wt1.cell? ⟨w.heap.size, 5, none⟩ = some (.slice R nr cr) := hPwt1.cell 5
    go_wp2_with ((with_reducible refine at_append ?_); refine wpList_append_sl wt1 rfl _ _ 28 rfl wd.heap.size 5 i0 (.int .u8 0) 1 Tryd.underlying28 hi hz0 hz1' hz2' rfl (.slice (some ⟨g0, 0, none⟩) (1 + 2) c0) (1 + 2) _ rfl ot1 wt1.heap.size .u8 (some ⟨wa0.heap.size, 0, none⟩) 2 2 (twoI count) rfl st1 (by unfold maxLen; omega) (by omega) Zwt1 ?_; intro va2 wa2 oa2 hgr hlies; have Bwa2 : Below wd.heap.size wd wa2 := Bwt1.grown hgr Zwt1 (fun j hj => (ot1.lt j hj).1); have Zwa2 := Bwa2.size; have hPwa2 := hP0.below Bwa2 hP0.lt; have lhPwa2 := hPwa2.lt; have hPwa20 : wa2.cell? ⟨w.heap.size, 0, none⟩ = some (.int .i64 fn) := hPwa2.cell 0; have hPwa21 : wa2.cell? ⟨w.heap.size, 1, none⟩ = some (.int .i64 addr) := hPwa2.cell 1; have hPwa22 : wa2.cell? ⟨w.heap.size, 2, none⟩ = some (.int .i64 count) := hPwa2.cell 2; have hPwa23 : wa2.cell? ⟨w.heap.size, 3, none⟩ = some (.int .i64 to) := hPwa2.cell 3; have hPwa24 : wa2.cell? ⟨w.heap.size, 4, none⟩ = some (.slice A nb cb) := hPwa2.cell 4; have hPwa25 : wa2.cell? ⟨w.heap.size, 5, none⟩ = some (.slice R nr cr) := hPwa2.cell 5; rw [← List.map_append] at oa2; have Ooa2 := Lib.hid oa2; clear hgr hlies)
    go_ret2
    exact bytes_post HM.out (by unfold bytesP; have := HF.out; simp only; rw [if_neg (by omega), if_neg (by omega), if_neg (by omega), if_neg (by omega), if_neg (by omega)]) oa2 (hbdw.trans (Bwa2.mono hbdw.size))

end Go.Proofs.YtflbiichdjhaeaaDoor
namespace Go.Proofs.YtflbiichdjhaeaaDoor
open Go.RowKit
set_option linter.unusedVariables false

set_option maxRecDepth 100000 in
set_option maxHeartbeats 2000000 in
theorem rb_5t (fn addr count to : Int) (bits : List Bool) (regs : List Int) (A : Option Addr) (nb cb : Nat) (R : Option Addr) (nr cr : Nat) (w : World) (hA : SlB w w.heap.size A nb cb bits) (hR : SlI w w.heap.size .u16 R nr cr regs) (hm : mayP ⟨fn, addr, count, to, bits, regs⟩ = true) (hy : Reg16 regs) (ha : 0 ≤ addr ∧ addr < 65536) (hfn : fn = 5) (hbits : bits = [true]) : Calls Tryd.prog 20 #[.agg #[.int .i64 fn, .int .i64 addr, .int .i64 count, .int .i64 to, .slice A nb cb, .slice R nr cr]] w (BytesPost w ⟨fn, addr, count, to, bits, regs⟩) := by
  subst hfn
  have hnb1 : 0 < nb := by rw [← hA.1, hbits]; simp
  have HBT := Lib.hid hbits
  clear hbits
  obtain ⟨w1, hw1⟩ : ∃ w1, w.alloc (.cells #[.int .i64 5, .int .i64 addr, .int .i64 count, .int .i64 to, .slice A nb cb, .slice R nr cr] 25) = w1 := ⟨_, rfl⟩
  have hb1 : Below w.heap.size w w1 := by rw [← hw1]; exact (Below.refl _ w).alloc (Nat.le_refl _) _
  have hz1 : w1.heap.size = w.heap.size + 1 := by rw [← hw1]; simp
  have hP1 : Held w1 w.heap.size 25 #[.int .i64 5, .int .i64 addr, .int .i64 count, .int .i64 to, .slice A nb cb, .slice R nr cr] := by rw [← hw1]; exact Held.new _ _ _
  have hu := Tryd.underlying25
  have hsz : (Tryd.prog.info? 25).map (·.size) = some 6 := by kernel_rfl
  have hc := may_any (.agg #[.int .i64 5, .int .i64 addr, .int .i64 count, .int .i64 to, .slice A nb cb, .slice R nr cr]) ⟨5, addr, count, to, bits, regs⟩ w1 ⟨A, nb, cb, R, nr, cr, rfl, hA.up hb1, hR.up hb1⟩
  rw [hm] at hc
  have HC := Lib.hid hc
  clear hc
  obtain ⟨i0, hi, hz0, hz1', hz2'⟩ := info_parts infoU8
  have HM := Lib.hid hm
  have HA := Lib.hid (fun (X : World) (h : Below w.heap.size w X) => hA.up h)
  have HR := Lib.hid (fun (X : World) (h : Below w.heap.size w X) => hR.up h)
  have HLB := Lib.hid hA.1
  have HLR := Lib.hid hR.1
  clear hA hR hm
  have hf1 : True := by trivial
  have wr0 : True := by trivial
  go_in
  go_wp2_with ((with_reducible refine at_loadT 25 1 ?_); refine wpList_load_rowG rfl 25 (.tmp 1) rfl w.heap.size rfl 25 _ _ hP1 hu rfl hsz ?_)
  refine HC.out.mono ?_
  rintro e w2 ⟨rfl, hb2⟩
  go_wp2_with fail
  obtain ⟨wd, hwd⟩ : ∃ wd : World, w2.drew = wd := ⟨_, rfl⟩
  have hb2d : Below w1.heap.size w1 wd := by rw [← hwd]; exact hb2.drew
  have hPd := hP1.below hb2d hP1.lt
  have hld := hPd.lt
  have hbdw := hb1.trans (hb2d.mono (by omega))
  have hzd := hb2d.size
  refine wp_region_held (S := Below wd.heap.size wd) (by kernel_rfl) ?_
  change wpAnyH _ _ _ _ _ _ _ _ w2.drew
  rw [hwd]
  have hS := Below.refl wd.heap.size wd
  refine wpAnyH_take (i := 0) (v := ?v0_1) rfl (by kernel_rfl) (by kernel_rfl) (by kernel_rfl) (fun _ _ _ h => h) (Or.inl ⟨by rfl, ?y0_1⟩) hS ?r0_1
  case y0_1 =>
    rintro W hH
    have hPW := hPd.below hH hPd.lt
    have q0 : W.cell? ⟨w.heap.size, 0, none⟩ = some (.int .i64 5) := hPW.cell 0
    have q1 : W.cell? ⟨w.heap.size, 1, none⟩ = some (.int .i64 addr) := hPW.cell 1
    clear hPW
    go_simp
    with_reducible rfl
  simp only [Act.put]
  try simp only [List.getElem_toArray, List.getElem_cons_zero]
  try simp only [List.setIfInBounds_toArray, List.set_cons_succ, List.set_cons_zero]
  refine wpAnyH_take (i := 1) (v := ?v1_2) rfl (by kernel_rfl) (by kernel_rfl) (by kernel_rfl) (fun _ _ _ h => h) (Or.inl ⟨by rfl, ?y1_2⟩) hS ?r1_2
  case y1_2 =>
    rintro W hH
    have hPW := hPd.below hH hPd.lt
    have q0 : W.cell? ⟨w.heap.size, 0, none⟩ = some (.int .i64 5) := hPW.cell 0
    have q1 : W.cell? ⟨w.heap.size, 1, none⟩ = some (.int .i64 addr) := hPW.cell 1
    clear hPW
    go_simp
    with_reducible rfl
  simp only [Act.put]
  try simp only [List.getElem_toArray, List.getElem_cons_succ, List.getElem_cons_zero]
  try simp only [List.setIfInBounds_toArray, List.set_cons_succ, List.set_cons_zero]
  refine wpAnyH_take (i := 2) (v := ?v2_3) rfl (by kernel_rfl) (by kernel_rfl) (by kernel_rfl) (fun _ _ _ h => h) (Or.inl ⟨by rfl, ?y2_3⟩) hS ?r2_3
  case y2_3 =>
    rintro W hH
    have hPW := hPd.below hH hPd.lt
    have q0 : W.cell? ⟨w.heap.size, 0, none⟩ = some (.int .i64 5) := hPW.cell 0
    have q1 : W.cell? ⟨w.heap.size, 1, none⟩ = some (.int .i64 addr) := hPW.cell 1
    clear hPW
    go_simp
    with_reducible rfl
  simp only [Act.put]
  try simp only [List.getElem_toArray, List.getElem_cons_succ, List.getElem_cons_zero]
  try simp only [List.setIfInBounds_toArray, List.set_cons_succ, List.set_cons_zero]
  refine wpAnyH_take (i := 4) (v := ?v4_4) rfl (by kernel_rfl) (by kernel_rfl) (by kernel_rfl) (fun _ _ _ h => h) (Or.inl ⟨by rfl, ?y4_4⟩) hS ?r4_4
  case y4_4 =>
    rintro W hH
    have hPW := hPd.below hH hPd.lt
    have q0 : W.cell? ⟨w.heap.size, 0, none⟩ = some (.int .i64 5) := hPW.cell 0
    have q1 : W.cell? ⟨w.heap.size, 1, none⟩ = some (.int .i64 addr) := hPW.cell 1
    clear hPW
    go_simp
    with_reducible rfl
  simp only [Act.put]
  try simp only [List.getElem_toArray, List.getElem_cons_succ, List.getElem_cons_zero]
  try simp only [List.setIfInBounds_toArray, List.set_cons_succ, List.set_cons_zero]
  refine wpAnyH_take (i := 5) (v := ?v5_5) rfl (by kernel_rfl) (by kernel_rfl) (by kernel_rfl) (fun _ _ _ h => h) (Or.inl ⟨by rfl, ?y5_5⟩) hS ?r5_5
  case y5_5 =>
    rintro W hH
    have hPW := hPd.below hH hPd.lt
    have q0 : W.cell? ⟨w.heap.size, 0, none⟩ = some (.int .i64 5) := hPW.cell 0
    have q1 : W.cell? ⟨w.heap.size, 1, none⟩ = some (.int .i64 addr) := hPW.cell 1
    clear hPW
    go_simp
    with_reducible rfl
  simp only [Act.put]
  try simp only [List.getElem_toArray, List.getElem_cons_succ, List.getElem_cons_zero]
  try simp only [List.setIfInBounds_toArray, List.set_cons_succ, List.set_cons_zero]
  refine wpAnyH_ready (rs := [3, 6]) (by kernel_rfl) (by simp) ?_
  refine AllReadyH.cons rfl (fun K' hK' => ?_) (AllReadyH.cons rfl (fun K' hK' => ?_) AllReadyH.nil)
  · skip
    go_simp
    have hSt := hS.alloc (Nat.le_refl _) (.cells #[.int .u8 5] 5)
    refine hK'.out _ _ hSt (fun hS => ?_)
    clear hK' K'
    refine wpAnyH_ready (rs := [6]) (by kernel_rfl) (by simp) ?_
    refine AllReadyH.cons rfl (fun K' hK' => ?_) AllReadyH.nil
    go_simp
    refine (two_any addr ha _).mono ?_
    rintro e wt0 ⟨rfl, hwt⟩
    have hbt : Below (wd.alloc (.cells #[.int .u8 5] 5)).heap.size (wd.alloc (.cells #[.int .u8 5] 5)) wt0 := by rw [hwt]; exact (Below.refl _ _).alloc (Nat.le_refl _) _
    have hst : SlI wt0 wt0.heap.size .u8 (some ⟨(wd.alloc (.cells #[.int .u8 5] 5)).heap.size, 0, none⟩) 2 2 (twoI addr) := by rw [hwt]; exact two_sl addr _
    have hSt := hS.trans (hbt.mono hS.size)
    have hzt := hSt.size
    have hown := own_up (lit_own wd.heap.size wd 5 (Nat.le_refl _)) hbt
    have hsl := hst
    rw [World.size_alloc] at hsl
    clear hwt
    go_simp
    refine hK'.out _ _ hSt (fun hS => ?_)
    clear hK' K'
    refine wpAnyH_ready (rs := [7]) (by kernel_rfl) (by simp) ?_
    refine AllReadyH.cons rfl (fun K' hK' => ?_) AllReadyH.nil
    refine step_append_lies _ (by rfl) _ _ _ (by rfl) wd.heap.size 5 i0 (.int .u8 0) 1 1 Tryd.underlying28 hi hz0 hz1' hz2' rfl (by decide) _ 1 _ (by rfl) hown ⟨wd.heap.size + 1, 0, none⟩ 2 2 ((twoI addr).map (Value.int .u8)) (by rfl) (by rfl) (news_of hsl.2.2.2.2) (ints_oneCell _ _) (by omega) (by unfold maxLen; omega) (by omega) hSt.size _ rfl ?_
    intro g0 c0 wa0 oa0 hgr _ _
    have hSa := hSt.grown hgr hSt.size (fun j hj => (hown.lt j hj).1)
    clear hgr hS
    refine hK'.out _ _ hSa (fun hS => ?_)
    clear hK' K'
    refine wpAnyH_take (i := 8) (v := ?v8_6) rfl (by kernel_rfl) (by kernel_rfl) (by kernel_rfl) (fun _ _ _ h => h) (Or.inl ⟨by rfl, ?y8_6⟩) hS ?r8_6
    case y8_6 =>
      rintro W hH
      have hPW := hPd.below hH hPd.lt
      have q0 : W.cell? ⟨w.heap.size, 0, none⟩ = some (.int .i64 5) := hPW.cell 0
      have q1 : W.cell? ⟨w.heap.size, 1, none⟩ = some (.int .i64 addr) := hPW.cell 1
      clear hPW
      go_simp
      with_reducible rfl
    simp only [Act.put]
    try simp only [List.getElem_toArray, List.getElem_cons_succ, List.getElem_cons_zero]
    try simp only [List.setIfInBounds_toArray, List.set_cons_succ, List.set_cons_zero]
    refine wpAnyH_done (by kernel_rfl) ?_ _
    have hP0 := hPd
    have Bwa0 : Below wd.heap.size wd wa0 := hS
    have Zwa0 := Bwa0.size
    have hPwa0 := hPd.below Bwa0 hPd.lt
    have lhPwa0 := hPwa0.lt
    have oa0' : wa0.ownsRow wd.heap.size 5 1 (.slice (some ⟨g0, 0, none⟩) (1 + 2) c0) (1 + 2) ((5 :: twoI addr).map (Value.int .u8)) := oa0
    clear oa0 hown hsl hst
    have hPwa00 : wa0.cell? ⟨w.heap.size, 0, none⟩ = some (.int .i64 5) := hPwa0.cell 0
    have hPwa01 : wa0.cell? ⟨w.heap.size, 1, none⟩ = some (.int .i64 addr) := hPwa0.cell 1
    have hPwa02 : wa0.cell? ⟨w.heap.size, 2, none⟩ = some (.int .i64 count) := hPwa0.cell 2
    have hPwa03 : wa0.cell? ⟨w.heap.size, 3, none⟩ = some (.int .i64 to) := hPwa0.cell 3
    have hPwa04 : wa0.cell? ⟨w.heap.size, 4, none⟩ = some (.slice A nb cb) := hPwa0.cell 4
    have hPwa05 : wa0.cell? ⟨w.heap.size, 5, none⟩ = some (.slice R nr cr) := hPwa0.cell 5
    obtain ⟨gb, ob, x, rfl, hgb, hxb, hcb⟩ := (HA.out wa0 (hbdw.trans (Bwa0.mono hbdw.size))).2.2.2.2.at_ (i := 0) (by rw [HLB.out]; exact hnb1)
    obtain rfl : x = true := by rw [HBT.out] at hxb; simpa using hxb.symm
    rw [Nat.add_zero] at hcb
    clear hxb
    go_wp2_with ((with_reducible refine at_append ?_); refine wpList_append_sl (wa0.alloc (.cells #[.int .u8 255, .int .u8 0] 5)) rfl _ _ 28 rfl wd.heap.size 5 i0 (.int .u8 0) 1 Tryd.underlying28 hi hz0 hz1' hz2' rfl (.slice (some ⟨g0, 0, none⟩) (1 + 2) c0) (1 + 2) _ rfl (oa0'.alloc (.cells #[.int .u8 255, .int .u8 0] 5)) (wa0.alloc (.cells #[.int .u8 255, .int .u8 0] 5)).heap.size .u8 (some ⟨wa0.heap.size, 0, none⟩) 2 2 [255, 0] rfl (SlI.of_lit (w := wa0) (T := 5) (cs := #[.int .u8 255, .int .u8 0]) rfl rfl (by omega)) (by unfold maxLen; omega) (by omega) (by rw [World.size_alloc]; omega) ?_; intro va1 wa1 oa1 hgr hlies; have Bwa1 : Below wd.heap.size wd wa1 := (Bwa0.alloc Zwa0 (.cells #[.int .u8 255, .int .u8 0] 5)).grown hgr (by rw [World.size_alloc]; omega) (fun j hj => (oa0'.lt j hj).1); have Zwa1 := Bwa1.size; have hPwa1 := hP0.below Bwa1 hP0.lt; have lhPwa1 := hPwa1.lt; have hPwa10 : wa1.cell? ⟨w.heap.size, 0, none⟩ = some (.int .i64 5) := hPwa1.cell 0; have hPwa11 : wa1.cell? ⟨w.heap.size, 1, none⟩ = some (.int .i64 addr) := hPwa1.cell 1; have hPwa12 : wa1.cell? ⟨w.heap.size, 2, none⟩ = some (.int .i64 count) := hPwa1.cell 2; have hPwa13 : wa1.cell? ⟨w.heap.size, 3, none⟩ = some (.int .i64 to) := hPwa1.cell 3; have hPwa14 : wa1.cell? ⟨w.heap.size, 4, none⟩ = some (.slice (some ⟨gb, ob, none⟩) nb cb) := hPwa1.cell 4; have hPwa15 : wa1.cell? ⟨w.heap.size, 5, none⟩ = some (.slice R nr cr) := hPwa1.cell 5; rw [← List.map_append] at oa1; have Ooa1 := Lib.hid oa1; clear hgr hlies)
    go_ret2
    exact bytes_post HM.out (by unfold bytesP; rw [HBT.out]; rfl) oa1 (hbdw.trans (Bwa1.mono hbdw.size))
  · skip
    go_simp
    refine (two_any addr ha _).mono ?_
    rintro e wt0 ⟨rfl, hwt⟩
    have hbt : Below wd.heap.size wd wt0 := by rw [hwt]; exact (Below.refl _ _).alloc (Nat.le_refl _) _
    have hst : SlI wt0 wt0.heap.size .u8 (some ⟨wd.heap.size, 0, none⟩) 2 2 (twoI addr) := by rw [hwt]; exact two_sl addr _
    have hSt := hS.trans (hbt.mono hS.size)
    have hzt := hSt.size
    clear hwt
    go_simp
    refine hK'.out _ _ hSt (fun hS => ?_)
    clear hK' K'
    refine wpAnyH_ready (rs := [3]) (by kernel_rfl) (by simp) ?_
    refine AllReadyH.cons rfl (fun K' hK' => ?_) AllReadyH.nil
    go_simp
    have hown := lit_own wd.heap.size wt0 5 hzt
    have hsl := hst.alloc (.cells #[.int .u8 5] 5)
    have hSt := hS.alloc hzt (.cells #[.int .u8 5] 5)
    refine hK'.out _ _ hSt (fun hS => ?_)
    clear hK' K'
    refine wpAnyH_ready (rs := [7]) (by kernel_rfl) (by simp) ?_
    refine AllReadyH.cons rfl (fun K' hK' => ?_) AllReadyH.nil
    refine step_append_lies _ (by rfl) _ _ _ (by rfl) wd.heap.size 5 i0 (.int .u8 0) 1 1 Tryd.underlying28 hi hz0 hz1' hz2' rfl (by decide) _ 1 _ (by rfl) hown ⟨wd.heap.size, 0, none⟩ 2 2 ((twoI addr).map (Value.int .u8)) (by rfl) (by rfl) (news_of hsl.2.2.2.2) (ints_oneCell _ _) (by omega) (by unfold maxLen; omega) (by omega) hSt.size _ rfl ?_
    intro g0 c0 wa0 oa0 hgr _ _
    have hSa := hSt.grown hgr hSt.size (fun j hj => (hown.lt j hj).1)
    clear hgr hS
    refine hK'.out _ _ hSa (fun hS => ?_)
    clear hK' K'
    refine wpAnyH_take (i := 8) (v := ?v8_7) rfl (by kernel_rfl) (by kernel_rfl) (by kernel_rfl) (fun _ _ _ h => h) (Or.inl ⟨by rfl, ?y8_7⟩) hS ?r8_7
    case y8_7 =>
      rintro W hH
      have hPW := hPd.below hH hPd.lt
      have q0 : W.cell? ⟨w.heap.size, 0, none⟩ = some (.int .i64 5) := hPW.cell 0
      have q1 : W.cell? ⟨w.heap.size, 1, none⟩ = some (.int .i64 addr) := hPW.cell 1
      clear hPW
      go_simp
      with_reducible rfl
    simp only [Act.put]
    try simp only [List.getElem_toArray, List.getElem_cons_succ, List.getElem_cons_zero]
    try simp only [List.setIfInBounds_toArray, List.set_cons_succ, List.set_cons_zero]
    refine wpAnyH_done (by kernel_rfl) ?_ _
    have hP0 := hPd
    have Bwa0 : Below wd.heap.size wd wa0 := hS
    have Zwa0 := Bwa0.size
    have hPwa0 := hPd.below Bwa0 hPd.lt
    have lhPwa0 := hPwa0.lt
    have oa0' : wa0.ownsRow wd.heap.size 5 1 (.slice (some ⟨g0, 0, none⟩) (1 + 2) c0) (1 + 2) ((5 :: twoI addr).map (Value.int .u8)) := oa0
    clear oa0 hown hsl hst
    have hPwa00 : wa0.cell? ⟨w.heap.size, 0, none⟩ = some (.int .i64 5) := hPwa0.cell 0
    have hPwa01 : wa0.cell? ⟨w.heap.size, 1, none⟩ = some (.int .i64 addr) := hPwa0.cell 1
    have hPwa02 : wa0.cell? ⟨w.heap.size, 2, none⟩ = some (.int .i64 count) := hPwa0.cell 2
    have hPwa03 : wa0.cell? ⟨w.heap.size, 3, none⟩ = some (.int .i64 to) := hPwa0.cell 3
    have hPwa04 : wa0.cell? ⟨w.heap.size, 4, none⟩ = some (.slice A nb cb) := hPwa0.cell 4
    have hPwa05 : wa0.cell? ⟨w.heap.size, 5, none⟩ = some (.slice R nr cr) := hPwa0.cell 5
    obtain ⟨gb, ob, x, rfl, hgb, hxb, hcb⟩ := (HA.out wa0 (hbdw.trans (Bwa0.mono hbdw.size))).2.2.2.2.at_ (i := 0) (by rw [HLB.out]; exact hnb1)
    obtain rfl : x = true := by rw [HBT.out] at hxb; simpa using hxb.symm
    rw [Nat.add_zero] at hcb
    clear hxb
    go_wp2_with ((with_reducible refine at_append ?_); refine wpList_append_sl (wa0.alloc (.cells #[.int .u8 255, .int .u8 0] 5)) rfl _ _ 28 rfl wd.heap.size 5 i0 (.int .u8 0) 1 Tryd.underlying28 hi hz0 hz1' hz2' rfl (.slice (some ⟨g0, 0, none⟩) (1 + 2) c0) (1 + 2) _ rfl (oa0'.alloc (.cells #[.int .u8 255, .int .u8 0] 5)) (wa0.alloc (.cells #[.int .u8 255, .int .u8 0] 5)).heap.size .u8 (some ⟨wa0.heap.size, 0, none⟩) 2 2 [255, 0] rfl (SlI.of_lit (w := wa0) (T := 5) (cs := #[.int .u8 255, .int .u8 0]) rfl rfl (by omega)) (by unfold maxLen; omega) (by omega) (by rw [World.size_alloc]; omega) ?_; intro va1 wa1 oa1 hgr hlies; have Bwa1 : Below wd.heap.size wd wa1 := (Bwa0.alloc Zwa0 (.cells #[.int .u8 255, .int .u8 0] 5)).grown hgr (by rw [World.size_alloc]; omega) (fun j hj => (oa0'.lt j hj).1); have Zwa1 := Bwa1.size; have hPwa1 := hP0.below Bwa1 hP0.lt; have lhPwa1 := hPwa1.lt; have hPwa10 : wa1.cell? ⟨w.heap.size, 0, none⟩ = some (.int .i64 5) := hPwa1.cell 0; have hPwa11 : wa1.cell? ⟨w.heap.size, 1, none⟩ = some (.int .i64 addr) := hPwa1.cell 1; have hPwa12 : wa1.cell? ⟨w.heap.size, 2, none⟩ = some (.int .i64 count) := hPwa1.cell 2; have hPwa13 : wa1.cell? ⟨w.heap.size, 3, none⟩ = some (.int .i64 to) := hPwa1.cell 3; have hPwa14 : wa1.cell? ⟨w.heap.size, 4, none⟩ = some (.slice (some ⟨gb, ob, none⟩) nb cb) := hPwa1.cell 4; have hPwa15 : wa1.cell? ⟨w.heap.size, 5, none⟩ = some (.slice R nr cr) := hPwa1.cell 5; rw [← List.map_append] at oa1; have Ooa1 := Lib.hid oa1; clear hgr hlies)
    go_ret2
    exact bytes_post HM.out (by unfold bytesP; rw [HBT.out]; rfl) oa1 (hbdw.trans (Bwa1.mono hbdw.size))

set_option maxRecDepth 100000 in
set_option maxHeartbeats 2000000 in
theorem rb_5f (fn addr count to : Int) (bits : List Bool) (regs : List Int) (A : Option Addr) (nb cb : Nat) (R : Option Addr) (nr cr : Nat) (w : World) (hA : SlB w w.heap.size A nb cb bits) (hR : SlI w w.heap.size .u16 R nr cr regs) (hm : mayP ⟨fn, addr, count, to, bits, regs⟩ = true) (hy : Reg16 regs) (ha : 0 ≤ addr ∧ addr < 65536) (hfn : fn = 5) (hbits : bits = [false]) : Calls Tryd.prog 20 #[.agg #[.int .i64 fn, .int .i64 addr, .int .i64 count, .int .i64 to, .slice A nb cb, .slice R nr cr]] w (BytesPost w ⟨fn, addr, count, to, bits, regs⟩) := by
  subst hfn
  have hnb1 : 0 < nb := by rw [← hA.1, hbits]; simp
  have HBT := Lib.hid hbits
  clear hbits
  obtain ⟨w1, hw1⟩ : ∃ w1, w.alloc (.cells #[.int .i64 5, .int .i64 addr, .int .i64 count, .int .i64 to, .slice A nb cb, .slice R nr cr] 25) = w1 := ⟨_, rfl⟩
  have hb1 : Below w.heap.size w w1 := by rw [← hw1]; exact (Below.refl _ w).alloc (Nat.le_refl _) _
  have hz1 : w1.heap.size = w.heap.size + 1 := by rw [← hw1]; simp
  have hP1 : Held w1 w.heap.size 25 #[.int .i64 5, .int .i64 addr, .int .i64 count, .int .i64 to, .slice A nb cb, .slice R nr cr] := by rw [← hw1]; exact Held.new _ _ _
  have hu := Tryd.underlying25
  have hsz : (Tryd.prog.info? 25).map (·.size) = some 6 := by kernel_rfl
  have hc := may_any (.agg #[.int .i64 5, .int .i64 addr, .int .i64 count, .int .i64 to, .slice A nb cb, .slice R nr cr]) ⟨5, addr, count, to, bits, regs⟩ w1 ⟨A, nb, cb, R, nr, cr, rfl, hA.up hb1, hR.up hb1⟩
  rw [hm] at hc
  have HC := Lib.hid hc
  clear hc
  obtain ⟨i0, hi, hz0, hz1', hz2'⟩ := info_parts infoU8
  have HM := Lib.hid hm
  have HA := Lib.hid (fun (X : World) (h : Below w.heap.size w X) => hA.up h)
  have HR := Lib.hid (fun (X : World) (h : Below w.heap.size w X) => hR.up h)
  have HLB := Lib.hid hA.1
  have HLR := Lib.hid hR.1
  clear hA hR hm
  have hf1 : True := by trivial
  have wr0 : True := by trivial
  go_in
  go_wp2_with ((with_reducible refine at_loadT 25 1 ?_); refine wpList_load_rowG rfl 25 (.tmp 1) rfl w.heap.size rfl 25 _ _ hP1 hu rfl hsz ?_)
  refine HC.out.mono ?_
  rintro e w2 ⟨rfl, hb2⟩
  go_wp2_with fail
  obtain ⟨wd, hwd⟩ : ∃ wd : World, w2.drew = wd := ⟨_, rfl⟩
  have hb2d : Below w1.heap.size w1 wd := by rw [← hwd]; exact hb2.drew
  have hPd := hP1.below hb2d hP1.lt
  have hld := hPd.lt
  have hbdw := hb1.trans (hb2d.mono (by omega))
  have hzd := hb2d.size
  refine wp_region_held (S := Below wd.heap.size wd) (by kernel_rfl) ?_
  change wpAnyH _ _ _ _ _ _ _ _ w2.drew
  rw [hwd]
  have hS := Below.refl wd.heap.size wd
  refine wpAnyH_take (i := 0) (v := ?v0_1) rfl (by kernel_rfl) (by kernel_rfl) (by kernel_rfl) (fun _ _ _ h => h) (Or.inl ⟨by rfl, ?y0_1⟩) hS ?r0_1
  case y0_1 =>
    rintro W hH
    have hPW := hPd.below hH hPd.lt
    have q0 : W.cell? ⟨w.heap.size, 0, none⟩ = some (.int .i64 5) := hPW.cell 0
    have q1 : W.cell? ⟨w.heap.size, 1, none⟩ = some (.int .i64 addr) := hPW.cell 1
    clear hPW
    go_simp
    with_reducible rfl
  simp only [Act.put]
  try simp only [List.getElem_toArray, List.getElem_cons_zero]
  try simp only [List.setIfInBounds_toArray, List.set_cons_succ, List.set_cons_zero]
  refine wpAnyH_take (i := 1) (v := ?v1_2) rfl (by kernel_rfl) (by kernel_rfl) (by kernel_rfl) (fun _ _ _ h => h) (Or.inl ⟨by rfl, ?y1_2⟩) hS ?r1_2
  case y1_2 =>
    rintro W hH
    have hPW := hPd.below hH hPd.lt
    have q0 : W.cell? ⟨w.heap.size, 0, none⟩ = some (.int .i64 5) := hPW.cell 0
    have q1 : W.cell? ⟨w.heap.size, 1, none⟩ = some (.int .i64 addr) := hPW.cell 1
    clear hPW
    go_simp
    with_reducible rfl
  simp only [Act.put]
  try simp only [List.getElem_toArray, List.getElem_cons_succ, List.getElem_cons_zero]
  try simp only [List.setIfInBounds_toArray, List.set_cons_succ, List.set_cons_zero]
  refine wpAnyH_take (i := 2) (v := ?v2_3) rfl (by kernel_rfl) (by kernel_rfl) (by kernel_rfl) (fun _ _ _ h => h) (Or.inl ⟨by rfl, ?y2_3⟩) hS ?r2_3
  case y2_3 =>
    rintro W hH
    have hPW := hPd.below hH hPd.lt
    have q0 : W.cell? ⟨w.heap.size, 0, none⟩ = some (.int .i64 5) := hPW.cell 0
    have q1 : W.cell? ⟨w.heap.size, 1, none⟩ = some (.int .i64 addr) := hPW.cell 1
    clear hPW
    go_simp
    with_reducible rfl
  simp only [Act.put]
  try simp only [List.getElem_toArray, List.getElem_cons_succ, List.getElem_cons_zero]
  try simp only [List.setIfInBounds_toArray, List.set_cons_succ, List.set_cons_zero]
  refine wpAnyH_take (i := 4) (v := ?v4_4) rfl (by kernel_rfl) (by kernel_rfl) (by kernel_rfl) (fun _ _ _ h => h) (Or.inl ⟨by rfl, ?y4_4⟩) hS ?r4_4
  case y4_4 =>
    rintro W hH
    have hPW := hPd.below hH hPd.lt
    have q0 : W.cell? ⟨w.heap.size, 0, none⟩ = some (.int .i64 5) := hPW.cell 0
    have q1 : W.cell? ⟨w.heap.size, 1, none⟩ = some (.int .i64 addr) := hPW.cell 1
    clear hPW
    go_simp
    with_reducible rfl
  simp only [Act.put]
  try simp only [List.getElem_toArray, List.getElem_cons_succ, List.getElem_cons_zero]
  try simp only [List.setIfInBounds_toArray, List.set_cons_succ, List.set_cons_zero]
  refine wpAnyH_take (i := 5) (v := ?v5_5) rfl (by kernel_rfl) (by kernel_rfl) (by kernel_rfl) (fun _ _ _ h => h) (Or.inl ⟨by rfl, ?y5_5⟩) hS ?r5_5
  case y5_5 =>
    rintro W hH
    have hPW := hPd.below hH hPd.lt
    have q0 : W.cell? ⟨w.heap.size, 0, none⟩ = some (.int .i64 5) := hPW.cell 0
    have q1 : W.cell? ⟨w.heap.size, 1, none⟩ = some (.int .i64 addr) := hPW.cell 1
    clear hPW
    go_simp
    with_reducible rfl
  simp only [Act.put]
  try simp only [List.getElem_toArray, List.getElem_cons_succ, List.getElem_cons_zero]
  try simp only [List.setIfInBounds_toArray, List.set_cons_succ, List.set_cons_zero]
  refine wpAnyH_ready (rs := [3, 6]) (by kernel_rfl) (by simp) ?_
  refine AllReadyH.cons rfl (fun K' hK' => ?_) (AllReadyH.cons rfl (fun K' hK' => ?_) AllReadyH.nil)
  · skip
    go_simp
    have hSt := hS.alloc (Nat.le_refl _) (.cells #[.int .u8 5] 5)
    refine hK'.out _ _ hSt (fun hS => ?_)
    clear hK' K'
    refine wpAnyH_ready (rs := [6]) (by kernel_rfl) (by simp) ?_
    refine AllReadyH.cons rfl (fun K' hK' => ?_) AllReadyH.nil
    go_simp
    refine (two_any addr ha _).mono ?_
    rintro e wt0 ⟨rfl, hwt⟩
    have hbt : Below (wd.alloc (.cells #[.int .u8 5] 5)).heap.size (wd.alloc (.cells #[.int .u8 5] 5)) wt0 := by rw [hwt]; exact (Below.refl _ _).alloc (Nat.le_refl _) _
    have hst : SlI wt0 wt0.heap.size .u8 (some ⟨(wd.alloc (.cells #[.int .u8 5] 5)).heap.size, 0, none⟩) 2 2 (twoI addr) := by rw [hwt]; exact two_sl addr _
    have hSt := hS.trans (hbt.mono hS.size)
    have hzt := hSt.size
    have hown := own_up (lit_own wd.heap.size wd 5 (Nat.le_refl _)) hbt
    have hsl := hst
    rw [World.size_alloc] at hsl
    clear hwt
    go_simp
    refine hK'.out _ _ hSt (fun hS => ?_)
    clear hK' K'
    refine wpAnyH_ready (rs := [7]) (by kernel_rfl) (by simp) ?_
    refine AllReadyH.cons rfl (fun K' hK' => ?_) AllReadyH.nil
    refine step_append_lies _ (by rfl) _ _ _ (by rfl) wd.heap.size 5 i0 (.int .u8 0) 1 1 Tryd.underlying28 hi hz0 hz1' hz2' rfl (by decide) _ 1 _ (by rfl) hown ⟨wd.heap.size + 1, 0, none⟩ 2 2 ((twoI addr).map (Value.int .u8)) (by rfl) (by rfl) (news_of hsl.2.2.2.2) (ints_oneCell _ _) (by omega) (by unfold maxLen; omega) (by omega) hSt.size _ rfl ?_
    intro g0 c0 wa0 oa0 hgr _ _
    have hSa := hSt.grown hgr hSt.size (fun j hj => (hown.lt j hj).1)
    clear hgr hS
    refine hK'.out _ _ hSa (fun hS => ?_)
    clear hK' K'
    refine wpAnyH_take (i := 8) (v := ?v8_6) rfl (by kernel_rfl) (by kernel_rfl) (by kernel_rfl) (fun _ _ _ h => h) (Or.inl ⟨by rfl, ?y8_6⟩) hS ?r8_6
    case y8_6 =>
      rintro W hH
      have hPW := hPd.below hH hPd.lt
      have q0 : W.cell? ⟨w.heap.size, 0, none⟩ = some (.int .i64 5) := hPW.cell 0
      have q1 : W.cell? ⟨w.heap.size, 1, none⟩ = some (.int .i64 addr) := hPW.cell 1
      clear hPW
      go_simp
      with_reducible rfl
    simp only [Act.put]
    try simp only [List.getElem_toArray, List.getElem_cons_succ, List.getElem_cons_zero]
    try simp only [List.setIfInBounds_toArray, List.set_cons_succ, List.set_cons_zero]
    refine wpAnyH_done (by kernel_rfl) ?_ _
    have hP0 := hPd
    have Bwa0 : Below wd.heap.size wd wa0 := hS
    have Zwa0 := Bwa0.size
    have hPwa0 := hPd.below Bwa0 hPd.lt
    have lhPwa0 := hPwa0.lt
    have oa0' : wa0.ownsRow wd.heap.size 5 1 (.slice (some ⟨g0, 0, none⟩) (1 + 2) c0) (1 + 2) ((5 :: twoI addr).map (Value.int .u8)) := oa0
    clear oa0 hown hsl hst
    have hPwa00 : wa0.cell? ⟨w.heap.size, 0, none⟩ = some (.int .i64 5) := hPwa0.cell 0
    have hPwa01 : wa0.cell? ⟨w.heap.size, 1, none⟩ = some (.int .i64 addr) := hPwa0.cell 1
    have hPwa02 : wa0.cell? ⟨w.heap.size, 2, none⟩ = some (.int .i64 count) := hPwa0.cell 2
    have hPwa03 : wa0.cell? ⟨w.heap.size, 3, none⟩ = some (.int .i64 to) := hPwa0.cell 3
    have hPwa04 : wa0.cell? ⟨w.heap.size, 4, none⟩ = some (.slice A nb cb) := hPwa0.cell 4
    have hPwa05 : wa0.cell? ⟨w.heap.size, 5, none⟩ = some (.slice R nr cr) := hPwa0.cell 5
    obtain ⟨gb, ob, x, rfl, hgb, hxb, hcb⟩ := (HA.out wa0 (hbdw.trans (Bwa0.mono hbdw.size))).2.2.2.2.at_ (i := 0) (by rw [HLB.out]; exact hnb1)
    obtain rfl : x = false := by rw [HBT.out] at hxb; simpa using hxb.symm
    rw [Nat.add_zero] at hcb
    clear hxb
    go_wp2_with ((with_reducible refine at_append ?_); refine wpList_append_sl (wa0.alloc (.cells #[.int .u8 0, .int .u8 0] 5)) rfl _ _ 28 rfl wd.heap.size 5 i0 (.int .u8 0) 1 Tryd.underlying28 hi hz0 hz1' hz2' rfl (.slice (some ⟨g0, 0, none⟩) (1 + 2) c0) (1 + 2) _ rfl (oa0'.alloc (.cells #[.int .u8 0, .int .u8 0] 5)) (wa0.alloc (.cells #[.int .u8 0, .int .u8 0] 5)).heap.size .u8 (some ⟨wa0.heap.size, 0, none⟩) 2 2 [0, 0] rfl (SlI.of_lit (w := wa0) (T := 5) (cs := #[.int .u8 0, .int .u8 0]) rfl rfl (by omega)) (by unfold maxLen; omega) (by omega) (by rw [World.size_alloc]; omega) ?_; intro va1 wa1 oa1 hgr hlies; have Bwa1 : Below wd.heap.size wd wa1 := (Bwa0.alloc Zwa0 (.cells #[.int .u8 0, .int .u8 0] 5)).grown hgr (by rw [World.size_alloc]; omega) (fun j hj => (oa0'.lt j hj).1); have Zwa1 := Bwa1.size; have hPwa1 := hP0.below Bwa1 hP0.lt; have lhPwa1 := hPwa1.lt; have hPwa10 : wa1.cell? ⟨w.heap.size, 0, none⟩ = some (.int .i64 5) := hPwa1.cell 0; have hPwa11 : wa1.cell? ⟨w.heap.size, 1, none⟩ = some (.int .i64 addr) := hPwa1.cell 1; have hPwa12 : wa1.cell? ⟨w.heap.size, 2, none⟩ = some (.int .i64 count) := hPwa1.cell 2; have hPwa13 : wa1.cell? ⟨w.heap.size, 3, none⟩ = some (.int .i64 to) := hPwa1.cell 3; have hPwa14 : wa1.cell? ⟨w.heap.size, 4, none⟩ = some (.slice (some ⟨gb, ob, none⟩) nb cb) := hPwa1.cell 4; have hPwa15 : wa1.cell? ⟨w.heap.size, 5, none⟩ = some (.slice R nr cr) := hPwa1.cell 5; rw [← List.map_append] at oa1; have Ooa1 := Lib.hid oa1; clear hgr hlies)
    go_ret2
    exact bytes_post HM.out (by unfold bytesP; rw [HBT.out]; rfl) oa1 (hbdw.trans (Bwa1.mono hbdw.size))
  · skip
    go_simp
    refine (two_any addr ha _).mono ?_
    rintro e wt0 ⟨rfl, hwt⟩
    have hbt : Below wd.heap.size wd wt0 := by rw [hwt]; exact (Below.refl _ _).alloc (Nat.le_refl _) _
    have hst : SlI wt0 wt0.heap.size .u8 (some ⟨wd.heap.size, 0, none⟩) 2 2 (twoI addr) := by rw [hwt]; exact two_sl addr _
    have hSt := hS.trans (hbt.mono hS.size)
    have hzt := hSt.size
    clear hwt
    go_simp
    refine hK'.out _ _ hSt (fun hS => ?_)
    clear hK' K'
    refine wpAnyH_ready (rs := [3]) (by kernel_rfl) (by simp) ?_
    refine AllReadyH.cons rfl (fun K' hK' => ?_) AllReadyH.nil
    go_simp
    have hown := lit_own wd.heap.size wt0 5 hzt
    have hsl := hst.alloc (.cells #[.int .u8 5] 5)
    have hSt := hS.alloc hzt (.cells #[.int .u8 5] 5)
    refine hK'.out _ _ hSt (fun hS => ?_)
    clear hK' K'
    refine wpAnyH_ready (rs := [7]) (by kernel_rfl) (by simp) ?_
    refine AllReadyH.cons rfl (fun K' hK' => ?_) AllReadyH.nil
    refine step_append_lies _ (by rfl) _ _ _ (by rfl) wd.heap.size 5 i0 (.int .u8 0) 1 1 Tryd.underlying28 hi hz0 hz1' hz2' rfl (by decide) _ 1 _ (by rfl) hown ⟨wd.heap.size, 0, none⟩ 2 2 ((twoI addr).map (Value.int .u8)) (by rfl) (by rfl) (news_of hsl.2.2.2.2) (ints_oneCell _ _) (by omega) (by unfold maxLen; omega) (by omega) hSt.size _ rfl ?_
    intro g0 c0 wa0 oa0 hgr _ _
    have hSa := hSt.grown hgr hSt.size (fun j hj => (hown.lt j hj).1)
    clear hgr hS
    refine hK'.out _ _ hSa (fun hS => ?_)
    clear hK' K'
    refine wpAnyH_take (i := 8) (v := ?v8_7) rfl (by kernel_rfl) (by kernel_rfl) (by kernel_rfl) (fun _ _ _ h => h) (Or.inl ⟨by rfl, ?y8_7⟩) hS ?r8_7
    case y8_7 =>
      rintro W hH
      have hPW := hPd.below hH hPd.lt
      have q0 : W.cell? ⟨w.heap.size, 0, none⟩ = some (.int .i64 5) := hPW.cell 0
      have q1 : W.cell? ⟨w.heap.size, 1, none⟩ = some (.int .i64 addr) := hPW.cell 1
      clear hPW
      go_simp
      with_reducible rfl
    simp only [Act.put]
    try simp only [List.getElem_toArray, List.getElem_cons_succ, List.getElem_cons_zero]
    try simp only [List.setIfInBounds_toArray, List.set_cons_succ, List.set_cons_zero]
    refine wpAnyH_done (by kernel_rfl) ?_ _
    have hP0 := hPd
    have Bwa0 : Below wd.heap.size wd wa0 := hS
    have Zwa0 := Bwa0.size
    have hPwa0 := hPd.below Bwa0 hPd.lt
    have lhPwa0 := hPwa0.lt
    have oa0' : wa0.ownsRow wd.heap.size 5 1 (.slice (some ⟨g0, 0, none⟩) (1 + 2) c0) (1 + 2) ((5 :: twoI addr).map (Value.int .u8)) := oa0
    clear oa0 hown hsl hst
    have hPwa00 : wa0.cell? ⟨w.heap.size, 0, none⟩ = some (.int .i64 5) := hPwa0.cell 0
    have hPwa01 : wa0.cell? ⟨w.heap.size, 1, none⟩ = some (.int .i64 addr) := hPwa0.cell 1
    have hPwa02 : wa0.cell? ⟨w.heap.size, 2, none⟩ = some (.int .i64 count) := hPwa0.cell 2
    have hPwa03 : wa0.cell? ⟨w.heap.size, 3, none⟩ = some (.int .i64 to) := hPwa0.cell 3
    have hPwa04 : wa0.cell? ⟨w.heap.size, 4, none⟩ = some (.slice A nb cb) := hPwa0.cell 4
    have hPwa05 : wa0.cell? ⟨w.heap.size, 5, none⟩ = some (.slice R nr cr) := hPwa0.cell 5
    obtain ⟨gb, ob, x, rfl, hgb, hxb, hcb⟩ := (HA.out wa0 (hbdw.trans (Bwa0.mono hbdw.size))).2.2.2.2.at_ (i := 0) (by rw [HLB.out]; exact hnb1)
    obtain rfl : x = false := by rw [HBT.out] at hxb; simpa using hxb.symm
    rw [Nat.add_zero] at hcb
    clear hxb
    go_wp2_with ((with_reducible refine at_append ?_); refine wpList_append_sl (wa0.alloc (.cells #[.int .u8 0, .int .u8 0] 5)) rfl _ _ 28 rfl wd.heap.size 5 i0 (.int .u8 0) 1 Tryd.underlying28 hi hz0 hz1' hz2' rfl (.slice (some ⟨g0, 0, none⟩) (1 + 2) c0) (1 + 2) _ rfl (oa0'.alloc (.cells #[.int .u8 0, .int .u8 0] 5)) (wa0.alloc (.cells #[.int .u8 0, .int .u8 0] 5)).heap.size .u8 (some ⟨wa0.heap.size, 0, none⟩) 2 2 [0, 0] rfl (SlI.of_lit (w := wa0) (T := 5) (cs := #[.int .u8 0, .int .u8 0]) rfl rfl (by omega)) (by unfold maxLen; omega) (by omega) (by rw [World.size_alloc]; omega) ?_; intro va1 wa1 oa1 hgr hlies; have Bwa1 : Below wd.heap.size wd wa1 := (Bwa0.alloc Zwa0 (.cells #[.int .u8 0, .int .u8 0] 5)).grown hgr (by rw [World.size_alloc]; omega) (fun j hj => (oa0'.lt j hj).1); have Zwa1 := Bwa1.size; have hPwa1 := hP0.below Bwa1 hP0.lt; have lhPwa1 := hPwa1.lt; have hPwa10 : wa1.cell? ⟨w.heap.size, 0, none⟩ = some (.int .i64 5) := hPwa1.cell 0; have hPwa11 : wa1.cell? ⟨w.heap.size, 1, none⟩ = some (.int .i64 addr) := hPwa1.cell 1; have hPwa12 : wa1.cell? ⟨w.heap.size, 2, none⟩ = some (.int .i64 count) := hPwa1.cell 2; have hPwa13 : wa1.cell? ⟨w.heap.size, 3, none⟩ = some (.int .i64 to) := hPwa1.cell 3; have hPwa14 : wa1.cell? ⟨w.heap.size, 4, none⟩ = some (.slice (some ⟨gb, ob, none⟩) nb cb) := hPwa1.cell 4; have hPwa15 : wa1.cell? ⟨w.heap.size, 5, none⟩ = some (.slice R nr cr) := hPwa1.cell 5; rw [← List.map_append] at oa1; have Ooa1 := Lib.hid oa1; clear hgr hlies)
    go_ret2
    exact bytes_post HM.out (by unfold bytesP; rw [HBT.out]; rfl) oa1 (hbdw.trans (Bwa1.mono hbdw.size))

set_option maxRecDepth 100000 in
set_option maxHeartbeats 2000000 in
theorem rb_6 (fn addr count to : Int) (bits : List Bool) (regs : List Int) (A : Option Addr) (nb cb : Nat) (R : Option Addr) (nr cr : Nat) (w : World) (hA : SlB w w.heap.size A nb cb bits) (hR : SlI w w.heap.size .u16 R nr cr regs) (hm : mayP ⟨fn, addr, count, to, bits, regs⟩ = true) (hy : Reg16 regs) (ha : 0 ≤ addr ∧ addr < 65536) (hfn : fn = 6) (r : Int) (hregs : regs = [r]) : Calls Tryd.prog 20 #[.agg #[.int .i64 fn, .int .i64 addr, .int .i64 count, .int .i64 to, .slice A nb cb, .slice R nr cr]] w (BytesPost w ⟨fn, addr, count, to, bits, regs⟩) := by
  subst hfn
  have hr := hy r (by rw [hregs]; simp)
  have hnr1 : 0 < nr := by rw [← hR.1, hregs]; simp
  have HRT := Lib.hid hregs
  clear hregs
  obtain ⟨w1, hw1⟩ : ∃ w1, w.alloc (.cells #[.int .i64 6, .int .i64 addr, .int .i64 count, .int .i64 to, .slice A nb cb, .slice R nr cr] 25) = w1 := ⟨_, rfl⟩
  have hb1 : Below w.heap.size w w1 := by rw [← hw1]; exact (Below.refl _ w).alloc (Nat.le_refl _) _
  have hz1 : w1.heap.size = w.heap.size + 1 := by rw [← hw1]; simp
  have hP1 : Held w1 w.heap.size 25 #[.int .i64 6, .int .i64 addr, .int .i64 count, .int .i64 to, .slice A nb cb, .slice R nr cr] := by rw [← hw1]; exact Held.new _ _ _
  have hu := Tryd.underlying25
  have hsz : (Tryd.prog.info? 25).map (·.size) = some 6 := by kernel_rfl
  have hc := may_any (.agg #[.int .i64 6, .int .i64 addr, .int .i64 count, .int .i64 to, .slice A nb cb, .slice R nr cr]) ⟨6, addr, count, to, bits, regs⟩ w1 ⟨A, nb, cb, R, nr, cr, rfl, hA.up hb1, hR.up hb1⟩
  rw [hm] at hc
  have HC := Lib.hid hc
  clear hc
  obtain ⟨i0, hi, hz0, hz1', hz2'⟩ := info_parts infoU8
  have HM := Lib.hid hm
  have HA := Lib.hid (fun (X : World) (h : Below w.heap.size w X) => hA.up h)
  have HR := Lib.hid (fun (X : World) (h : Below w.heap.size w X) => hR.up h)
  have HLB := Lib.hid hA.1
  have HLR := Lib.hid hR.1
  clear hA hR hm
  have hf1 : True := by trivial
  have wr0 : True := by trivial
  go_in
  go_wp2_with ((with_reducible refine at_loadT 25 1 ?_); refine wpList_load_rowG rfl 25 (.tmp 1) rfl w.heap.size rfl 25 _ _ hP1 hu rfl hsz ?_)
  refine HC.out.mono ?_
  rintro e w2 ⟨rfl, hb2⟩
  go_wp2_with fail
  obtain ⟨wd, hwd⟩ : ∃ wd : World, w2.drew = wd := ⟨_, rfl⟩
  have hb2d : Below w1.heap.size w1 wd := by rw [← hwd]; exact hb2.drew
  have hPd := hP1.below hb2d hP1.lt
  have hld := hPd.lt
  have hbdw := hb1.trans (hb2d.mono (by omega))
  have hzd := hb2d.size
  refine wp_region_held (S := Below wd.heap.size wd) (by kernel_rfl) ?_
  change wpAnyH _ _ _ _ _ _ _ _ w2.drew
  rw [hwd]
  have hS := Below.refl wd.heap.size wd
  refine wpAnyH_take (i := 0) (v := ?v0_1) rfl (by kernel_rfl) (by kernel_rfl) (by kernel_rfl) (fun _ _ _ h => h) (Or.inl ⟨by rfl, ?y0_1⟩) hS ?r0_1
  case y0_1 =>
    rintro W hH
    have hPW := hPd.below hH hPd.lt
    have q0 : W.cell? ⟨w.heap.size, 0, none⟩ = some (.int .i64 6) := hPW.cell 0
    have q1 : W.cell? ⟨w.heap.size, 1, none⟩ = some (.int .i64 addr) := hPW.cell 1
    clear hPW
    go_simp
    with_reducible rfl
  simp only [Act.put]
  try simp only [List.getElem_toArray, List.getElem_cons_zero]
  try simp only [List.setIfInBounds_toArray, List.set_cons_succ, List.set_cons_zero]
  refine wpAnyH_take (i := 1) (v := ?v1_2) rfl (by kernel_rfl) (by kernel_rfl) (by kernel_rfl) (fun _ _ _ h => h) (Or.inl ⟨by rfl, ?y1_2⟩) hS ?r1_2
  case y1_2 =>
    rintro W hH
    have hPW := hPd.below hH hPd.lt
    have q0 : W.cell? ⟨w.heap.size, 0, none⟩ = some (.int .i64 6) := hPW.cell 0
    have q1 : W.cell? ⟨w.heap.size, 1, none⟩ = some (.int .i64 addr) := hPW.cell 1
    clear hPW
    go_simp
    with_reducible rfl
  simp only [Act.put]
  try simp only [List.getElem_toArray, List.getElem_cons_succ, List.getElem_cons_zero]
  try simp only [List.setIfInBounds_toArray, List.set_cons_succ, List.set_cons_zero]
  refine wpAnyH_take (i := 2) (v := ?v2_3) rfl (by kernel_rfl) (by kernel_rfl) (by kernel_rfl) (fun _ _ _ h => h) (Or.inl ⟨by rfl, ?y2_3⟩) hS ?r2_3
  case y2_3 =>
    rintro W hH
    have hPW := hPd.below hH hPd.lt
    have q0 : W.cell? ⟨w.heap.size, 0, none⟩ = some (.int .i64 6) := hPW.cell 0
    have q1 : W.cell? ⟨w.heap.size, 1, none⟩ = some (.int .i64 addr) := hPW.cell 1
    clear hPW
    go_simp
    with_reducible rfl
  simp only [Act.put]
  try simp only [List.getElem_toArray, List.getElem_cons_succ, List.getElem_cons_zero]
  try simp only [List.setIfInBounds_toArray, List.set_cons_succ, List.set_cons_zero]
  refine wpAnyH_take (i := 4) (v := ?v4_4) rfl (by kernel_rfl) (by kernel_rfl) (by kernel_rfl) (fun _ _ _ h => h) (Or.inl ⟨by rfl, ?y4_4⟩) hS ?r4_4
  case y4_4 =>
    rintro W hH
    have hPW := hPd.below hH hPd.lt
    have q0 : W.cell? ⟨w.heap.size, 0, none⟩ = some (.int .i64 6) := hPW.cell 0
    have q1 : W.cell? ⟨w.heap.size, 1, none⟩ = some (.int .i64 addr) := hPW.cell 1
    clear hPW
    go_simp
    with_reducible rfl
  simp only [Act.put]
  try simp only [List.getElem_toArray, List.getElem_cons_succ, List.getElem_cons_zero]
  try simp only [List.setIfInBounds_toArray, List.set_cons_succ, List.set_cons_zero]
  refine wpAnyH_take (i := 5) (v := ?v5_5) rfl (by kernel_rfl) (by kernel_rfl) (by kernel_rfl) (fun _ _ _ h => h) (Or.inl ⟨by rfl, ?y5_5⟩) hS ?r5_5
  case y5_5 =>
    rintro W hH
    have hPW := hPd.below hH hPd.lt
    have q0 : W.cell? ⟨w.heap.size, 0, none⟩ = some (.int .i64 6) := hPW.cell 0
    have q1 : W.cell? ⟨w.heap.size, 1, none⟩ = some (.int .i64 addr) := hPW.cell 1
    clear hPW
    go_simp
    with_reducible rfl
  simp only [Act.put]
  try simp only [List.getElem_toArray, List.getElem_cons_succ, List.getElem_cons_zero]
  try simp only [List.setIfInBounds_toArray, List.set_cons_succ, List.set_cons_zero]
  refine wpAnyH_ready (rs := [3, 6]) (by kernel_rfl) (by simp) ?_
  refine AllReadyH.cons rfl (fun K' hK' => ?_) (AllReadyH.cons rfl (fun K' hK' => ?_) AllReadyH.nil)
  · skip
    go_simp
    have hSt := hS.alloc (Nat.le_refl _) (.cells #[.int .u8 6] 5)
    refine hK'.out _ _ hSt (fun hS => ?_)
    clear hK' K'
    refine wpAnyH_ready (rs := [6]) (by kernel_rfl) (by simp) ?_
    refine AllReadyH.cons rfl (fun K' hK' => ?_) AllReadyH.nil
    go_simp
    refine (two_any addr ha _).mono ?_
    rintro e wt0 ⟨rfl, hwt⟩
    have hbt : Below (wd.alloc (.cells #[.int .u8 6] 5)).heap.size (wd.alloc (.cells #[.int .u8 6] 5)) wt0 := by rw [hwt]; exact (Below.refl _ _).alloc (Nat.le_refl _) _
    have hst : SlI wt0 wt0.heap.size .u8 (some ⟨(wd.alloc (.cells #[.int .u8 6] 5)).heap.size, 0, none⟩) 2 2 (twoI addr) := by rw [hwt]; exact two_sl addr _
    have hSt := hS.trans (hbt.mono hS.size)
    have hzt := hSt.size
    have hown := own_up (lit_own wd.heap.size wd 6 (Nat.le_refl _)) hbt
    have hsl := hst
    rw [World.size_alloc] at hsl
    clear hwt
    go_simp
    refine hK'.out _ _ hSt (fun hS => ?_)
    clear hK' K'
    refine wpAnyH_ready (rs := [7]) (by kernel_rfl) (by simp) ?_
    refine AllReadyH.cons rfl (fun K' hK' => ?_) AllReadyH.nil
    refine step_append_lies _ (by rfl) _ _ _ (by rfl) wd.heap.size 5 i0 (.int .u8 0) 1 1 Tryd.underlying28 hi hz0 hz1' hz2' rfl (by decide) _ 1 _ (by rfl) hown ⟨wd.heap.size + 1, 0, none⟩ 2 2 ((twoI addr).map (Value.int .u8)) (by rfl) (by rfl) (news_of hsl.2.2.2.2) (ints_oneCell _ _) (by omega) (by unfold maxLen; omega) (by omega) hSt.size _ rfl ?_
    intro g0 c0 wa0 oa0 hgr _ _
    have hSa := hSt.grown hgr hSt.size (fun j hj => (hown.lt j hj).1)
    clear hgr hS
    refine hK'.out _ _ hSa (fun hS => ?_)
    clear hK' K'
    refine wpAnyH_take (i := 8) (v := ?v8_6) rfl (by kernel_rfl) (by kernel_rfl) (by kernel_rfl) (fun _ _ _ h => h) (Or.inl ⟨by rfl, ?y8_6⟩) hS ?r8_6
    case y8_6 =>
      rintro W hH
      have hPW := hPd.below hH hPd.lt
      have q0 : W.cell? ⟨w.heap.size, 0, none⟩ = some (.int .i64 6) := hPW.cell 0
      have q1 : W.cell? ⟨w.heap.size, 1, none⟩ = some (.int .i64 addr) := hPW.cell 1
      clear hPW
      go_simp
      with_reducible rfl
    simp only [Act.put]
    try simp only [List.getElem_toArray, List.getElem_cons_succ, List.getElem_cons_zero]
    try simp only [List.setIfInBounds_toArray, List.set_cons_succ, List.set_cons_zero]
    refine wpAnyH_done (by kernel_rfl) ?_ _
    have hP0 := hPd
    have Bwa0 : Below wd.heap.size wd wa0 := hS
    have Zwa0 := Bwa0.size
    have hPwa0 := hPd.below Bwa0 hPd.lt
    have lhPwa0 := hPwa0.lt
    have oa0' : wa0.ownsRow wd.heap.size 5 1 (.slice (some ⟨g0, 0, none⟩) (1 + 2) c0) (1 + 2) ((6 :: twoI addr).map (Value.int .u8)) := oa0
    clear oa0 hown hsl hst
    have hPwa00 : wa0.cell? ⟨w.heap.size, 0, none⟩ = some (.int .i64 6) := hPwa0.cell 0
    have hPwa01 : wa0.cell? ⟨w.heap.size, 1, none⟩ = some (.int .i64 addr) := hPwa0.cell 1
    have hPwa02 : wa0.cell? ⟨w.heap.size, 2, none⟩ = some (.int .i64 count) := hPwa0.cell 2
    have hPwa03 : wa0.cell? ⟨w.heap.size, 3, none⟩ = some (.int .i64 to) := hPwa0.cell 3
    have hPwa04 : wa0.cell? ⟨w.heap.size, 4, none⟩ = some (.slice A nb cb) := hPwa0.cell 4
    have hPwa05 : wa0.cell? ⟨w.heap.size, 5, none⟩ = some (.slice R nr cr) := hPwa0.cell 5
    obtain ⟨gb, ob, x, rfl, hgb, hxb, hcb⟩ := (HR.out wa0 (hbdw.trans (Bwa0.mono hbdw.size))).2.2.2.2.at_ (i := 0) (by rw [HLR.out]; exact hnr1)
    obtain rfl : r = x := by rw [HRT.out] at hxb; simpa using hxb
    rw [Nat.add_zero] at hcb
    obtain ⟨r0, r1⟩ := id hr
    clear hxb
    have HT1 := Lib.hid (two_any r hr wa0)
    go_wp2_with fail
    refine HT1.out.mono ?_
    rintro e wt1 ⟨rfl, hwt⟩
    have hbwt1 : Below wa0.heap.size wa0 wt1 := by rw [hwt]; exact (Below.refl _ wa0).alloc (Nat.le_refl _) _
    have st1 : SlI wt1 wt1.heap.size .u8 (some ⟨wa0.heap.size, 0, none⟩) 2 2 (twoI r) := by rw [hwt]; exact two_sl r wa0
    have ot1 := own_up oa0' hbwt1
    clear hwt
    have hzwt1 : wa0.heap.size ≤ wt1.heap.size := hbwt1.size
    have Bwt1 : Below wd.heap.size wd wt1 := Bwa0.trans (hbwt1.mono Bwa0.size)
    have Zwt1 := Bwt1.size
    have hPwt1 := hPwa0.below hbwt1 hPwa0.lt
    have lhPwt1 := hPwt1.lt
    have hPwt10 : wt1.cell? ⟨w.heap.size, 0, none⟩ = some (.int .i64 6) := hPwt1.cell 0
    have hPwt11 : wt1.cell? ⟨w.heap.size, 1, none⟩ = some (.int .i64 addr) := hPwt1.cell 1
    have hPwt12 : wt1.cell? ⟨w.heap.size, 2, none⟩ = some (.int .i64 count) := hPwt1.cell 2
    have hPwt13 : wt1.cell? ⟨w.heap.size, 3, none⟩ = some (.int .i64 to) := hPwt1.cell 3
    have hPwt14 : wt1.cell? ⟨w.heap.size, 4, none⟩ = some (.slice A nb cb) := hPwt1.cell 4
    have hPwt15 : wt1.cell? ⟨w.heap.size, 5, none⟩ = some (.slice (some ⟨gb, ob, none⟩) nr cr) := hPwt1.cell 5
    go_wp2_with ((with_reducible refine at_append ?_); refine wpList_append_sl wt1 rfl _ _ 28 rfl wd.heap.size 5 i0 (.int .u8 0) 1 Tryd.underlying28 hi hz0 hz1' hz2' rfl (.slice (some ⟨g0, 0, none⟩) (1 + 2) c0) (1 + 2) _ rfl ot1 wt1.heap.size .u8 (some ⟨wa0.heap.size, 0, none⟩) 2 2 (twoI r) rfl st1 (by unfold maxLen; omega) (by omega) Zwt1 ?_; intro va2 wa2 oa2 hgr hlies; have Bwa2 : Below wd.heap.size wd wa2 := Bwt1.grown hgr Zwt1 (fun j hj => (ot1.lt j hj).1); have Zwa2 := Bwa2.size; have hPwa2 := hP0.below Bwa2 hP0.lt; have lhPwa2 := hPwa2.lt; have hPwa20 : wa2.cell? ⟨w.heap.size, 0, none⟩ = some (.int .i64 6) := hPwa2.cell 0; have hPwa21 : wa2.cell? ⟨w.heap.size, 1, none⟩ = some (.int .i64 addr) := hPwa2.cell 1; have hPwa22 : wa2.cell? ⟨w.heap.size, 2, none⟩ = some (.int .i64 count) := hPwa2.cell 2; have hPwa23 : wa2.cell? ⟨w.heap.size, 3, none⟩ = some (.int .i64 to) := hPwa2.cell 3; have hPwa24 : wa2.cell? ⟨w.heap.size, 4, none⟩ = some (.slice A nb cb) := hPwa2.cell 4; have hPwa25 : wa2.cell? ⟨w.heap.size, 5, none⟩ = some (.slice (some ⟨gb, ob, none⟩) nr cr) := hPwa2.cell 5; rw [← List.map_append] at oa2; have Ooa2 := Lib.hid oa2; clear hgr hlies)
    go_ret2
    exact bytes_post HM.out (by unfold bytesP; rw [HRT.out]; rfl) oa2 (hbdw.trans (Bwa2.mono hbdw.size))
  · skip
    go_simp
    refine (two_any addr ha _).mono ?_
    rintro e wt0 ⟨rfl, hwt⟩
    have hbt : Below wd.heap.size wd wt0 := by rw [hwt]; exact (Below.refl _ _).alloc (Nat.le_refl _) _
    have hst : SlI wt0 wt0.heap.size .u8 (some ⟨wd.heap.size, 0, none⟩) 2 2 (twoI addr) := by rw [hwt]; exact two_sl addr _
    have hSt := hS.trans (hbt.mono hS.size)
    have hzt := hSt.size
    clear hwt
    go_simp
    refine hK'.out _ _ hSt (fun hS => ?_)
    clear hK' K'
    refine wpAnyH_ready (rs := [3]) (by kernel_rfl) (by simp) ?_
    refine AllReadyH.cons rfl (fun K' hK' => ?_) AllReadyH.nil
    go_simp
    have hown := lit_own wd.heap.size wt0 6 hzt
    have hsl := hst.alloc (.cells #[.int .u8 6] 5)
    have hSt := hS.alloc hzt (.cells #[.int .u8 6] 5)
    refine hK'.out _ _ hSt (fun hS => ?_)
    clear hK' K'
    refine wpAnyH_ready (rs := [7]) (by kernel_rfl) (by simp) ?_
    refine AllReadyH.cons rfl (fun K' hK' => ?_) AllReadyH.nil
    refine step_append_lies _ (by rfl) _ _ _ (by rfl) wd.heap.size 5 i0 (.int .u8 0) 1 1 Tryd.underlying28 hi hz0 hz1' hz2' rfl (by decide) _ 1 _ (by rfl) hown ⟨wd.heap.size, 0, none⟩ 2 2 ((twoI addr).map (Value.int .u8)) (by rfl) (by rfl) (news_of hsl.2.2.2.2) (ints_oneCell _ _) (by omega) (by unfold maxLen; omega) (by omega) hSt.size _ rfl ?_
    intro g0 c0 wa0 oa0 hgr _ _
    have hSa := hSt.grown hgr hSt.size (fun j hj => (hown.lt j hj).1)
    clear hgr hS
    refine hK'.out _ _ hSa (fun hS => ?_)
    clear hK' K'
    refine wpAnyH_take (i := 8) (v := ?v8_7) rfl (by kernel_rfl) (by kernel_rfl) (by kernel_rfl) (fun _ _ _ h => h) (Or.inl ⟨by rfl, ?y8_7⟩) hS ?r8_7
    case y8_7 =>
      rintro W hH
      have hPW := hPd.below hH hPd.lt
      have q0 : W.cell? ⟨w.heap.size, 0, none⟩ = some (.int .i64 6) := hPW.cell 0
      have q1 : W.cell? ⟨w.heap.size, 1, none⟩ = some (.int .i64 addr) := hPW.cell 1
      clear hPW
      go_simp
      with_reducible rfl
    simp only [Act.put]
    try simp only [List.getElem_toArray, List.getElem_cons_succ, List.getElem_cons_zero]
    try simp only [List.setIfInBounds_toArray, List.set_cons_succ, List.set_cons_zero]
    refine wpAnyH_done (by kernel_rfl) ?_ _
    have hP0 := hPd
    have Bwa0 : Below wd.heap.size wd wa0 := hS
    have Zwa0 := Bwa0.size
    have hPwa0 := hPd.below Bwa0 hPd.lt
    have lhPwa0 := hPwa0.lt
    have oa0' : wa0.ownsRow wd.heap.size 5 1 (.slice (some ⟨g0, 0, none⟩) (1 + 2) c0) (1 + 2) ((6 :: twoI addr).map (Value.int .u8)) := oa0
    clear oa0 hown hsl hst
    have hPwa00 : wa0.cell? ⟨w.heap.size, 0, none⟩ = some (.int .i64 6) := hPwa0.cell 0
    have hPwa01 : wa0.cell? ⟨w.heap.size, 1, none⟩ = some (.int .i64 addr) := hPwa0.cell 1
    have hPwa02 : wa0.cell? ⟨w.heap.size, 2, none⟩ = some (.int .i64 count) := hPwa0.cell 2
    have hPwa03 : wa0.cell? ⟨w.heap.size, 3, none⟩ = some (.int .i64 to) := hPwa0.cell 3
    have hPwa04 : wa0.cell? ⟨w.heap.size, 4, none⟩ = some (.slice A nb cb) := hPwa0.cell 4
    have hPwa05 : wa0.cell? ⟨w.heap.size, 5, none⟩ = some (.slice R nr cr) := hPwa0.cell 5
    obtain ⟨gb, ob, x, rfl, hgb, hxb, hcb⟩ := (HR.out wa0 (hbdw.trans (Bwa0.mono hbdw.size))).2.2.2.2.at_ (i := 0) (by rw [HLR.out]; exact hnr1)
    obtain rfl : r = x := by rw [HRT.out] at hxb; simpa using hxb
    rw [Nat.add_zero] at hcb
    obtain ⟨r0, r1⟩ := id hr
    clear hxb
    have HT1 := Lib.hid (two_any r hr wa0)
    go_wp2_with fail
    refine HT1.out.mono ?_
    rintro e wt1 ⟨rfl, hwt⟩
    have hbwt1 : Below wa0.heap.size wa0 wt1 := by rw [hwt]; exact (Below.refl _ wa0).alloc (Nat.le_refl _) _
    have st1 : SlI wt1 wt1.heap.size .u8 (some ⟨wa0.heap.size, 0, none⟩) 2 2 (twoI r) := by rw [hwt]; exact two_sl r wa0
    have ot1 := own_up oa0' hbwt1
    clear hwt
    have hzwt1 : wa0.heap.size ≤ wt1.heap.size := hbwt1.size
    have Bwt1 : Below wd.heap.size wd wt1 := Bwa0.trans (hbwt1.mono Bwa0.size)
    have Zwt1 := Bwt1.size
    have hPwt1 := hPwa0.below hbwt1 hPwa0.lt
    have lhPwt1 := hPwt1.lt
    have hPwt10 : wt1.cell? ⟨w.heap.size, 0, none⟩ = some (.int .i64 6) := hPwt1.cell 0
    have hPwt11 : wt1.cell? ⟨w.heap.size, 1, none⟩ = some (.int .i64 addr) := hPwt1.cell 1
    have hPwt12 : wt1.cell? ⟨w.heap.size, 2, none⟩ = some (.int .i64 count) := hPwt1.cell 2
    have hPwt13 : wt1.cell? ⟨w.heap.size, 3, none⟩ = some (.int .i64 to) := hPwt1.cell 3
    have hPwt14 : wt1.cell? ⟨w.heap.size, 4, none⟩ = some (.slice A nb cb) := hPwt1.cell 4
    have hPwt15 : wt1.cell? ⟨w.heap.size, 5, none⟩ = some (.slice (some ⟨gb, ob, none⟩) nr cr) := hPwt1.cell 5
    go_wp2_with ((with_reducible refine at_append ?_); refine wpList_append_sl wt1 rfl _ _ 28 rfl wd.heap.size 5 i0 (.int .u8 0) 1 Tryd.underlying28 hi hz0 hz1' hz2' rfl (.slice (some ⟨g0, 0, none⟩) (1 + 2) c0) (1 + 2) _ rfl ot1 wt1.heap.size .u8 (some ⟨wa0.heap.size, 0, none⟩) 2 2 (twoI r) rfl st1 (by unfold maxLen; omega) (by omega) Zwt1 ?_; intro va2 wa2 oa2 hgr hlies; have Bwa2 : Below wd.heap.size wd wa2 := Bwt1.grown hgr Zwt1 (fun j hj => (ot1.lt j hj).1); have Zwa2 := Bwa2.size; have hPwa2 := hP0.below Bwa2 hP0.lt; have lhPwa2 := hPwa2.lt; have hPwa20 : wa2.cell? ⟨w.heap.size, 0, none⟩ = some (.int .i64 6) := hPwa2.cell 0; have hPwa21 : wa2.cell? ⟨w.heap.size, 1, none⟩ = some (.int .i64 addr) := hPwa2.cell 1; have hPwa22 : wa2.cell? ⟨w.heap.size, 2, none⟩ = some (.int .i64 count) := hPwa2.cell 2; have hPwa23 : wa2.cell? ⟨w.heap.size, 3, none⟩ = some (.int .i64 to) := hPwa2.cell 3; have hPwa24 : wa2.cell? ⟨w.heap.size, 4, none⟩ = some (.slice A nb cb) := hPwa2.cell 4; have hPwa25 : wa2.cell? ⟨w.heap.size, 5, none⟩ = some (.slice (some ⟨gb, ob, none⟩) nr cr) := hPwa2.cell 5; rw [← List.map_append] at oa2; have Ooa2 := Lib.hid oa2; clear hgr hlies)
    go_ret2
    exact bytes_post HM.out (by unfold bytesP; rw [HRT.out]; rfl) oa2 (hbdw.trans (Bwa2.mono hbdw.size))

end Go.Proofs.YtflbiichdjhaeaaDoor
namespace Go.Proofs.YtflbiichdjhaeaaDoor
open Go.RowKit
set_option linter.unusedVariables false

set_option maxRecDepth 100000 in
set_option maxHeartbeats 2000000 in
theorem rb_15 (fn addr count to : Int) (bits : List Bool) (regs : List Int) (A : Option Addr) (nb cb : Nat) (R : Option Addr) (nr cr : Nat) (w : World) (hA : SlB w w.heap.size A nb cb bits) (hR : SlI w w.heap.size .u16 R nr cr regs) (hm : mayP ⟨fn, addr, count, to, bits, regs⟩ = true) (hy : Reg16 regs) (ha : 0 ≤ addr ∧ addr < 65536) (hfn : fn = 15) (hnb : 1 ≤ nb ∧ nb ≤ 1968) : Calls Tryd.prog 20 #[.agg #[.int .i64 fn, .int .i64 addr, .int .i64 count, .int .i64 to, .slice A nb cb, .slice R nr cr]] w (BytesPost w ⟨fn, addr, count, to, bits, regs⟩) := by
  subst hfn
  obtain ⟨nb0, nb1⟩ := hnb
  have hpl : (packN bits).length ≤ 247 := by rw [packN_len, hA.1]; omega
  have hpos : 0 < (packN bits).length := by rw [packN_len, hA.1]; omega
  have hpm : ((packN bits).length : Int) % 256 = (packN bits).length := by omega
  obtain ⟨w1, hw1⟩ : ∃ w1, w.alloc (.cells #[.int .i64 15, .int .i64 addr, .int .i64 count, .int .i64 to, .slice A nb cb, .slice R nr cr] 25) = w1 := ⟨_, rfl⟩
  have hb1 : Below w.heap.size w w1 := by rw [← hw1]; exact (Below.refl _ w).alloc (Nat.le_refl _) _
  have hz1 : w1.heap.size = w.heap.size + 1 := by rw [← hw1]; simp
  have hP1 : Held w1 w.heap.size 25 #[.int .i64 15, .int .i64 addr, .int .i64 count, .int .i64 to, .slice A nb cb, .slice R nr cr] := by rw [← hw1]; exact Held.new _ _ _
  have hu := Tryd.underlying25
  have hsz : (Tryd.prog.info? 25).map (·.size) = some 6 := by kernel_rfl
  have hc := may_any (.agg #[.int .i64 15, .int .i64 addr, .int .i64 count, .int .i64 to, .slice A nb cb, .slice R nr cr]) ⟨15, addr, count, to, bits, regs⟩ w1 ⟨A, nb, cb, R, nr, cr, rfl, hA.up hb1, hR.up hb1⟩
  rw [hm] at hc
  have HC := Lib.hid hc
  clear hc
  obtain ⟨i0, hi, hz0, hz1', hz2'⟩ := info_parts infoU8
  have HM := Lib.hid hm
  have HA := Lib.hid (fun (X : World) (h : Below w.heap.size w X) => hA.up h)
  have HR := Lib.hid (fun (X : World) (h : Below w.heap.size w X) => hR.up h)
  have HLB := Lib.hid hA.1
  have HLR := Lib.hid hR.1
  clear hA hR hm
  have hf1 : True := by trivial
  have wr0 : True := by trivial
  go_in
  go_wp2_with ((with_reducible refine at_loadT 25 1 ?_); refine wpList_load_rowG rfl 25 (.tmp 1) rfl w.heap.size rfl 25 _ _ hP1 hu rfl hsz ?_)
  refine HC.out.mono ?_
  rintro e w2 ⟨rfl, hb2⟩
  go_wp2_with fail
  obtain ⟨wd, hwd⟩ : ∃ wd : World, w2.drew = wd := ⟨_, rfl⟩
  have hb2d : Below w1.heap.size w1 wd := by rw [← hwd]; exact hb2.drew
  have hPd := hP1.below hb2d hP1.lt
  have hld := hPd.lt
  have hbdw := hb1.trans (hb2d.mono (by omega))
  have hzd := hb2d.size
  refine wp_region_held (S := Below wd.heap.size wd) (by kernel_rfl) ?_
  change wpAnyH _ _ _ _ _ _ _ _ w2.drew
  rw [hwd]
  have hS := Below.refl wd.heap.size wd
  refine wpAnyH_take (i := 0) (v := ?v0_1) rfl (by kernel_rfl) (by kernel_rfl) (by kernel_rfl) (fun _ _ _ h => h) (Or.inl ⟨by rfl, ?y0_1⟩) hS ?r0_1
  case y0_1 =>
    rintro W hH
    have hPW := hPd.below hH hPd.lt
    have q0 : W.cell? ⟨w.heap.size, 0, none⟩ = some (.int .i64 15) := hPW.cell 0
    have q1 : W.cell? ⟨w.heap.size, 1, none⟩ = some (.int .i64 addr) := hPW.cell 1
    clear hPW
    go_simp
    with_reducible rfl
  simp only [Act.put]
  try simp only [List.getElem_toArray, List.getElem_cons_zero]
  try simp only [List.setIfInBounds_toArray, List.set_cons_succ, List.set_cons_zero]
  refine wpAnyH_take (i := 1) (v := ?v1_2) rfl (by kernel_rfl) (by kernel_rfl) (by kernel_rfl) (fun _ _ _ h => h) (Or.inl ⟨by rfl, ?y1_2⟩) hS ?r1_2
  case y1_2 =>
    rintro W hH
    have hPW := hPd.below hH hPd.lt
    have q0 : W.cell? ⟨w.heap.size, 0, none⟩ = some (.int .i64 15) := hPW.cell 0
    have q1 : W.cell? ⟨w.heap.size, 1, none⟩ = some (.int .i64 addr) := hPW.cell 1
    clear hPW
    go_simp
    with_reducible rfl
  simp only [Act.put]
  try simp only [List.getElem_toArray, List.getElem_cons_succ, List.getElem_cons_zero]
  try simp only [List.setIfInBounds_toArray, List.set_cons_succ, List.set_cons_zero]
  refine wpAnyH_take (i := 2) (v := ?v2_3) rfl (by kernel_rfl) (by kernel_rfl) (by kernel_rfl) (fun _ _ _ h => h) (Or.inl ⟨by rfl, ?y2_3⟩) hS ?r2_3
  case y2_3 =>
    rintro W hH
    have hPW := hPd.below hH hPd.lt
    have q0 : W.cell? ⟨w.heap.size, 0, none⟩ = some (.int .i64 15) := hPW.cell 0
    have q1 : W.cell? ⟨w.heap.size, 1, none⟩ = some (.int .i64 addr) := hPW.cell 1
    clear hPW
    go_simp
    with_reducible rfl
  simp only [Act.put]
  try simp only [List.getElem_toArray, List.getElem_cons_succ, List.getElem_cons_zero]
  try simp only [List.setIfInBounds_toArray, List.set_cons_succ, List.set_cons_zero]
  refine wpAnyH_take (i := 4) (v := ?v4_4) rfl (by kernel_rfl) (by kernel_rfl) (by kernel_rfl) (fun _ _ _ h => h) (Or.inl ⟨by rfl, ?y4_4⟩) hS ?r4_4
  case y4_4 =>
    rintro W hH
    have hPW := hPd.below hH hPd.lt
    have q0 : W.cell? ⟨w.heap.size, 0, none⟩ = some (.int .i64 15) := hPW.cell 0
    have q1 : W.cell? ⟨w.heap.size, 1, none⟩ = some (.int .i64 addr) := hPW.cell 1
    clear hPW
    go_simp
    with_reducible rfl
  simp only [Act.put]
  try simp only [List.getElem_toArray, List.getElem_cons_succ, List.getElem_cons_zero]
  try simp only [List.setIfInBounds_toArray, List.set_cons_succ, List.set_cons_zero]
  refine wpAnyH_take (i := 5) (v := ?v5_5) rfl (by kernel_rfl) (by kernel_rfl) (by kernel_rfl) (fun _ _ _ h => h) (Or.inl ⟨by rfl, ?y5_5⟩) hS ?r5_5
  case y5_5 =>
    rintro W hH
    have hPW := hPd.below hH hPd.lt
    have q0 : W.cell? ⟨w.heap.size, 0, none⟩ = some (.int .i64 15) := hPW.cell 0
    have q1 : W.cell? ⟨w.heap.size, 1, none⟩ = some (.int .i64 addr) := hPW.cell 1
    clear hPW
    go_simp
    with_reducible rfl
  simp only [Act.put]
  try simp only [List.getElem_toArray, List.getElem_cons_succ, List.getElem_cons_zero]
  try simp only [List.setIfInBounds_toArray, List.set_cons_succ, List.set_cons_zero]
  refine wpAnyH_ready (rs := [3, 6]) (by kernel_rfl) (by simp) ?_
  refine AllReadyH.cons rfl (fun K' hK' => ?_) (AllReadyH.cons rfl (fun K' hK' => ?_) AllReadyH.nil)
  · skip
    go_simp
    have hSt := hS.alloc (Nat.le_refl _) (.cells #[.int .u8 15] 5)
    refine hK'.out _ _ hSt (fun hS => ?_)
    clear hK' K'
    refine wpAnyH_ready (rs := [6]) (by kernel_rfl) (by simp) ?_
    refine AllReadyH.cons rfl (fun K' hK' => ?_) AllReadyH.nil
    go_simp
    refine (two_any addr ha _).mono ?_
    rintro e wt0 ⟨rfl, hwt⟩
    have hbt : Below (wd.alloc (.cells #[.int .u8 15] 5)).heap.size (wd.alloc (.cells #[.int .u8 15] 5)) wt0 := by rw [hwt]; exact (Below.refl _ _).alloc (Nat.le_refl _) _
    have hst : SlI wt0 wt0.heap.size .u8 (some ⟨(wd.alloc (.cells #[.int .u8 15] 5)).heap.size, 0, none⟩) 2 2 (twoI addr) := by rw [hwt]; exact two_sl addr _
    have hSt := hS.trans (hbt.mono hS.size)
    have hzt := hSt.size
    have hown := own_up (lit_own wd.heap.size wd 15 (Nat.le_refl _)) hbt
    have hsl := hst
    rw [World.size_alloc] at hsl
    clear hwt
    go_simp
    refine hK'.out _ _ hSt (fun hS => ?_)
    clear hK' K'
    refine wpAnyH_ready (rs := [7]) (by kernel_rfl) (by simp) ?_
    refine AllReadyH.cons rfl (fun K' hK' => ?_) AllReadyH.nil
    refine step_append_lies _ (by rfl) _ _ _ (by rfl) wd.heap.size 5 i0 (.int .u8 0) 1 1 Tryd.underlying28 hi hz0 hz1' hz2' rfl (by decide) _ 1 _ (by rfl) hown ⟨wd.heap.size + 1, 0, none⟩ 2 2 ((twoI addr).map (Value.int .u8)) (by rfl) (by rfl) (news_of hsl.2.2.2.2) (ints_oneCell _ _) (by omega) (by unfold maxLen; omega) (by omega) hSt.size _ rfl ?_
    intro g0 c0 wa0 oa0 hgr _ _
    have hSa := hSt.grown hgr hSt.size (fun j hj => (hown.lt j hj).1)
    clear hgr hS
    refine hK'.out _ _ hSa (fun hS => ?_)
    clear hK' K'
    refine wpAnyH_take (i := 8) (v := ?v8_6) rfl (by kernel_rfl) (by kernel_rfl) (by kernel_rfl) (fun _ _ _ h => h) (Or.inl ⟨by rfl, ?y8_6⟩) hS ?r8_6
    case y8_6 =>
      rintro W hH
      have hPW := hPd.below hH hPd.lt
      have q0 : W.cell? ⟨w.heap.size, 0, none⟩ = some (.int .i64 15) := hPW.cell 0
      have q1 : W.cell? ⟨w.heap.size, 1, none⟩ = some (.int .i64 addr) := hPW.cell 1
      clear hPW
      go_simp
      with_reducible rfl
    simp only [Act.put]
    try simp only [List.getElem_toArray, List.getElem_cons_succ, List.getElem_cons_zero]
    try simp only [List.setIfInBounds_toArray, List.set_cons_succ, List.set_cons_zero]
    refine wpAnyH_done (by kernel_rfl) ?_ _
    have hP0 := hPd
    have Bwa0 : Below wd.heap.size wd wa0 := hS
    have Zwa0 := Bwa0.size
    have hPwa0 := hPd.below Bwa0 hPd.lt
    have lhPwa0 := hPwa0.lt
    have oa0' : wa0.ownsRow wd.heap.size 5 1 (.slice (some ⟨g0, 0, none⟩) (1 + 2) c0) (1 + 2) ((15 :: twoI addr).map (Value.int .u8)) := oa0
    clear oa0 hown hsl hst
    have hPwa00 : wa0.cell? ⟨w.heap.size, 0, none⟩ = some (.int .i64 15) := hPwa0.cell 0
    have hPwa01 : wa0.cell? ⟨w.heap.size, 1, none⟩ = some (.int .i64 addr) := hPwa0.cell 1
    have hPwa02 : wa0.cell? ⟨w.heap.size, 2, none⟩ = some (.int .i64 count) := hPwa0.cell 2
    have hPwa03 : wa0.cell? ⟨w.heap.size, 3, none⟩ = some (.int .i64 to) := hPwa0.cell 3
    have hPwa04 : wa0.cell? ⟨w.heap.size, 4, none⟩ = some (.slice A nb cb) := hPwa0.cell 4
    have hPwa05 : wa0.cell? ⟨w.heap.size, 5, none⟩ = some (.slice R nr cr) := hPwa0.cell 5
    have HC1 := Lib.hid (refpack_any A nb cb bits (by omega) wa0 (HA.out wa0 (hbdw.trans (Bwa0.mono hbdw.size))))
    go_wp2_with fail
    refine HC1.out.mono ?_
    rintro e wc1 ⟨vp, rfl, op, hbwc1⟩
    have gp := fun g h => (op.lt g h).1
    obtain ⟨Ap, cp, rfl, sp0⟩ := SlI.of_own op
    have fp0 : OffRow (.slice (some ⟨g0, 0, none⟩) (1 + 2) c0) Ap := fun g hg a ha e => by { subst ha; have h1 := gp a.block rfl; have h2 := (oa0'.lt g hg).2; omega }
    have ot1 := own_up oa0' hbwc1
    clear op gp
    have hzwc1 : wa0.heap.size ≤ wc1.heap.size := hbwc1.size
    have Bwc1 : Below wd.heap.size wd wc1 := Bwa0.trans (hbwc1.mono Bwa0.size)
    have Zwc1 := Bwc1.size
    have hPwc1 := hPwa0.below hbwc1 hPwa0.lt
    have lhPwc1 := hPwc1.lt
    have hPwc10 : wc1.cell? ⟨w.heap.size, 0, none⟩ = some (.int .i64 15) := hPwc1.cell 0
    have hPwc11 : wc1.cell? ⟨w.heap.size, 1, none⟩ = some (.int .i64 addr) := hPwc1.cell 1
    have hPwc12 : wc1.cell? ⟨w.heap.size, 2, none⟩ = some (.int .i64 count) := hPwc1.cell 2
    have hPwc13 : wc1.cell? ⟨w.heap.size, 3, none⟩ = some (.int .i64 to) := hPwc1.cell 3
    have hPwc14 : wc1.cell? ⟨w.heap.size, 4, none⟩ = some (.slice A nb cb) := hPwc1.cell 4
    have hPwc15 : wc1.cell? ⟨w.heap.size, 5, none⟩ = some (.slice R nr cr) := hPwc1.cell 5
    have spwc1 := sp0
    have fpwc1 := fp0
    have HT2 := Lib.hid (two_any (nb : Int) (by omega) wc1)
    go_wp2_with fail
    refine HT2.out.mono ?_
    rintro e wt2 ⟨rfl, hwt⟩
    have hbwt2 : Below wc1.heap.size wc1 wt2 := by rw [hwt]; exact (Below.refl _ wc1).alloc (Nat.le_refl _) _
    have st2 : SlI wt2 wt2.heap.size .u8 (some ⟨wc1.heap.size, 0, none⟩) 2 2 (twoI (nb : Int)) := by rw [hwt]; exact two_sl (nb : Int) wc1
    have ot2 := own_up ot1 hbwt2
    clear hwt
    have hzwt2 : wc1.heap.size ≤ wt2.heap.size := hbwt2.size
    have Bwt2 : Below wd.heap.size wd wt2 := Bwc1.trans (hbwt2.mono Bwc1.size)
    have Zwt2 := Bwt2.size
    have hPwt2 := hPwc1.below hbwt2 hPwc1.lt
    have lhPwt2 := hPwt2.lt
    have spwt2 := spwc1.up hbwt2
    have fpwt2 := fpwc1
    have hPwt20 : wt2.cell? ⟨w.heap.size, 0, none⟩ = some (.int .i64 15) := hPwt2.cell 0
    have hPwt21 : wt2.cell? ⟨w.heap.size, 1, none⟩ = some (.int .i64 addr) := hPwt2.cell 1
    have hPwt22 : wt2.cell? ⟨w.heap.size, 2, none⟩ = some (.int .i64 count) := hPwt2.cell 2
    have hPwt23 : wt2.cell? ⟨w.heap.size, 3, none⟩ = some (.int .i64 to) := hPwt2.cell 3
    have hPwt24 : wt2.cell? ⟨w.heap.size, 4, none⟩ = some (.slice A nb cb) := hPwt2.cell 4
    have hPwt25 : wt2.cell? ⟨w.heap.size, 5, none⟩ = some (.slice R nr cr) := hPwt2.cell 5
    go_wp2_with (first
      | ((with_reducible refine at_append ?_); refine wpList_append_sl wt2 rfl _ _ 28 rfl wd.heap.size 5 i0 (.int .u8 0) 1 Tryd.underlying28 hi hz0 hz1' hz2' rfl (.slice (some ⟨g0, 0, none⟩) (1 + 2) c0) (1 + 2) _ rfl ot2 wt2.heap.size .u8 (some ⟨wc1.heap.size, 0, none⟩) 2 2 (twoI (nb : Int)) rfl st2 (by unfold maxLen; omega) (by omega) Zwt2 ?_; intro va3 wa3 oa3 hgr hlies; have spwa3 := spwt2.grown hgr fpwt2; have fpwa3 := fpwt2.next spwt2 hpos hlies; have Bwa3 : Below wd.heap.size wd wa3 := Bwt2.grown hgr Zwt2 (fun j hj => (ot2.lt j hj).1); have Zwa3 := Bwa3.size; have hPwa3 := hP0.below Bwa3 hP0.lt; have lhPwa3 := hPwa3.lt; have hPwa30 : wa3.cell? ⟨w.heap.size, 0, none⟩ = some (.int .i64 15) := hPwa3.cell 0; have hPwa31 : wa3.cell? ⟨w.heap.size, 1, none⟩ = some (.int .i64 addr) := hPwa3.cell 1; have hPwa32 : wa3.cell? ⟨w.heap.size, 2, none⟩ = some (.int .i64 count) := hPwa3.cell 2; have hPwa33 : wa3.cell? ⟨w.heap.size, 3, none⟩ = some (.int .i64 to) := hPwa3.cell 3; have hPwa34 : wa3.cell? ⟨w.heap.size, 4, none⟩ = some (.slice A nb cb) := hPwa3.cell 4; have hPwa35 : wa3.cell? ⟨w.heap.size, 5, none⟩ = some (.slice R nr cr) := hPwa3.cell 5; rw [← List.map_append] at oa3; have Ooa3 := Lib.hid oa3; clear hgr hlies)
      | ((with_reducible refine at_append ?_); refine wpList_append_sl (wa3.alloc (.cells #[.int .u8 ((packN bits).length : Int)] 5)) rfl _ _ 28 rfl wd.heap.size 5 i0 (.int .u8 0) 1 Tryd.underlying28 hi hz0 hz1' hz2' rfl va3 ((1 + 2) + 2) _ rfl (oa3.alloc (.cells #[.int .u8 ((packN bits).length : Int)] 5)) (wa3.alloc (.cells #[.int .u8 ((packN bits).length : Int)] 5)).heap.size .u8 (some ⟨wa3.heap.size, 0, none⟩) 1 1 [((packN bits).length : Int)] rfl (SlI.of_lit (w := wa3) (T := 5) (cs := #[.int .u8 ((packN bits).length : Int)]) rfl rfl (by omega)) (by unfold maxLen; omega) (by omega) (by rw [World.size_alloc]; omega) ?_; intro va4 wa4 oa4 hgr hlies; have spwa4 := (spwa3.alloc (.cells #[.int .u8 ((packN bits).length : Int)] 5)).grown hgr fpwa3; have fpwa4 := fpwa3.next (spwa3.alloc (.cells #[.int .u8 ((packN bits).length : Int)] 5)) hpos hlies; have Bwa4 : Below wd.heap.size wd wa4 := (Bwa3.alloc Zwa3 (.cells #[.int .u8 ((packN bits).length : Int)] 5)).grown hgr (by rw [World.size_alloc]; omega) (fun j hj => (oa3.lt j hj).1); have Zwa4 := Bwa4.size; have hPwa4 := hP0.below Bwa4 hP0.lt; have lhPwa4 := hPwa4.lt; have hPwa40 : wa4.cell? ⟨w.heap.size, 0, none⟩ = some (.int .i64 15) := hPwa4.cell 0; have hPwa41 : wa4.cell? ⟨w.heap.size, 1, none⟩ = some (.int .i64 addr) := hPwa4.cell 1; have hPwa42 : wa4.cell? ⟨w.heap.size, 2, none⟩ = some (.int .i64 count) := hPwa4.cell 2; have hPwa43 : wa4.cell? ⟨w.heap.size, 3, none⟩ = some (.int .i64 to) := hPwa4.cell 3; have hPwa44 : wa4.cell? ⟨w.heap.size, 4, none⟩ = some (.slice A nb cb) := hPwa4.cell 4; have hPwa45 : wa4.cell? ⟨w.heap.size, 5, none⟩ = some (.slice R nr cr) := hPwa4.cell 5; rw [← List.map_append] at oa4; have Ooa4 := Lib.hid oa4; clear hgr hlies)
      | ((with_reducible refine at_append ?_); refine wpList_append_sl wa4 rfl _ _ 28 rfl wd.heap.size 5 i0 (.int .u8 0) 1 Tryd.underlying28 hi hz0 hz1' hz2' rfl va4 (((1 + 2) + 2) + 1) _ rfl oa4 wa4.heap.size .u8 Ap (packN bits).length cp (packN bits) rfl spwa4 (by unfold maxLen; omega) (by omega) Zwa4 ?_; intro va5 wa5 oa5 hgr hlies; have spwa5 := spwa4.grown hgr fpwa4; have fpwa5 := fpwa4.next spwa4 hpos hlies; have Bwa5 : Below wd.heap.size wd wa5 := Bwa4.grown hgr Zwa4 (fun j hj => (oa4.lt j hj).1); have Zwa5 := Bwa5.size; have hPwa5 := hP0.below Bwa5 hP0.lt; have lhPwa5 := hPwa5.lt; have hPwa50 : wa5.cell? ⟨w.heap.size, 0, none⟩ = some (.int .i64 15) := hPwa5.cell 0; have hPwa51 : wa5.cell? ⟨w.heap.size, 1, none⟩ = some (.int .i64 addr) := hPwa5.cell 1; have hPwa52 : wa5.cell? ⟨w.heap.size, 2, none⟩ = some (.int .i64 count) := hPwa5.cell 2; have hPwa53 : wa5.cell? ⟨w.heap.size, 3, none⟩ = some (.int .i64 to) := hPwa5.cell 3; have hPwa54 : wa5.cell? ⟨w.heap.size, 4, none⟩ = some (.slice A nb cb) := hPwa5.cell 4; have hPwa55 : wa5.cell? ⟨w.heap.size, 5, none⟩ = some (.slice R nr cr) := hPwa5.cell 5; rw [← List.map_append] at oa5; have Ooa5 := Lib.hid oa5; clear hgr hlies))
    go_ret2
    exact bytes_post HM.out (by unfold bytesP; simp only; rw [if_neg (by omega), if_neg (by omega), if_pos trivial, HLB.out]; simp) oa5 (hbdw.trans (Bwa5.mono hbdw.size))
  · skip
    go_simp
    refine (two_any addr ha _).mono ?_
    rintro e wt0 ⟨rfl, hwt⟩
    have hbt : Below wd.heap.size wd wt0 := by rw [hwt]; exact (Below.refl _ _).alloc (Nat.le_refl _) _
    have hst : SlI wt0 wt0.heap.size .u8 (some ⟨wd.heap.size, 0, none⟩) 2 2 (twoI addr) := by rw [hwt]; exact two_sl addr _
    have hSt := hS.trans (hbt.mono hS.size)
    have hzt := hSt.size
    clear hwt
    go_simp
    refine hK'.out _ _ hSt (fun hS => ?_)
    clear hK' K'
    refine wpAnyH_ready (rs := [3]) (by kernel_rfl) (by simp) ?_
    refine AllReadyH.cons rfl (fun K' hK' => ?_) AllReadyH.nil
    go_simp
    have hown := lit_own wd.heap.size wt0 15 hzt
    have hsl := hst.alloc (.cells #[.int .u8 15] 5)
    have hSt := hS.alloc hzt (.cells #[.int .u8 15] 5)
    refine hK'.out _ _ hSt (fun hS => ?_)
    clear hK' K'
    refine wpAnyH_ready (rs := [7]) (by kernel_rfl) (by simp) ?_
    refine AllReadyH.cons rfl (fun K' hK' => ?_) AllReadyH.nil
    refine step_append_lies _ (by rfl) _ _ _ (by rfl) wd.heap.size 5 i0 (.int .u8 0) 1 1 Tryd.underlying28 hi hz0 hz1' hz2' rfl (by decide) _ 1 _ (by rfl) hown ⟨wd.heap.size, 0, none⟩ 2 2 ((twoI addr).map (Value.int .u8)) (by rfl) (by rfl) (news_of hsl.2.2.2.2) (ints_oneCell _ _) (by omega) (by unfold maxLen; omega) (by omega) hSt.size _ rfl ?_
    intro g0 c0 wa0 oa0 hgr _ _
    have hSa := hSt.grown hgr hSt.size (fun j hj => (hown.lt j hj).1)
    clear hgr hS
    refine hK'.out _ _ hSa (fun hS => ?_)
    clear hK' K'
    refine wpAnyH_take (i := 8) (v := ?v8_7) rfl (by kernel_rfl) (by kernel_rfl) (by kernel_rfl) (fun _ _ _ h => h) (Or.inl ⟨by rfl, ?y8_7⟩) hS ?r8_7
    case y8_7 =>
      rintro W hH
      have hPW := hPd.below hH hPd.lt
      have q0 : W.cell? ⟨w.heap.size, 0, none⟩ = some (.int .i64 15) := hPW.cell 0
      have q1 : W.cell? ⟨w.heap.size, 1, none⟩ = some (.int .i64 addr) := hPW.cell 1
      clear hPW
      go_simp
      with_reducible rfl
    simp only [Act.put]
    try simp only [List.getElem_toArray, List.getElem_cons_succ, List.getElem_cons_zero]
    try simp only [List.setIfInBounds_toArray, List.set_cons_succ, List.set_cons_zero]
    refine wpAnyH_done (by kernel_rfl) ?_ _
    have hP0 := hPd
    have Bwa0 : Below wd.heap.size wd wa0 := hS
    have Zwa0 := Bwa0.size
    have hPwa0 := hPd.below Bwa0 hPd.lt
    have lhPwa0 := hPwa0.lt
    have oa0' : wa0.ownsRow wd.heap.size 5 1 (.slice (some ⟨g0, 0, none⟩) (1 + 2) c0) (1 + 2) ((15 :: twoI addr).map (Value.int .u8)) := oa0
    clear oa0 hown hsl hst
    have hPwa00 : wa0.cell? ⟨w.heap.size, 0, none⟩ = some (.int .i64 15) := hPwa0.cell 0
    have hPwa01 : wa0.cell? ⟨w.heap.size, 1, none⟩ = some (.int .i64 addr) := hPwa0.cell 1
    have hPwa02 : wa0.cell? ⟨w.heap.size, 2, none⟩ = some (.int .i64 count) := hPwa0.cell 2
    have hPwa03 : wa0.cell? ⟨w.heap.size, 3, none⟩ = some (.int .i64 to) := hPwa0.cell 3
    have hPwa04 : wa0.cell? ⟨w.heap.size, 4, none⟩ = some (.slice A nb cb) := hPwa0.cell 4
    have hPwa05 : wa0.cell? ⟨w.heap.size, 5, none⟩ = some (.slice R nr cr) := hPwa0.cell 5
    have HC1 := Lib.hid (refpack_any A nb cb bits (by omega) wa0 (HA.out wa0 (hbdw.trans (Bwa0.mono hbdw.size))))
    go_wp2_with fail
    refine HC1.out.mono ?_
    rintro e wc1 ⟨vp, rfl, op, hbwc1⟩
    have gp := fun g h => (op.lt g h).1
    obtain ⟨Ap, cp, rfl, sp0⟩ := SlI.of_own op
    have fp0 : OffRow (.slice (some ⟨g0, 0, none⟩) (1 + 2) c0) Ap := fun g hg a ha e => by { subst ha; have h1 := gp a.block rfl; have h2 := (oa0'.lt g hg).2; omega }
    have ot1 := own_up oa0' hbwc1
    clear op gp
    have hzwc1 : wa0.heap.size ≤ wc1.heap.size := hbwc1.size
    have Bwc1 : Below wd.heap.size wd wc1 := Bwa0.trans (hbwc1.mono Bwa0.size)
    have Zwc1 := Bwc1.size
    have hPwc1 := hPwa0.below hbwc1 hPwa0.lt
    have lhPwc1 := hPwc1.lt
    have hPwc10 : wc1.cell? ⟨w.heap.size, 0, none⟩ = some (.int .i64 15) := hPwc1.cell 0
    have hPwc11 : wc1.cell? ⟨w.heap.size, 1, none⟩ = some (.int .i64 addr) := hPwc1.cell 1
    have hPwc12 : wc1.cell? ⟨w.heap.size, 2, none⟩ = some (.int .i64 count) := hPwc1.cell 2
    have hPwc13 : wc1.cell? ⟨w.heap.size, 3, none⟩ = some (.int .i64 to) := hPwc1.cell 3
    have hPwc14 : wc1.cell? ⟨w.heap.size, 4, none⟩ = some (.slice A nb cb) := hPwc1.cell 4
    have hPwc15 : wc1.cell? ⟨w.heap.size, 5, none⟩ = some (.slice R nr cr) := hPwc1.cell 5
    have spwc1 := sp0
    have fpwc1 := fp0
    have HT2 := Lib.hid (two_any (nb : Int) (by omega) wc1)
    go_wp2_with fail
    refine HT2.out.mono ?_
    rintro e wt2 ⟨rfl, hwt⟩
    have hbwt2 : Below wc1.heap.size wc1 wt2 := by rw [hwt]; exact (Below.refl _ wc1).alloc (Nat.le_refl _) _
    have st2 : SlI wt2 wt2.heap.size .u8 (some ⟨wc1.heap.size, 0, none⟩) 2 2 (twoI (nb : Int)) := by rw [hwt]; exact two_sl (nb : Int) wc1
    have ot2 := own_up ot1 hbwt2
    clear hwt
    have hzwt2 : wc1.heap.size ≤ wt2.heap.size := hbwt2.size
    have Bwt2 : Below wd.heap.size wd wt2 := Bwc1.trans (hbwt2.mono Bwc1.size)
    have Zwt2 := Bwt2.size
    have hPwt2 := hPwc1.below hbwt2 hPwc1.lt
    have lhPwt2 := hPwt2.lt
    have spwt2 := spwc1.up hbwt2
    have fpwt2 := fpwc1
    have hPwt20 : wt2.cell? ⟨w.heap.size, 0, none⟩ = some (.int .i64 15) := hPwt2.cell 0
    have hPwt21 : wt2.cell? ⟨w.heap.size, 1, none⟩ = some (.int .i64 addr) := hPwt2.cell 1
    have hPwt22 : wt2.cell? ⟨w.heap.size, 2, none⟩ = some (.int .i64 count) := hPwt2.cell 2
    have hPwt23 : wt2.cell? ⟨w.heap.size, 3, none⟩ = some (.int .i64 to) := hPwt2.cell 3
    have hPwt24 : wt2.cell? ⟨w.heap.size, 4, none⟩ = some (.slice A nb cb) := hPwt2.cell 4
    have hPwt25 : wt2.cell? ⟨w.heap.size, 5, none⟩ = some (.slice R nr cr) := hPwt2.cell 5
    go_wp2_with (first
      | ((with_reducible refine at_append ?_); refine wpList_append_sl wt2 rfl _ _ 28 rfl wd.heap.size 5 i0 (.int .u8 0) 1 Tryd.underlying28 hi hz0 hz1' hz2' rfl (.slice (some ⟨g0, 0, none⟩) (1 + 2) c0) (1 + 2) _ rfl ot2 wt2.heap.size .u8 (some ⟨wc1.heap.size, 0, none⟩) 2 2 (twoI (nb : Int)) rfl st2 (by unfold maxLen; omega) (by omega) Zwt2 ?_; intro va3 wa3 oa3 hgr hlies; have spwa3 := spwt2.grown hgr fpwt2; have fpwa3 := fpwt2.next spwt2 hpos hlies; have Bwa3 : Below wd.heap.size wd wa3 := Bwt2.grown hgr Zwt2 (fun j hj => (ot2.lt j hj).1); have Zwa3 := Bwa3.size; have hPwa3 := hP0.below Bwa3 hP0.lt; have lhPwa3 := hPwa3.lt; have hPwa30 : wa3.cell? ⟨w.heap.size, 0, none⟩ = some (.int .i64 15) := hPwa3.cell 0; have hPwa31 : wa3.cell? ⟨w.heap.size, 1, none⟩ = some (.int .i64 addr) := hPwa3.cell 1; have hPwa32 : wa3.cell? ⟨w.heap.size, 2, none⟩ = some (.int .i64 count) := hPwa3.cell 2; have hPwa33 : wa3.cell? ⟨w.heap.size, 3, none⟩ = some (.int .i64 to) := hPwa3.cell 3; have hPwa34 : wa3.cell? ⟨w.heap.size, 4, none⟩ = some (.slice A nb cb) := hPwa3.cell 4; have hPwa35 : wa3.cell? ⟨w.heap.size, 5, none⟩ = some (.slice R nr cr) := hPwa3.cell 5; rw [← List.map_append] at oa3; have Ooa3 := Lib.hid oa3; clear hgr hlies)
      | ((with_reducible refine at_append ?_); refine wpList_append_sl (wa3.alloc (.cells #[.int .u8 ((packN bits).length : Int)] 5)) rfl _ _ 28 rfl wd.heap.size 5 i0 (.int .u8 0) 1 Tryd.underlying28 hi hz0 hz1' hz2' rfl va3 ((1 + 2) + 2) _ rfl (oa3.alloc (.cells #[.int .u8 ((packN bits).length : Int)] 5)) (wa3.alloc (.cells #[.int .u8 ((packN bits).length : Int)] 5)).heap.size .u8 (some ⟨wa3.heap.size, 0, none⟩) 1 1 [((packN bits).length : Int)] rfl (SlI.of_lit (w := wa3) (T := 5) (cs := #[.int .u8 ((packN bits).length : Int)]) rfl rfl (by omega)) (by unfold maxLen; omega) (by omega) (by rw [World.size_alloc]; omega) ?_; intro va4 wa4 oa4 hgr hlies; have spwa4 := (spwa3.alloc (.cells #[.int .u8 ((packN bits).length : Int)] 5)).grown hgr fpwa3; have fpwa4 := fpwa3.next (spwa3.alloc (.cells #[.int .u8 ((packN bits).length : Int)] 5)) hpos hlies; have Bwa4 : Below wd.heap.size wd wa4 := (Bwa3.alloc Zwa3 (.cells #[.int .u8 ((packN bits).length : Int)] 5)).grown hgr (by rw [World.size_alloc]; omega) (fun j hj => (oa3.lt j hj).1); have Zwa4 := Bwa4.size; have hPwa4 := hP0.below Bwa4 hP0.lt; have lhPwa4 := hPwa4.lt; have hPwa40 : wa4.cell? ⟨w.heap.size, 0, none⟩ = some (.int .i64 15) := hPwa4.cell 0; have hPwa41 : wa4.cell? ⟨w.heap.size, 1, none⟩ = some (.int .i64 addr) := hPwa4.cell 1; have hPwa42 : wa4.cell? ⟨w.heap.size, 2, none⟩ = some (.int .i64 count) := hPwa4.cell 2; have hPwa43 : wa4.cell? ⟨w.heap.size, 3, none⟩ = some (.int .i64 to) := hPwa4.cell 3; have hPwa44 : wa4.cell? ⟨w.heap.size, 4, none⟩ = some (.slice A nb cb) := hPwa4.cell 4; have hPwa45 : wa4.cell? ⟨w.heap.size, 5, none⟩ = some (.slice R nr cr) := hPwa4.cell 5; rw [← List.map_append] at oa4; have Ooa4 := Lib.hid oa4; clear hgr hlies)
      | ((with_reducible refine at_append ?_); refine wpList_append_sl wa4 rfl _ _ 28 rfl wd.heap.size 5 i0 (.int .u8 0) 1 Tryd.underlying28 hi hz0 hz1' hz2' rfl va4 (((1 + 2) + 2) + 1) _ rfl oa4 wa4.heap.size .u8 Ap (packN bits).length cp (packN bits) rfl spwa4 (by unfold maxLen; omega) (by omega) Zwa4 ?_; intro va5 wa5 oa5 hgr hlies; have spwa5 := spwa4.grown hgr fpwa4; have fpwa5 := fpwa4.next spwa4 hpos hlies; have Bwa5 : Below wd.heap.size wd wa5 := Bwa4.grown hgr Zwa4 (fun j hj => (oa4.lt j hj).1); have Zwa5 := Bwa5.size; have hPwa5 := hP0.below Bwa5 hP0.lt; have lhPwa5 := hPwa5.lt; have hPwa50 : wa5.cell? ⟨w.heap.size, 0, none⟩ = some (.int .i64 15) := hPwa5.cell 0; have hPwa51 : wa5.cell? ⟨w.heap.size, 1, none⟩ = some (.int .i64 addr) := hPwa5.cell 1; have hPwa52 : wa5.cell? ⟨w.heap.size, 2, none⟩ = some (.int .i64 count) := hPwa5.cell 2; have hPwa53 : wa5.cell? ⟨w.heap.size, 3, none⟩ = some (.int .i64 to) := hPwa5.cell 3; have hPwa54 : wa5.cell? ⟨w.heap.size, 4, none⟩ = some (.slice A nb cb) := hPwa5.cell 4; have hPwa55 : wa5.cell? ⟨w.heap.size, 5, none⟩ = some (.slice R nr cr) := hPwa5.cell 5; rw [← List.map_append] at oa5; have Ooa5 := Lib.hid oa5; clear hgr hlies))
    go_ret2
    exact bytes_post HM.out (by unfold bytesP; simp only; rw [if_neg (by omega), if_neg (by omega), if_pos trivial, HLB.out]; simp) oa5 (hbdw.trans (Bwa5.mono hbdw.size))

end Go.Proofs.YtflbiichdjhaeaaDoor
namespace Go.Proofs.YtflbiichdjhaeaaDoor
open Go.RowKit
set_option linter.unusedVariables false

set_option maxRecDepth 100000 in
set_option maxHeartbeats 2000000 in
theorem rb_16 (fn addr count to : Int) (bits : List Bool) (regs : List Int) (A : Option Addr) (nb cb : Nat) (R : Option Addr) (nr cr : Nat) (w : World) (hA : SlB w w.heap.size A nb cb bits) (hR : SlI w w.heap.size .u16 R nr cr regs) (hm : mayP ⟨fn, addr, count, to, bits, regs⟩ = true) (hy : Reg16 regs) (ha : 0 ≤ addr ∧ addr < 65536) (hfn : fn = 16) (hnr : 1 ≤ nr ∧ nr ≤ 123) : Calls Tryd.prog 20 #[.agg #[.int .i64 fn, .int .i64 addr, .int .i64 count, .int .i64 to, .slice A nb cb, .slice R nr cr]] w (BytesPost w ⟨fn, addr, count, to, bits, regs⟩) := by
  subst hfn
  obtain ⟨nr0, nr1⟩ := hnr
  have hpm : 2 * (nr : Int) % 256 = 2 * (nr : Int) := by omega
  obtain ⟨w1, hw1⟩ : ∃ w1, w.alloc (.cells #[.int .i64 16, .int .i64 addr, .int .i64 count, .int .i64 to, .slice A nb cb, .slice R nr cr] 25) = w1 := ⟨_, rfl⟩
  have hb1 : Below w.heap.size w w1 := by rw [← hw1]; exact (Below.refl _ w).alloc (Nat.le_refl _) _
  have hz1 : w1.heap.size = w.heap.size + 1 := by rw [← hw1]; simp
  have hP1 : Held w1 w.heap.size 25 #[.int .i64 16, .int .i64 addr, .int .i64 count, .int .i64 to, .slice A nb cb, .slice R nr cr] := by rw [← hw1]; exact Held.new _ _ _
  have hu := Tryd.underlying25
  have hsz : (Tryd.prog.info? 25).map (·.size) = some 6 := by kernel_rfl
  have hc := may_any (.agg #[.int .i64 16, .int .i64 addr, .int .i64 count, .int .i64 to, .slice A nb cb, .slice R nr cr]) ⟨16, addr, count, to, bits, regs⟩ w1 ⟨A, nb, cb, R, nr, cr, rfl, hA.up hb1, hR.up hb1⟩
  rw [hm] at hc
  have HC := Lib.hid hc
  clear hc
  obtain ⟨i0, hi, hz0, hz1', hz2'⟩ := info_parts infoU8
  have HM := Lib.hid hm
  have HA := Lib.hid (fun (X : World) (h : Below w.heap.size w X) => hA.up h)
  have HR := Lib.hid (fun (X : World) (h : Below w.heap.size w X) => hR.up h)
  have HLB := Lib.hid hA.1
  have HLR := Lib.hid hR.1
  clear hA hR hm
  have hf1 : True := by trivial
  have wr0 : True := by trivial
  go_in
  go_wp2_with ((with_reducible refine at_loadT 25 1 ?_); refine wpList_load_rowG rfl 25 (.tmp 1) rfl w.heap.size rfl 25 _ _ hP1 hu rfl hsz ?_)
  refine HC.out.mono ?_
  rintro e w2 ⟨rfl, hb2⟩
  go_wp2_with fail
  obtain ⟨wd, hwd⟩ : ∃ wd : World, w2.drew = wd := ⟨_, rfl⟩
  have hb2d : Below w1.heap.size w1 wd := by rw [← hwd]; exact hb2.drew
  have hPd := hP1.below hb2d hP1.lt
  have hld := hPd.lt
  have hbdw := hb1.trans (hb2d.mono (by omega))
  have hzd := hb2d.size
  refine wp_region_held (S := Below wd.heap.size wd) (by kernel_rfl) ?_
  change wpAnyH _ _ _ _ _ _ _ _ w2.drew
  rw [hwd]
  have hS := Below.refl wd.heap.size wd
  refine wpAnyH_take (i := 0) (v := ?v0_1) rfl (by kernel_rfl) (by kernel_rfl) (by kernel_rfl) (fun _ _ _ h => h) (Or.inl ⟨by rfl, ?y0_1⟩) hS ?r0_1
  case y0_1 =>
    rintro W hH
    have hPW := hPd.below hH hPd.lt
    have q0 : W.cell? ⟨w.heap.size, 0, none⟩ = some (.int .i64 16) := hPW.cell 0
    have q1 : W.cell? ⟨w.heap.size, 1, none⟩ = some (.int .i64 addr) := hPW.cell 1
    clear hPW
    go_simp
    with_reducible rfl
  simp only [Act.put]
  try simp only [List.getElem_toArray, List.getElem_cons_zero]
  try simp only [List.setIfInBounds_toArray, List.set_cons_succ, List.set_cons_zero]
  refine wpAnyH_take (i := 1) (v := ?v1_2) rfl (by kernel_rfl) (by kernel_rfl) (by kernel_rfl) (fun _ _ _ h => h) (Or.inl ⟨by rfl, ?y1_2⟩) hS ?r1_2
  case y1_2 =>
    rintro W hH
    have hPW := hPd.below hH hPd.lt
    have q0 : W.cell? ⟨w.heap.size, 0, none⟩ = some (.int .i64 16) := hPW.cell 0
    have q1 : W.cell? ⟨w.heap.size, 1, none⟩ = some (.int .i64 addr) := hPW.cell 1
    clear hPW
    go_simp
    with_reducible rfl
  simp only [Act.put]
  try simp only [List.getElem_toArray, List.getElem_cons_succ, List.getElem_cons_zero]
  try simp only [List.setIfInBounds_toArray, List.set_cons_succ, List.set_cons_zero]
  refine wpAnyH_take (i := 2) (v := ?v2_3) rfl (by kernel_rfl) (by kernel_rfl) (by kernel_rfl) (fun _ _ _ h => h) (Or.inl ⟨by rfl, ?y2_3⟩) hS ?r2_3
  case y2_3 =>
    rintro W hH
    have hPW := hPd.below hH hPd.lt
    have q0 : W.cell? ⟨w.heap.size, 0, none⟩ = some (.int .i64 16) := hPW.cell 0
    have q1 : W.cell? ⟨w.heap.size, 1, none⟩ = some (.int .i64 addr) := hPW.cell 1
    clear hPW
    go_simp
    with_reducible rfl
  simp only [Act.put]
  try simp only [List.getElem_toArray, List.getElem_cons_succ, List.getElem_cons_zero]
  try simp only [List.setIfInBounds_toArray, List.set_cons_succ, List.set_cons_zero]
  refine wpAnyH_take (i := 4) (v := ?v4_4) rfl (by kernel_rfl) (by kernel_rfl) (by kernel_rfl) (fun _ _ _ h => h) (Or.inl ⟨by rfl, ?y4_4⟩) hS ?r4_4
  case y4_4 =>
    rintro W hH
    have hPW := hPd.below hH hPd.lt
    have q0 : W.cell? ⟨w.heap.size, 0, none⟩ = some (.int .i64 16) := hPW.cell 0
    have q1 : W.cell? ⟨w.heap.size, 1, none⟩ = some (.int .i64 addr) := hPW.cell 1
    clear hPW
    go_simp
    with_reducible rfl
  simp only [Act.put]
  try simp only [List.getElem_toArray, List.getElem_cons_succ, List.getElem_cons_zero]
  try simp only [List.setIfInBounds_toArray, List.set_cons_succ, List.set_cons_zero]
  refine wpAnyH_take (i := 5) (v := ?v5_5) rfl (by kernel_rfl) (by kernel_rfl) (by kernel_rfl) (fun _ _ _ h => h) (Or.inl ⟨by rfl, ?y5_5⟩) hS ?r5_5
  case y5_5 =>
    rintro W hH
    have hPW := hPd.below hH hPd.lt
    have q0 : W.cell? ⟨w.heap.size, 0, none⟩ = some (.int .i64 16) := hPW.cell 0
    have q1 : W.cell? ⟨w.heap.size, 1, none⟩ = some (.int .i64 addr) := hPW.cell 1
    clear hPW
    go_simp
    with_reducible rfl
  simp only [Act.put]
  try simp only [List.getElem_toArray, List.getElem_cons_succ, List.getElem_cons_zero]
  try simp only [List.setIfInBounds_toArray, List.set_cons_succ, List.set_cons_zero]
  refine wpAnyH_ready (rs := [3, 6]) (by kernel_rfl) (by simp) ?_
  refine AllReadyH.cons rfl (fun K' hK' => ?_) (AllReadyH.cons rfl (fun K' hK' => ?_) AllReadyH.nil)
  · skip
    go_simp
    have hSt := hS.alloc (Nat.le_refl _) (.cells #[.int .u8 16] 5)
    refine hK'.out _ _ hSt (fun hS => ?_)
    clear hK' K'
    refine wpAnyH_ready (rs := [6]) (by kernel_rfl) (by simp) ?_
    refine AllReadyH.cons rfl (fun K' hK' => ?_) AllReadyH.nil
    go_simp
    refine (two_any addr ha _).mono ?_
    rintro e wt0 ⟨rfl, hwt⟩
    have hbt : Below (wd.alloc (.cells #[.int .u8 16] 5)).heap.size (wd.alloc (.cells #[.int .u8 16] 5)) wt0 := by rw [hwt]; exact (Below.refl _ _).alloc (Nat.le_refl _) _
    have hst : SlI wt0 wt0.heap.size .u8 (some ⟨(wd.alloc (.cells #[.int .u8 16] 5)).heap.size, 0, none⟩) 2 2 (twoI addr) := by rw [hwt]; exact two_sl addr _
    have hSt := hS.trans (hbt.mono hS.size)
    have hzt := hSt.size
    have hown := own_up (lit_own wd.heap.size wd 16 (Nat.le_refl _)) hbt
    have hsl := hst
    rw [World.size_alloc] at hsl
    clear hwt
    go_simp
    refine hK'.out _ _ hSt (fun hS => ?_)
    clear hK' K'
    refine wpAnyH_ready (rs := [7]) (by kernel_rfl) (by simp) ?_
    refine AllReadyH.cons rfl (fun K' hK' => ?_) AllReadyH.nil
    refine step_append_lies _ (by rfl) _ _ _ (by rfl) wd.heap.size 5 i0 (.int .u8 0) 1 1 Tryd.underlying28 hi hz0 hz1' hz2' rfl (by decide) _ 1 _ (by rfl) hown ⟨wd.heap.size + 1, 0, none⟩ 2 2 ((twoI addr).map (Value.int .u8)) (by rfl) (by rfl) (news_of hsl.2.2.2.2) (ints_oneCell _ _) (by omega) (by unfold maxLen; omega) (by omega) hSt.size _ rfl ?_
    intro g0 c0 wa0 oa0 hgr _ _
    have hSa := hSt.grown hgr hSt.size (fun j hj => (hown.lt j hj).1)
    clear hgr hS
    refine hK'.out _ _ hSa (fun hS => ?_)
    clear hK' K'
    refine wpAnyH_take (i := 8) (v := ?v8_6) rfl (by kernel_rfl) (by kernel_rfl) (by kernel_rfl) (fun _ _ _ h => h) (Or.inl ⟨by rfl, ?y8_6⟩) hS ?r8_6
    case y8_6 =>
      rintro W hH
      have hPW := hPd.below hH hPd.lt
      have q0 : W.cell? ⟨w.heap.size, 0, none⟩ = some (.int .i64 16) := hPW.cell 0
      have q1 : W.cell? ⟨w.heap.size, 1, none⟩ = some (.int .i64 addr) := hPW.cell 1
      clear hPW
      go_simp
      with_reducible rfl
    simp only [Act.put]
    try simp only [List.getElem_toArray, List.getElem_cons_succ, List.getElem_cons_zero]
    try simp only [List.setIfInBounds_toArray, List.set_cons_succ, List.set_cons_zero]
    refine wpAnyH_done (by kernel_rfl) ?_ _
    have hP0 := hPd
    have Bwa0 : Below wd.heap.size wd wa0 := hS
    have Zwa0 := Bwa0.size
    have hPwa0 := hPd.below Bwa0 hPd.lt
    have lhPwa0 := hPwa0.lt
    have oa0' : wa0.ownsRow wd.heap.size 5 1 (.slice (some ⟨g0, 0, none⟩) (1 + 2) c0) (1 + 2) ((16 :: twoI addr).map (Value.int .u8)) := oa0
    clear oa0 hown hsl hst
    have hPwa00 : wa0.cell? ⟨w.heap.size, 0, none⟩ = some (.int .i64 16) := hPwa0.cell 0
    have hPwa01 : wa0.cell? ⟨w.heap.size, 1, none⟩ = some (.int .i64 addr) := hPwa0.cell 1
    have hPwa02 : wa0.cell? ⟨w.heap.size, 2, none⟩ = some (.int .i64 count) := hPwa0.cell 2
    have hPwa03 : wa0.cell? ⟨w.heap.size, 3, none⟩ = some (.int .i64 to) := hPwa0.cell 3
    have hPwa04 : wa0.cell? ⟨w.heap.size, 4, none⟩ = some (.slice A nb cb) := hPwa0.cell 4
    have hPwa05 : wa0.cell? ⟨w.heap.size, 5, none⟩ = some (.slice R nr cr) := hPwa0.cell 5
    have HT1 := Lib.hid (two_any (nr : Int) (by omega) wa0)
    go_wp2_with fail
    refine HT1.out.mono ?_
    rintro e wt1 ⟨rfl, hwt⟩
    have hbwt1 : Below wa0.heap.size wa0 wt1 := by rw [hwt]; exact (Below.refl _ wa0).alloc (Nat.le_refl _) _
    have st1 : SlI wt1 wt1.heap.size .u8 (some ⟨wa0.heap.size, 0, none⟩) 2 2 (twoI (nr : Int)) := by rw [hwt]; exact two_sl (nr : Int) wa0
    have ot1 := own_up oa0' hbwt1
    clear hwt
    have hzwt1 : wa0.heap.size ≤ wt1.heap.size := hbwt1.size
    have Bwt1 : Below wd.heap.size wd wt1 := Bwa0.trans (hbwt1.mono Bwa0.size)
    have Zwt1 := Bwt1.size
    have hPwt1 := hPwa0.below hbwt1 hPwa0.lt
    have lhPwt1 := hPwt1.lt
    have hPwt10 : wt1.cell? ⟨w.heap.size, 0, none⟩ = some (.int .i64 16) := hPwt1.cell 0
    have hPwt11 : wt1.cell? ⟨w.heap.size, 1, none⟩ = some (.int .i64 addr) := hPwt1.cell 1
    have hPwt12 : wt1.cell? ⟨w.heap.size, 2, none⟩ = some (.int .i64 count) := hPwt1.cell 2
    have hPwt13 : wt1.cell? ⟨w.heap.size, 3, none⟩ = some (.int .i64 to) := hPwt1.cell 3
    have hPwt14 : wt1.cell? ⟨w.heap.size, 4, none⟩ = some (.slice A nb cb) := hPwt1.cell 4
    have hPwt15 : wt1.cell? ⟨w.heap.size, 5, none⟩ = some (.slice R nr cr) := hPwt1.cell 5
    go_wp2_with (first
      | ((with_reducible refine at_append ?_); refine wpList_append_sl wt1 rfl _ _ 28 rfl wd.heap.size 5 i0 (.int .u8 0) 1 Tryd.underlying28 hi hz0 hz1' hz2' rfl (.slice (some ⟨g0, 0, none⟩) (1 + 2) c0) (1 + 2) _ rfl ot1 wt1.heap.size .u8 (some ⟨wa0.heap.size, 0, none⟩) 2 2 (twoI (nr : Int)) rfl st1 (by unfold maxLen; omega) (by omega) Zwt1 ?_; intro va2 wa2 oa2 hgr hlies; have Bwa2 : Below wd.heap.size wd wa2 := Bwt1.grown hgr Zwt1 (fun j hj => (ot1.lt j hj).1); have Zwa2 := Bwa2.size; have hPwa2 := hP0.below Bwa2 hP0.lt; have lhPwa2 := hPwa2.lt; have hPwa20 : wa2.cell? ⟨w.heap.size, 0, none⟩ = some (.int .i64 16) := hPwa2.cell 0; have hPwa21 : wa2.cell? ⟨w.heap.size, 1, none⟩ = some (.int .i64 addr) := hPwa2.cell 1; have hPwa22 : wa2.cell? ⟨w.heap.size, 2, none⟩ = some (.int .i64 count) := hPwa2.cell 2; have hPwa23 : wa2.cell? ⟨w.heap.size, 3, none⟩ = some (.int .i64 to) := hPwa2.cell 3; have hPwa24 : wa2.cell? ⟨w.heap.size, 4, none⟩ = some (.slice A nb cb) := hPwa2.cell 4; have hPwa25 : wa2.cell? ⟨w.heap.size, 5, none⟩ = some (.slice R nr cr) := hPwa2.cell 5; rw [← List.map_append] at oa2; have Ooa2 := Lib.hid oa2; clear hgr hlies)
      | ((with_reducible refine at_append ?_); refine wpList_append_sl (wa2.alloc (.cells #[.int .u8 (2 * (nr : Int))] 5)) rfl _ _ 28 rfl wd.heap.size 5 i0 (.int .u8 0) 1 Tryd.underlying28 hi hz0 hz1' hz2' rfl va2 ((1 + 2) + 2) _ rfl (oa2.alloc (.cells #[.int .u8 (2 * (nr : Int))] 5)) (wa2.alloc (.cells #[.int .u8 (2 * (nr : Int))] 5)).heap.size .u8 (some ⟨wa2.heap.size, 0, none⟩) 1 1 [(2 * (nr : Int))] rfl (SlI.of_lit (w := wa2) (T := 5) (cs := #[.int .u8 (2 * (nr : Int))]) rfl rfl (by omega)) (by unfold maxLen; omega) (by omega) (by rw [World.size_alloc]; omega) ?_; intro va3 wa3 oa3 hgr hlies; have Bwa3 : Below wd.heap.size wd wa3 := (Bwa2.alloc Zwa2 (.cells #[.int .u8 (2 * (nr : Int))] 5)).grown hgr (by rw [World.size_alloc]; omega) (fun j hj => (oa2.lt j hj).1); have Zwa3 := Bwa3.size; have hPwa3 := hP0.below Bwa3 hP0.lt; have lhPwa3 := hPwa3.lt; have hPwa30 : wa3.cell? ⟨w.heap.size, 0, none⟩ = some (.int .i64 16) := hPwa3.cell 0; have hPwa31 : wa3.cell? ⟨w.heap.size, 1, none⟩ = some (.int .i64 addr) := hPwa3.cell 1; have hPwa32 : wa3.cell? ⟨w.heap.size, 2, none⟩ = some (.int .i64 count) := hPwa3.cell 2; have hPwa33 : wa3.cell? ⟨w.heap.size, 3, none⟩ = some (.int .i64 to) := hPwa3.cell 3; have hPwa34 : wa3.cell? ⟨w.heap.size, 4, none⟩ = some (.slice A nb cb) := hPwa3.cell 4; have hPwa35 : wa3.cell? ⟨w.heap.size, 5, none⟩ = some (.slice R nr cr) := hPwa3.cell 5; rw [← List.map_append] at oa3; have Ooa3 := Lib.hid oa3; clear hgr hlies))
    have HC4 := Lib.hid (rwords_any R nr cr regs (by omega) wa3 (HR.out wa3 (hbdw.trans (Bwa3.mono hbdw.size))) hy)
    refine HC4.out.mono ?_
    rintro e wc4 ⟨vp, rfl, op, hbwc4⟩
    have gp := fun g h => (op.lt g h).1
    obtain ⟨Ap, cp, rfl, sp0⟩ := SlI.of_own op
    have fp0 : OffRow va3 Ap := fun g hg a ha e => by { subst ha; have h1 := gp a.block rfl; have h2 := (oa3.lt g hg).2; omega }
    have ot4 := own_up oa3 hbwc4
    clear op gp
    have hzwc4 : wa3.heap.size ≤ wc4.heap.size := hbwc4.size
    have Bwc4 : Below wd.heap.size wd wc4 := Bwa3.trans (hbwc4.mono Bwa3.size)
    have Zwc4 := Bwc4.size
    have hPwc4 := hPwa3.below hbwc4 hPwa3.lt
    have lhPwc4 := hPwc4.lt
    have hPwc40 : wc4.cell? ⟨w.heap.size, 0, none⟩ = some (.int .i64 16) := hPwc4.cell 0
    have hPwc41 : wc4.cell? ⟨w.heap.size, 1, none⟩ = some (.int .i64 addr) := hPwc4.cell 1
    have hPwc42 : wc4.cell? ⟨w.heap.size, 2, none⟩ = some (.int .i64 count) := hPwc4.cell 2
    have hPwc43 : wc4.cell? ⟨w.heap.size, 3, none⟩ = some (.int .i64 to) := hPwc4.cell 3
    have hPwc44 : wc4.cell? ⟨w.heap.size, 4, none⟩ = some (.slice A nb cb) := hPwc4.cell 4
    have hPwc45 : wc4.cell? ⟨w.heap.size, 5, none⟩ = some (.slice R nr cr) := hPwc4.cell 5
    have spwc4 := sp0
    have fpwc4 := fp0
    go_wp2_with ((with_reducible refine at_append ?_); refine wpList_append_sl wc4 rfl _ _ 28 rfl wd.heap.size 5 i0 (.int .u8 0) 1 Tryd.underlying28 hi hz0 hz1' hz2' rfl va3 (((1 + 2) + 2) + 1) _ rfl ot4 wc4.heap.size .u8 Ap (2 * nr) cp (twosI regs) rfl spwc4 (by unfold maxLen; omega) (by omega) Zwc4 ?_; intro va5 wa5 oa5 hgr hlies; have spwa5 := spwc4.grown hgr fpwc4; have fpwa5 := fpwc4.next spwc4 (by omega) hlies; have Bwa5 : Below wd.heap.size wd wa5 := Bwc4.grown hgr Zwc4 (fun j hj => (ot4.lt j hj).1); have Zwa5 := Bwa5.size; have hPwa5 := hP0.below Bwa5 hP0.lt; have lhPwa5 := hPwa5.lt; have hPwa50 : wa5.cell? ⟨w.heap.size, 0, none⟩ = some (.int .i64 16) := hPwa5.cell 0; have hPwa51 : wa5.cell? ⟨w.heap.size, 1, none⟩ = some (.int .i64 addr) := hPwa5.cell 1; have hPwa52 : wa5.cell? ⟨w.heap.size, 2, none⟩ = some (.int .i64 count) := hPwa5.cell 2; have hPwa53 : wa5.cell? ⟨w.heap.size, 3, none⟩ = some (.int .i64 to) := hPwa5.cell 3; have hPwa54 : wa5.cell? ⟨w.heap.size, 4, none⟩ = some (.slice A nb cb) := hPwa5.cell 4; have hPwa55 : wa5.cell? ⟨w.heap.size, 5, none⟩ = some (.slice R nr cr) := hPwa5.cell 5; rw [← List.map_append] at oa5; have Ooa5 := Lib.hid oa5; clear hgr hlies)
    go_ret2
    exact bytes_post HM.out (by unfold bytesP; simp only; rw [if_neg (by omega), if_neg (by omega), if_neg (by omega), if_pos trivial, HLR.out]; simp) oa5 (hbdw.trans (Bwa5.mono hbdw.size))
  · skip
    go_simp
    refine (two_any addr ha _).mono ?_
    rintro e wt0 ⟨rfl, hwt⟩
    have hbt : Below wd.heap.size wd wt0 := by rw [hwt]; exact (Below.refl _ _).alloc (Nat.le_refl _) _
    have hst : SlI wt0 wt0.heap.size .u8 (some ⟨wd.heap.size, 0, none⟩) 2 2 (twoI addr) := by rw [hwt]; exact two_sl addr _
    have hSt := hS.trans (hbt.mono hS.size)
    have hzt := hSt.size
    clear hwt
    go_simp
    refine hK'.out _ _ hSt (fun hS => ?_)
    clear hK' K'
    refine wpAnyH_ready (rs := [3]) (by kernel_rfl) (by simp) ?_
    refine AllReadyH.cons rfl (fun K' hK' => ?_) AllReadyH.nil
    go_simp
    have hown := lit_own wd.heap.size wt0 16 hzt
    have hsl := hst.alloc (.cells #[.int .u8 16] 5)
    have hSt := hS.alloc hzt (.cells #[.int .u8 16] 5)
    refine hK'.out _ _ hSt (fun hS => ?_)
    clear hK' K'
    refine wpAnyH_ready (rs := [7]) (by kernel_rfl) (by simp) ?_
    refine AllReadyH.cons rfl (fun K' hK' => ?_) AllReadyH.nil
    refine step_append_lies _ (by rfl) _ _ _ (by rfl) wd.heap.size 5 i0 (.int .u8 0) 1 1 Tryd.underlying28 hi hz0 hz1' hz2' rfl (by decide) _ 1 _ (by rfl) hown ⟨wd.heap.size, 0, none⟩ 2 2 ((twoI addr).map (Value.int .u8)) (by rfl) (by rfl) (news_of hsl.2.2.2.2) (ints_oneCell _ _) (by omega) (by unfold maxLen; omega) (by omega) hSt.size _ rfl ?_
    intro g0 c0 wa0 oa0 hgr _ _
    have hSa := hSt.grown hgr hSt.size (fun j hj => (hown.lt j hj).1)
    clear hgr hS
    refine hK'.out _ _ hSa (fun hS => ?_)
    clear hK' K'
    refine wpAnyH_take (i := 8) (v := ?v8_7) rfl (by kernel_rfl) (by kernel_rfl) (by kernel_rfl) (fun _ _ _ h => h) (Or.inl ⟨by rfl, ?y8_7⟩) hS ?r8_7
    case y8_7 =>
      rintro W hH
      have hPW := hPd.below hH hPd.lt
      have q0 : W.cell? ⟨w.heap.size, 0, none⟩ = some (.int .i64 16) := hPW.cell 0
      have q1 : W.cell? ⟨w.heap.size, 1, none⟩ = some (.int .i64 addr) := hPW.cell 1
      clear hPW
      go_simp
      with_reducible rfl
    simp only [Act.put]
    try simp only [List.getElem_toArray, List.getElem_cons_succ, List.getElem_cons_zero]
    try simp only [List.setIfInBounds_toArray, List.set_cons_succ, List.set_cons_zero]
    refine wpAnyH_done (by kernel_rfl) ?_ _
    have hP0 := hPd
    have Bwa0 : Below wd.heap.size wd wa0 := hS
    have Zwa0 := Bwa0.size
    have hPwa0 := hPd.below Bwa0 hPd.lt
    have lhPwa0 := hPwa0.lt
    have oa0' : wa0.ownsRow wd.heap.size 5 1 (.slice (some ⟨g0, 0, none⟩) (1 + 2) c0) (1 + 2) ((16 :: twoI addr).map (Value.int .u8)) := oa0
    clear oa0 hown hsl hst
    have hPwa00 : wa0.cell? ⟨w.heap.size, 0, none⟩ = some (.int .i64 16) := hPwa0.cell 0
    have hPwa01 : wa0.cell? ⟨w.heap.size, 1, none⟩ = some (.int .i64 addr) := hPwa0.cell 1
    have hPwa02 : wa0.cell? ⟨w.heap.size, 2, none⟩ = some (.int .i64 count) := hPwa0.cell 2
    have hPwa03 : wa0.cell? ⟨w.heap.size, 3, none⟩ = some (.int .i64 to) := hPwa0.cell 3
    have hPwa04 : wa0.cell? ⟨w.heap.size, 4, none⟩ = some (.slice A nb cb) := hPwa0.cell 4
    have hPwa05 : wa0.cell? ⟨w.heap.size, 5, none⟩ = some (.slice R nr cr) := hPwa0.cell 5
    have HT1 := Lib.hid (two_any (nr : Int) (by omega) wa0)
    go_wp2_with fail
    refine HT1.out.mono ?_
    rintro e wt1 ⟨rfl, hwt⟩
    have hbwt1 : Below wa0.heap.size wa0 wt1 := by rw [hwt]; exact (Below.refl _ wa0).alloc (Nat.le_refl _) _
    have st1 : SlI wt1 wt1.heap.size .u8 (some ⟨wa0.heap.size, 0, none⟩) 2 2 (twoI (nr : Int)) := by rw [hwt]; exact two_sl (nr : Int) wa0
    have ot1 := own_up oa0' hbwt1
    clear hwt
    have hzwt1 : wa0.heap.size ≤ wt1.heap.size := hbwt1.size
    have Bwt1 : Below wd.heap.size wd wt1 := Bwa0.trans (hbwt1.mono Bwa0.size)
    have Zwt1 := Bwt1.size
    have hPwt1 := hPwa0.below hbwt1 hPwa0.lt
    have lhPwt1 := hPwt1.lt
    have hPwt10 : wt1.cell? ⟨w.heap.size, 0, none⟩ = some (.int .i64 16) := hPwt1.cell 0
    have hPwt11 : wt1.cell? ⟨w.heap.size, 1, none⟩ = some (.int .i64 addr) := hPwt1.cell 1
    have hPwt12 : wt1.cell? ⟨w.heap.size, 2, none⟩ = some (.int .i64 count) := hPwt1.cell 2
    have hPwt13 : wt1.cell? ⟨w.heap.size, 3, none⟩ = some (.int .i64 to) := hPwt1.cell 3
    have hPwt14 : wt1.cell? ⟨w.heap.size, 4, none⟩ = some (.slice A nb cb) := hPwt1.cell 4
    have hPwt15 : wt1.cell? ⟨w.heap.size, 5, none⟩ = some (.slice R nr cr) := hPwt1.cell 5
    go_wp2_with (first
      | ((with_reducible refine at_append ?_); refine wpList_append_sl wt1 rfl _ _ 28 rfl wd.heap.size 5 i0 (.int .u8 0) 1 Tryd.underlying28 hi hz0 hz1' hz2' rfl (.slice (some ⟨g0, 0, none⟩) (1 + 2) c0) (1 + 2) _ rfl ot1 wt1.heap.size .u8 (some ⟨wa0.heap.size, 0, none⟩) 2 2 (twoI (nr : Int)) rfl st1 (by unfold maxLen; omega) (by omega) Zwt1 ?_; intro va2 wa2 oa2 hgr hlies; have Bwa2 : Below wd.heap.size wd wa2 := Bwt1.grown hgr Zwt1 (fun j hj => (ot1.lt j hj).1); have Zwa2 := Bwa2.size; have hPwa2 := hP0.below Bwa2 hP0.lt; have lhPwa2 := hPwa2.lt; have hPwa20 : wa2.cell? ⟨w.heap.size, 0, none⟩ = some (.int .i64 16) := hPwa2.cell 0; have hPwa21 : wa2.cell? ⟨w.heap.size, 1, none⟩ = some (.int .i64 addr) := hPwa2.cell 1; have hPwa22 : wa2.cell? ⟨w.heap.size, 2, none⟩ = some (.int .i64 count) := hPwa2.cell 2; have hPwa23 : wa2.cell? ⟨w.heap.size, 3, none⟩ = some (.int .i64 to) := hPwa2.cell 3; have hPwa24 : wa2.cell? ⟨w.heap.size, 4, none⟩ = some (.slice A nb cb) := hPwa2.cell 4; have hPwa25 : wa2.cell? ⟨w.heap.size, 5, none⟩ = some (.slice R nr cr) := hPwa2.cell 5; rw [← List.map_append] at oa2; have Ooa2 := Lib.hid oa2; clear hgr hlies)
      | ((with_reducible refine at_append ?_); refine wpList_append_sl (wa2.alloc (.cells #[.int .u8 (2 * (nr : Int))] 5)) rfl _ _ 28 rfl wd.heap.size 5 i0 (.int .u8 0) 1 Tryd.underlying28 hi hz0 hz1' hz2' rfl va2 ((1 + 2) + 2) _ rfl (oa2.alloc (.cells #[.int .u8 (2 * (nr : Int))] 5)) (wa2.alloc (.cells #[.int .u8 (2 * (nr : Int))] 5)).heap.size .u8 (some ⟨wa2.heap.size, 0, none⟩) 1 1 [(2 * (nr : Int))] rfl (SlI.of_lit (w := wa2) (T := 5) (cs := #[.int .u8 (2 * (nr : Int))]) rfl rfl (by omega)) (by unfold maxLen; omega) (by omega) (by rw [World.size_alloc]; omega) ?_; intro va3 wa3 oa3 hgr hlies; have Bwa3 : Below wd.heap.size wd wa3 := (Bwa2.alloc Zwa2 (.cells #[.int .u8 (2 * (nr : Int))] 5)).grown hgr (by rw [World.size_alloc]; omega) (fun j hj => (oa2.lt j hj).1); have Zwa3 := Bwa3.size; have hPwa3 := hP0.below Bwa3 hP0.lt; have lhPwa3 := hPwa3.lt; have hPwa30 : wa3.cell? ⟨w.heap.size, 0, none⟩ = some (.int .i64 16) := hPwa3.cell 0; have hPwa31 : wa3.cell? ⟨w.heap.size, 1, none⟩ = some (.int .i64 addr) := hPwa3.cell 1; have hPwa32 : wa3.cell? ⟨w.heap.size, 2, none⟩ = some (.int .i64 count) := hPwa3.cell 2; have hPwa33 : wa3.cell? ⟨w.heap.size, 3, none⟩ = some (.int .i64 to) := hPwa3.cell 3; have hPwa34 : wa3.cell? ⟨w.heap.size, 4, none⟩ = some (.slice A nb cb) := hPwa3.cell 4; have hPwa35 : wa3.cell? ⟨w.heap.size, 5, none⟩ = some (.slice R nr cr) := hPwa3.cell 5; rw [← List.map_append] at oa3; have Ooa3 := Lib.hid oa3; clear hgr hlies))
    have HC4 := Lib.hid (rwords_any R nr cr regs (by omega) wa3 (HR.out wa3 (hbdw.trans (Bwa3.mono hbdw.size))) hy)
    refine HC4.out.mono ?_
    rintro e wc4 ⟨vp, rfl, op, hbwc4⟩
    have gp := fun g h => (op.lt g h).1
    obtain ⟨Ap, cp, rfl, sp0⟩ := SlI.of_own op
    have fp0 : OffRow va3 Ap := fun g hg a ha e => by { subst ha; have h1 := gp a.block rfl; have h2 := (oa3.lt g hg).2; omega }
    have ot4 := own_up oa3 hbwc4
    clear op gp
    have hzwc4 : wa3.heap.size ≤ wc4.heap.size := hbwc4.size
    have Bwc4 : Below wd.heap.size wd wc4 := Bwa3.trans (hbwc4.mono Bwa3.size)
    have Zwc4 := Bwc4.size
    have hPwc4 := hPwa3.below hbwc4 hPwa3.lt
    have lhPwc4 := hPwc4.lt
    have hPwc40 : wc4.cell? ⟨w.heap.size, 0, none⟩ = some (.int .i64 16) := hPwc4.cell 0
    have hPwc41 : wc4.cell? ⟨w.heap.size, 1, none⟩ = some (.int .i64 addr) := hPwc4.cell 1
    have hPwc42 : wc4.cell? ⟨w.heap.size, 2, none⟩ = some (.int .i64 count) := hPwc4.cell 2
    have hPwc43 : wc4.cell? ⟨w.heap.size, 3, none⟩ = some (.int .i64 to) := hPwc4.cell 3
    have hPwc44 : wc4.cell? ⟨w.heap.size, 4, none⟩ = some (.slice A nb cb) := hPwc4.cell 4
    have hPwc45 : wc4.cell? ⟨w.heap.size, 5, none⟩ = some (.slice R nr cr) := hPwc4.cell 5
    have spwc4 := sp0
    have fpwc4 := fp0
    go_wp2_with ((with_reducible refine at_append ?_); refine wpList_append_sl wc4 rfl _ _ 28 rfl wd.heap.size 5 i0 (.int .u8 0) 1 Tryd.underlying28 hi hz0 hz1' hz2' rfl va3 (((1 + 2) + 2) + 1) _ rfl ot4 wc4.heap.size .u8 Ap (2 * nr) cp (twosI regs) rfl spwc4 (by unfold maxLen; omega) (by omega) Zwc4 ?_; intro va5 wa5 oa5 hgr hlies; have spwa5 := spwc4.grown hgr fpwc4; have fpwa5 := fpwc4.next spwc4 (by omega) hlies; have Bwa5 : Below wd.heap.size wd wa5 := Bwc4.grown hgr Zwc4 (fun j hj => (ot4.lt j hj).1); have Zwa5 := Bwa5.size; have hPwa5 := hP0.below Bwa5 hP0.lt; have lhPwa5 := hPwa5.lt; have hPwa50 : wa5.cell? ⟨w.heap.size, 0, none⟩ = some (.int .i64 16) := hPwa5.cell 0; have hPwa51 : wa5.cell? ⟨w.heap.size, 1, none⟩ = some (.int .i64 addr) := hPwa5.cell 1; have hPwa52 : wa5.cell? ⟨w.heap.size, 2, none⟩ = some (.int .i64 count) := hPwa5.cell 2; have hPwa53 : wa5.cell? ⟨w.heap.size, 3, none⟩ = some (.int .i64 to) := hPwa5.cell 3; have hPwa54 : wa5.cell? ⟨w.heap.size, 4, none⟩ = some (.slice A nb cb) := hPwa5.cell 4; have hPwa55 : wa5.cell? ⟨w.heap.size, 5, none⟩ = some (.slice R nr cr) := hPwa5.cell 5; rw [← List.map_append] at oa5; have Ooa5 := Lib.hid oa5; clear hgr hlies)
    go_ret2
    exact bytes_post HM.out (by unfold bytesP; simp only; rw [if_neg (by omega), if_neg (by omega), if_neg (by omega), if_pos trivial, HLR.out]; simp) oa5 (hbdw.trans (Bwa5.mono hbdw.size))

end Go.Proofs.YtflbiichdjhaeaaDoor
namespace Go.Proofs.YtflbiichdjhaeaaDoor
open Go.RowKit
set_option linter.unusedVariables false

set_option maxRecDepth 100000 in
set_option maxHeartbeats 2000000 in
theorem rb_23 (fn addr count to : Int) (bits : List Bool) (regs : List Int) (A : Option Addr) (nb cb : Nat) (R : Option Addr) (nr cr : Nat) (w : World) (hA : SlB w w.heap.size A nb cb bits) (hR : SlI w w.heap.size .u16 R nr cr regs) (hm : mayP ⟨fn, addr, count, to, bits, regs⟩ = true) (hy : Reg16 regs) (ha : 0 ≤ addr ∧ addr < 65536) (hfn : fn = 23) (hnr : 1 ≤ nr ∧ nr ≤ 121) (hcnt : 0 ≤ count ∧ count < 65536) (hto : 0 ≤ to ∧ to < 65536) : Calls Tryd.prog 20 #[.agg #[.int .i64 fn, .int .i64 addr, .int .i64 count, .int .i64 to, .slice A nb cb, .slice R nr cr]] w (BytesPost w ⟨fn, addr, count, to, bits, regs⟩) := by
  subst hfn
  obtain ⟨nr0, nr1⟩ := hnr
  have hpm : 2 * (nr : Int) % 256 = 2 * (nr : Int) := by omega
  obtain ⟨w1, hw1⟩ : ∃ w1, w.alloc (.cells #[.int .i64 23, .int .i64 addr, .int .i64 count, .int .i64 to, .slice A nb cb, .slice R nr cr] 25) = w1 := ⟨_, rfl⟩
  have hb1 : Below w.heap.size w w1 := by rw [← hw1]; exact (Below.refl _ w).alloc (Nat.le_refl _) _
  have hz1 : w1.heap.size = w.heap.size + 1 := by rw [← hw1]; simp
  have hP1 : Held w1 w.heap.size 25 #[.int .i64 23, .int .i64 addr, .int .i64 count, .int .i64 to, .slice A nb cb, .slice R nr cr] := by rw [← hw1]; exact Held.new _ _ _
  have hu := Tryd.underlying25
  have hsz : (Tryd.prog.info? 25).map (·.size) = some 6 := by kernel_rfl
  have hc := may_any (.agg #[.int .i64 23, .int .i64 addr, .int .i64 count, .int .i64 to, .slice A nb cb, .slice R nr cr]) ⟨23, addr, count, to, bits, regs⟩ w1 ⟨A, nb, cb, R, nr, cr, rfl, hA.up hb1, hR.up hb1⟩
  rw [hm] at hc
  have HC := Lib.hid hc
  clear hc
  obtain ⟨i0, hi, hz0, hz1', hz2'⟩ := info_parts infoU8
  have HM := Lib.hid hm
  have HA := Lib.hid (fun (X : World) (h : Below w.heap.size w X) => hA.up h)
  have HR := Lib.hid (fun (X : World) (h : Below w.heap.size w X) => hR.up h)
  have HLB := Lib.hid hA.1
  have HLR := Lib.hid hR.1
  clear hA hR hm
  have hf1 : True := by trivial
  have wr0 : True := by trivial
  go_in
  go_wp2_with ((with_reducible refine at_loadT 25 1 ?_); refine wpList_load_rowG rfl 25 (.tmp 1) rfl w.heap.size rfl 25 _ _ hP1 hu rfl hsz ?_)
  refine HC.out.mono ?_
  rintro e w2 ⟨rfl, hb2⟩
  go_wp2_with fail
  obtain ⟨wd, hwd⟩ : ∃ wd : World, w2.drew = wd := ⟨_, rfl⟩
  have hb2d : Below w1.heap.size w1 wd := by rw [← hwd]; exact hb2.drew
  have hPd := hP1.below hb2d hP1.lt
  have hld := hPd.lt
  have hbdw := hb1.trans (hb2d.mono (by omega))
  have hzd := hb2d.size
  refine wp_region_held (S := Below wd.heap.size wd) (by kernel_rfl) ?_
  change wpAnyH _ _ _ _ _ _ _ _ w2.drew
  rw [hwd]
  have hS := Below.refl wd.heap.size wd
  refine wpAnyH_take (i := 0) (v := ?v0_1) rfl (by kernel_rfl) (by kernel_rfl) (by kernel_rfl) (fun _ _ _ h => h) (Or.inl ⟨by rfl, ?y0_1⟩) hS ?r0_1
  case y0_1 =>
    rintro W hH
    have hPW := hPd.below hH hPd.lt
    have q0 : W.cell? ⟨w.heap.size, 0, none⟩ = some (.int .i64 23) := hPW.cell 0
    have q1 : W.cell? ⟨w.heap.size, 1, none⟩ = some (.int .i64 addr) := hPW.cell 1
    clear hPW
    go_simp
    with_reducible rfl
  simp only [Act.put]
  try simp only [List.getElem_toArray, List.getElem_cons_zero]
  try simp only [List.setIfInBounds_toArray, List.set_cons_succ, List.set_cons_zero]
  refine wpAnyH_take (i := 1) (v := ?v1_2) rfl (by kernel_rfl) (by kernel_rfl) (by kernel_rfl) (fun _ _ _ h => h) (Or.inl ⟨by rfl, ?y1_2⟩) hS ?r1_2
  case y1_2 =>
    rintro W hH
    have hPW := hPd.below hH hPd.lt
    have q0 : W.cell? ⟨w.heap.size, 0, none⟩ = some (.int .i64 23) := hPW.cell 0
    have q1 : W.cell? ⟨w.heap.size, 1, none⟩ = some (.int .i64 addr) := hPW.cell 1
    clear hPW
    go_simp
    with_reducible rfl
  simp only [Act.put]
  try simp only [List.getElem_toArray, List.getElem_cons_succ, List.getElem_cons_zero]
  try simp only [List.setIfInBounds_toArray, List.set_cons_succ, List.set_cons_zero]
  refine wpAnyH_take (i := 2) (v := ?v2_3) rfl (by kernel_rfl) (by kernel_rfl) (by kernel_rfl) (fun _ _ _ h => h) (Or.inl ⟨by rfl, ?y2_3⟩) hS ?r2_3
  case y2_3 =>
    rintro W hH
    have hPW := hPd.below hH hPd.lt
    have q0 : W.cell? ⟨w.heap.size, 0, none⟩ = some (.int .i64 23) := hPW.cell 0
    have q1 : W.cell? ⟨w.heap.size, 1, none⟩ = some (.int .i64 addr) := hPW.cell 1
    clear hPW
    go_simp
    with_reducible rfl
  simp only [Act.put]
  try simp only [List.getElem_toArray, List.getElem_cons_succ, List.getElem_cons_zero]
  try simp only [List.setIfInBounds_toArray, List.set_cons_succ, List.set_cons_zero]
  refine wpAnyH_take (i := 4) (v := ?v4_4) rfl (by kernel_rfl) (by kernel_rfl) (by kernel_rfl) (fun _ _ _ h => h) (Or.inl ⟨by rfl, ?y4_4⟩) hS ?r4_4
  case y4_4 =>
    rintro W hH
    have hPW := hPd.below hH hPd.lt
    have q0 : W.cell? ⟨w.heap.size, 0, none⟩ = some (.int .i64 23) := hPW.cell 0
    have q1 : W.cell? ⟨w.heap.size, 1, none⟩ = some (.int .i64 addr) := hPW.cell 1
    clear hPW
    go_simp
    with_reducible rfl
  simp only [Act.put]
  try simp only [List.getElem_toArray, List.getElem_cons_succ, List.getElem_cons_zero]
  try simp only [List.setIfInBounds_toArray, List.set_cons_succ, List.set_cons_zero]
  refine wpAnyH_take (i := 5) (v := ?v5_5) rfl (by kernel_rfl) (by kernel_rfl) (by kernel_rfl) (fun _ _ _ h => h) (Or.inl ⟨by rfl, ?y5_5⟩) hS ?r5_5
  case y5_5 =>
    rintro W hH
    have hPW := hPd.below hH hPd.lt
    have q0 : W.cell? ⟨w.heap.size, 0, none⟩ = some (.int .i64 23) := hPW.cell 0
    have q1 : W.cell? ⟨w.heap.size, 1, none⟩ = some (.int .i64 addr) := hPW.cell 1
    clear hPW
    go_simp
    with_reducible rfl
  simp only [Act.put]
  try simp only [List.getElem_toArray, List.getElem_cons_succ, List.getElem_cons_zero]
  try simp only [List.setIfInBounds_toArray, List.set_cons_succ, List.set_cons_zero]
  refine wpAnyH_ready (rs := [3, 6]) (by kernel_rfl) (by simp) ?_
  refine AllReadyH.cons rfl (fun K' hK' => ?_) (AllReadyH.cons rfl (fun K' hK' => ?_) AllReadyH.nil)
  · skip
    go_simp
    have hSt := hS.alloc (Nat.le_refl _) (.cells #[.int .u8 23] 5)
    refine hK'.out _ _ hSt (fun hS => ?_)
    clear hK' K'
    refine wpAnyH_ready (rs := [6]) (by kernel_rfl) (by simp) ?_
    refine AllReadyH.cons rfl (fun K' hK' => ?_) AllReadyH.nil
    go_simp
    refine (two_any addr ha _).mono ?_
    rintro e wt0 ⟨rfl, hwt⟩
    have hbt : Below (wd.alloc (.cells #[.int .u8 23] 5)).heap.size (wd.alloc (.cells #[.int .u8 23] 5)) wt0 := by rw [hwt]; exact (Below.refl _ _).alloc (Nat.le_refl _) _
    have hst : SlI wt0 wt0.heap.size .u8 (some ⟨(wd.alloc (.cells #[.int .u8 23] 5)).heap.size, 0, none⟩) 2 2 (twoI addr) := by rw [hwt]; exact two_sl addr _
    have hSt := hS.trans (hbt.mono hS.size)
    have hzt := hSt.size
    have hown := own_up (lit_own wd.heap.size wd 23 (Nat.le_refl _)) hbt
    have hsl := hst
    rw [World.size_alloc] at hsl
    clear hwt
    go_simp
    refine hK'.out _ _ hSt (fun hS => ?_)
    clear hK' K'
    refine wpAnyH_ready (rs := [7]) (by kernel_rfl) (by simp) ?_
    refine AllReadyH.cons rfl (fun K' hK' => ?_) AllReadyH.nil
    refine step_append_lies _ (by rfl) _ _ _ (by rfl) wd.heap.size 5 i0 (.int .u8 0) 1 1 Tryd.underlying28 hi hz0 hz1' hz2' rfl (by decide) _ 1 _ (by rfl) hown ⟨wd.heap.size + 1, 0, none⟩ 2 2 ((twoI addr).map (Value.int .u8)) (by rfl) (by rfl) (news_of hsl.2.2.2.2) (ints_oneCell _ _) (by omega) (by unfold maxLen; omega) (by omega) hSt.size _ rfl ?_
    intro g0 c0 wa0 oa0 hgr _ _
    have hSa := hSt.grown hgr hSt.size (fun j hj => (hown.lt j hj).1)
    clear hgr hS
    refine hK'.out _ _ hSa (fun hS => ?_)
    clear hK' K'
    refine wpAnyH_take (i := 8) (v := ?v8_6) rfl (by kernel_rfl) (by kernel_rfl) (by kernel_rfl) (fun _ _ _ h => h) (Or.inl ⟨by rfl, ?y8_6⟩) hS ?r8_6
    case y8_6 =>
      rintro W hH
      have hPW := hPd.below hH hPd.lt
      have q0 : W.cell? ⟨w.heap.size, 0, none⟩ = some (.int .i64 23) := hPW.cell 0
      have q1 : W.cell? ⟨w.heap.size, 1, none⟩ = some (.int .i64 addr) := hPW.cell 1
      clear hPW
      go_simp
      with_reducible rfl
    simp only [Act.put]
    try simp only [List.getElem_toArray, List.getElem_cons_succ, List.getElem_cons_zero]
    try simp only [List.setIfInBounds_toArray, List.set_cons_succ, List.set_cons_zero]
    refine wpAnyH_done (by kernel_rfl) ?_ _
    have hP0 := hPd
    have Bwa0 : Below wd.heap.size wd wa0 := hS
    have Zwa0 := Bwa0.size
    have hPwa0 := hPd.below Bwa0 hPd.lt
    have lhPwa0 := hPwa0.lt
    have oa0' : wa0.ownsRow wd.heap.size 5 1 (.slice (some ⟨g0, 0, none⟩) (1 + 2) c0) (1 + 2) ((23 :: twoI addr).map (Value.int .u8)) := oa0
    clear oa0 hown hsl hst
    have hPwa00 : wa0.cell? ⟨w.heap.size, 0, none⟩ = some (.int .i64 23) := hPwa0.cell 0
    have hPwa01 : wa0.cell? ⟨w.heap.size, 1, none⟩ = some (.int .i64 addr) := hPwa0.cell 1
    have hPwa02 : wa0.cell? ⟨w.heap.size, 2, none⟩ = some (.int .i64 count) := hPwa0.cell 2
    have hPwa03 : wa0.cell? ⟨w.heap.size, 3, none⟩ = some (.int .i64 to) := hPwa0.cell 3
    have hPwa04 : wa0.cell? ⟨w.heap.size, 4, none⟩ = some (.slice A nb cb) := hPwa0.cell 4
    have hPwa05 : wa0.cell? ⟨w.heap.size, 5, none⟩ = some (.slice R nr cr) := hPwa0.cell 5
    have HT1 := Lib.hid (two_any count hcnt wa0)
    go_wp2_with fail
    refine HT1.out.mono ?_
    rintro e wt1 ⟨rfl, hwt⟩
    have hbwt1 : Below wa0.heap.size wa0 wt1 := by rw [hwt]; exact (Below.refl _ wa0).alloc (Nat.le_refl _) _
    have st1 : SlI wt1 wt1.heap.size .u8 (some ⟨wa0.heap.size, 0, none⟩) 2 2 (twoI count) := by rw [hwt]; exact two_sl count wa0
    have ot1 := own_up oa0' hbwt1
    clear hwt
    have hzwt1 : wa0.heap.size ≤ wt1.heap.size := hbwt1.size
    have Bwt1 : Below wd.heap.size wd wt1 := Bwa0.trans (hbwt1.mono Bwa0.size)
    have Zwt1 := Bwt1.size
    have hPwt1 := hPwa0.below hbwt1 hPwa0.lt
    have lhPwt1 := hPwt1.lt
    have hPwt10 : wt1.cell? ⟨w.heap.size, 0, none⟩ = some (.int .i64 23) := hPwt1.cell 0
    have hPwt11 : wt1.cell? ⟨w.heap.size, 1, none⟩ = some (.int .i64 addr) := hPwt1.cell 1
    have hPwt12 : wt1.cell? ⟨w.heap.size, 2, none⟩ = some (.int .i64 count) := hPwt1.cell 2
    have hPwt13 : wt1.cell? ⟨w.heap.size, 3, none⟩ = some (.int .i64 to) := hPwt1.cell 3
    have hPwt14 : wt1.cell? ⟨w.heap.size, 4, none⟩ = some (.slice A nb cb) := hPwt1.cell 4
    have hPwt15 : wt1.cell? ⟨w.heap.size, 5, none⟩ = some (.slice R nr cr) := hPwt1.cell 5
    go_wp2_with ((with_reducible refine at_append ?_); refine wpList_append_sl wt1 rfl _ _ 28 rfl wd.heap.size 5 i0 (.int .u8 0) 1 Tryd.underlying28 hi hz0 hz1' hz2' rfl (.slice (some ⟨g0, 0, none⟩) (1 + 2) c0) (1 + 2) _ rfl ot1 wt1.heap.size .u8 (some ⟨wa0.heap.size, 0, none⟩) 2 2 (twoI count) rfl st1 (by unfold maxLen; omega) (by omega) Zwt1 ?_; intro va2 wa2 oa2 hgr hlies; have Bwa2 : Below wd.heap.size wd wa2 := Bwt1.grown hgr Zwt1 (fun j hj => (ot1.lt j hj).1); have Zwa2 := Bwa2.size; have hPwa2 := hP0.below Bwa2 hP0.lt; have lhPwa2 := hPwa2.lt; have hPwa20 : wa2.cell? ⟨w.heap.size, 0, none⟩ = some (.int .i64 23) := hPwa2.cell 0; have hPwa21 : wa2.cell? ⟨w.heap.size, 1, none⟩ = some (.int .i64 addr) := hPwa2.cell 1; have hPwa22 : wa2.cell? ⟨w.heap.size, 2, none⟩ = some (.int .i64 count) := hPwa2.cell 2; have hPwa23 : wa2.cell? ⟨w.heap.size, 3, none⟩ = some (.int .i64 to) := hPwa2.cell 3; have hPwa24 : wa2.cell? ⟨w.heap.size, 4, none⟩ = some (.slice A nb cb) := hPwa2.cell 4; have hPwa25 : wa2.cell? ⟨w.heap.size, 5, none⟩ = some (.slice R nr cr) := hPwa2.cell 5; rw [← List.map_append] at oa2; have Ooa2 := Lib.hid oa2; clear hgr hlies)
    have HT3 := Lib.hid (two_any to hto wa2)
    refine HT3.out.mono ?_
    rintro e wt3 ⟨rfl, hwt⟩
    have hbwt3 : Below wa2.heap.size wa2 wt3 := by rw [hwt]; exact (Below.refl _ wa2).alloc (Nat.le_refl _) _
    have st3 : SlI wt3 wt3.heap.size .u8 (some ⟨wa2.heap.size, 0, none⟩) 2 2 (twoI to) := by rw [hwt]; exact two_sl to wa2
    have ot3 := own_up oa2 hbwt3
    clear hwt
    have hzwt3 : wa2.heap.size ≤ wt3.heap.size := hbwt3.size
    have Bwt3 : Below wd.heap.size wd wt3 := Bwa2.trans (hbwt3.mono Bwa2.size)
    have Zwt3 := Bwt3.size
    have hPwt3 := hPwa2.below hbwt3 hPwa2.lt
    have lhPwt3 := hPwt3.lt
    have hPwt30 : wt3.cell? ⟨w.heap.size, 0, none⟩ = some (.int .i64 23) := hPwt3.cell 0
    have hPwt31 : wt3.cell? ⟨w.heap.size, 1, none⟩ = some (.int .i64 addr) := hPwt3.cell 1
    have hPwt32 : wt3.cell? ⟨w.heap.size, 2, none⟩ = some (.int .i64 count) := hPwt3.cell 2
    have hPwt33 : wt3.cell? ⟨w.heap.size, 3, none⟩ = some (.int .i64 to) := hPwt3.cell 3
    have hPwt34 : wt3.cell? ⟨w.heap.size, 4, none⟩ = some (.slice A nb cb) := hPwt3.cell 4
    have hPwt35 : wt3.cell? ⟨w.heap.size, 5, none⟩ = some (.slice R nr cr) := hPwt3.cell 5
    go_wp2_with ((with_reducible refine at_append ?_); refine wpList_append_sl wt3 rfl _ _ 28 rfl wd.heap.size 5 i0 (.int .u8 0) 1 Tryd.underlying28 hi hz0 hz1' hz2' rfl va2 ((1 + 2) + 2) _ rfl ot3 wt3.heap.size .u8 (some ⟨wa2.heap.size, 0, none⟩) 2 2 (twoI to) rfl st3 (by unfold maxLen; omega) (by omega) Zwt3 ?_; intro va4 wa4 oa4 hgr hlies; have Bwa4 : Below wd.heap.size wd wa4 := Bwt3.grown hgr Zwt3 (fun j hj => (ot3.lt j hj).1); have Zwa4 := Bwa4.size; have hPwa4 := hP0.below Bwa4 hP0.lt; have lhPwa4 := hPwa4.lt; have hPwa40 : wa4.cell? ⟨w.heap.size, 0, none⟩ = some (.int .i64 23) := hPwa4.cell 0; have hPwa41 : wa4.cell? ⟨w.heap.size, 1, none⟩ = some (.int .i64 addr) := hPwa4.cell 1; have hPwa42 : wa4.cell? ⟨w.heap.size, 2, none⟩ = some (.int .i64 count) := hPwa4.cell 2; have hPwa43 : wa4.cell? ⟨w.heap.size, 3, none⟩ = some (.int .i64 to) := hPwa4.cell 3; have hPwa44 : wa4.cell? ⟨w.heap.size, 4, none⟩ = some (.slice A nb cb) := hPwa4.cell 4; have hPwa45 : wa4.cell? ⟨w.heap.size, 5, none⟩ = some (.slice R nr cr) := hPwa4.cell 5; rw [← List.map_append] at oa4; have Ooa4 := Lib.hid oa4; clear hgr hlies)
    have HT5 := Lib.hid (two_any (nr : Int) (by omega) wa4)
    refine HT5.out.mono ?_
    rintro e wt5 ⟨rfl, hwt⟩
    have hbwt5 : Below wa4.heap.size wa4 wt5 := by rw [hwt]; exact (Below.refl _ wa4).alloc (Nat.le_refl _) _
    have st5 : SlI wt5 wt5.heap.size .u8 (some ⟨wa4.heap.size, 0, none⟩) 2 2 (twoI (nr : Int)) := by rw [hwt]; exact two_sl (nr : Int) wa4
    have ot5 := own_up oa4 hbwt5
    clear hwt
    have hzwt5 : wa4.heap.size ≤ wt5.heap.size := hbwt5.size
    have Bwt5 : Below wd.heap.size wd wt5 := Bwa4.trans (hbwt5.mono Bwa4.size)
    have Zwt5 := Bwt5.size
    have hPwt5 := hPwa4.below hbwt5 hPwa4.lt
    have lhPwt5 := hPwt5.lt
    have hPwt50 : wt5.cell? ⟨w.heap.size, 0, none⟩ = some (.int .i64 23) := hPwt5.cell 0
    have hPwt51 : wt5.cell? ⟨w.heap.size, 1, none⟩ = some (.int .i64 addr) := hPwt5.cell 1
    have hPwt52 : wt5.cell? ⟨w.heap.size, 2, none⟩ = some (.int .i64 count) := hPwt5.cell 2
    have hPwt53 : wt5.cell? ⟨w.heap.size, 3, none⟩ = some (.int .i64 to) := hPwt5.cell 3
    have hPwt54 : wt5.cell? ⟨w.heap.size, 4, none⟩ = some (.slice A nb cb) := hPwt5.cell 4
    have hPwt55 : wt5.cell? ⟨w.heap.size, 5, none⟩ = some (.slice R nr cr) := hPwt5.cell 5
    go_wp2_with (first
      | ((with_reducible refine at_append ?_); refine wpList_append_sl wt5 rfl _ _ 28 rfl wd.heap.size 5 i0 (.int .u8 0) 1 Tryd.underlying28 hi hz0 hz1' hz2' rfl va4 (((1 + 2) + 2) + 2) _ rfl ot5 wt5.heap.size .u8 (some ⟨wa4.heap.size, 0, none⟩) 2 2 (twoI (nr : Int)) rfl st5 (by unfold maxLen; omega) (by omega) Zwt5 ?_; intro va6 wa6 oa6 hgr hlies; have Bwa6 : Below wd.heap.size wd wa6 := Bwt5.grown hgr Zwt5 (fun j hj => (ot5.lt j hj).1); have Zwa6 := Bwa6.size; have hPwa6 := hP0.below Bwa6 hP0.lt; have lhPwa6 := hPwa6.lt; have hPwa60 : wa6.cell? ⟨w.heap.size, 0, none⟩ = some (.int .i64 23) := hPwa6.cell 0; have hPwa61 : wa6.cell? ⟨w.heap.size, 1, none⟩ = some (.int .i64 addr) := hPwa6.cell 1; have hPwa62 : wa6.cell? ⟨w.heap.size, 2, none⟩ = some (.int .i64 count) := hPwa6.cell 2; have hPwa63 : wa6.cell? ⟨w.heap.size, 3, none⟩ = some (.int .i64 to) := hPwa6.cell 3; have hPwa64 : wa6.cell? ⟨w.heap.size, 4, none⟩ = some (.slice A nb cb) := hPwa6.cell 4; have hPwa65 : wa6.cell? ⟨w.heap.size, 5, none⟩ = some (.slice R nr cr) := hPwa6.cell 5; rw [← List.map_append] at oa6; have Ooa6 := Lib.hid oa6; clear hgr hlies)
      | ((with_reducible refine at_append ?_); refine wpList_append_sl (wa6.alloc (.cells #[.int .u8 (2 * (nr : Int))] 5)) rfl _ _ 28 rfl wd.heap.size 5 i0 (.int .u8 0) 1 Tryd.underlying28 hi hz0 hz1' hz2' rfl va6 ((((1 + 2) + 2) + 2) + 2) _ rfl (oa6.alloc (.cells #[.int .u8 (2 * (nr : Int))] 5)) (wa6.alloc (.cells #[.int .u8 (2 * (nr : Int))] 5)).heap.size .u8 (some ⟨wa6.heap.size, 0, none⟩) 1 1 [(2 * (nr : Int))] rfl (SlI.of_lit (w := wa6) (T := 5) (cs := #[.int .u8 (2 * (nr : Int))]) rfl rfl (by omega)) (by unfold maxLen; omega) (by omega) (by rw [World.size_alloc]; omega) ?_; intro va7 wa7 oa7 hgr hlies; have Bwa7 : Below wd.heap.size wd wa7 := (Bwa6.alloc Zwa6 (.cells #[.int .u8 (2 * (nr : Int))] 5)).grown hgr (by rw [World.size_alloc]; omega) (fun j hj => (oa6.lt j hj).1); have Zwa7 := Bwa7.size; have hPwa7 := hP0.below Bwa7 hP0.lt; have lhPwa7 := hPwa7.lt; have hPwa70 : wa7.cell? ⟨w.heap.size, 0, none⟩ = some (.int .i64 23) := hPwa7.cell 0; have hPwa71 : wa7.cell? ⟨w.heap.size, 1, none⟩ = some (.int .i64 addr) := hPwa7.cell 1; have hPwa72 : wa7.cell? ⟨w.heap.size, 2, none⟩ = some (.int .i64 count) := hPwa7.cell 2; have hPwa73 : wa7.cell? ⟨w.heap.size, 3, none⟩ = some (.int .i64 to) := hPwa7.cell 3; have hPwa74 : wa7.cell? ⟨w.heap.size, 4, none⟩ = some (.slice A nb cb) := hPwa7.cell 4; have hPwa75 : wa7.cell? ⟨w.heap.size, 5, none⟩ = some (.slice R nr cr) := hPwa7.cell 5; rw [← List.map_append] at oa7; have Ooa7 := Lib.hid oa7; clear hgr hlies))
    have HC8 := Lib.hid (rwords_any R nr cr regs (by omega) wa7 (HR.out wa7 (hbdw.trans (Bwa7.mono hbdw.size))) hy)
    refine HC8.out.mono ?_
    rintro e wc8 ⟨vp, rfl, op, hbwc8⟩
    have gp := fun g h => (op.lt g h).1
    obtain ⟨Ap, cp, rfl, sp0⟩ := SlI.of_own op
    have fp0 : OffRow va7 Ap := fun g hg a ha e => by { subst ha; have h1 := gp a.block rfl; have h2 := (oa7.lt g hg).2; omega }
    have ot8 := own_up oa7 hbwc8
    clear op gp
    have hzwc8 : wa7.heap.size ≤ wc8.heap.size := hbwc8.size
    have Bwc8 : Below wd.heap.size wd wc8 := Bwa7.trans (hbwc8.mono Bwa7.size)
    have Zwc8 := Bwc8.size
    have hPwc8 := hPwa7.below hbwc8 hPwa7.lt
    have lhPwc8 := hPwc8.lt
    have hPwc80 : wc8.cell? ⟨w.heap.size, 0, none⟩ = some (.int .i64 23) := hPwc8.cell 0
    have hPwc81 : wc8.cell? ⟨w.heap.size, 1, none⟩ = some (.int .i64 addr) := hPwc8.cell 1
    have hPwc82 : wc8.cell? ⟨w.heap.size, 2, none⟩ = some (.int .i64 count) := hPwc8.cell 2
    have hPwc83 : wc8.cell? ⟨w.heap.size, 3, none⟩ = some (.int .i64 to) := hPwc8.cell 3
    have hPwc84 : wc8.cell? ⟨w.heap.size, 4, none⟩ = some (.slice A nb cb) := hPwc8.cell 4
    have hPwc85 : wc8.cell? ⟨w.heap.size, 5, none⟩ = some (.slice R nr cr) := hPwc8.cell 5
    have spwc8 := sp0
    have fpwc8 := fp0
    go_wp2_with ((with_reducible refine at_append ?_); refine wpList_append_sl wc8 rfl _ _ 28 rfl wd.heap.size 5 i0 (.int .u8 0) 1 Tryd.underlying28 hi hz0 hz1' hz2' rfl va7 (((((1 + 2) + 2) + 2) + 2) + 1) _ rfl ot8 wc8.heap.size .u8 Ap (2 * nr) cp (twosI regs) rfl spwc8 (by unfold maxLen; omega) (by omega) Zwc8 ?_; intro va9 wa9 oa9 hgr hlies; have spwa9 := spwc8.grown hgr fpwc8; have fpwa9 := fpwc8.next spwc8 (by omega) hlies; have Bwa9 : Below wd.heap.size wd wa9 := Bwc8.grown hgr Zwc8 (fun j hj => (ot8.lt j hj).1); have Zwa9 := Bwa9.size; have hPwa9 := hP0.below Bwa9 hP0.lt; have lhPwa9 := hPwa9.lt; have hPwa90 : wa9.cell? ⟨w.heap.size, 0, none⟩ = some (.int .i64 23) := hPwa9.cell 0; have hPwa91 : wa9.cell? ⟨w.heap.size, 1, none⟩ = some (.int .i64 addr) := hPwa9.cell 1; have hPwa92 : wa9.cell? ⟨w.heap.size, 2, none⟩ = some (.int .i64 count) := hPwa9.cell 2; have hPwa93 : wa9.cell? ⟨w.heap.size, 3, none⟩ = some (.int .i64 to) := hPwa9.cell 3; have hPwa94 : wa9.cell? ⟨w.heap.size, 4, none⟩ = some (.slice A nb cb) := hPwa9.cell 4; have hPwa95 : wa9.cell? ⟨w.heap.size, 5, none⟩ = some (.slice R nr cr) := hPwa9.cell 5; rw [← List.map_append] at oa9; have Ooa9 := Lib.hid oa9; clear hgr hlies)
    go_ret2
    exact bytes_post HM.out (by unfold bytesP; simp only; rw [if_neg (by omega), if_neg (by omega), if_neg (by omega), if_neg (by omega), if_pos trivial, HLR.out]; simp) oa9 (hbdw.trans (Bwa9.mono hbdw.size))
  · skip
    go_simp
    refine (two_any addr ha _).mono ?_
    rintro e wt0 ⟨rfl, hwt⟩
    have hbt : Below wd.heap.size wd wt0 := by rw [hwt]; exact (Below.refl _ _).alloc (Nat.le_refl _) _
    have hst : SlI wt0 wt0.heap.size .u8 (some ⟨wd.heap.size, 0, none⟩) 2 2 (twoI addr) := by rw [hwt]; exact two_sl addr _
    have hSt := hS.trans (hbt.mono hS.size)
    have hzt := hSt.size
    clear hwt
    go_simp
    refine hK'.out _ _ hSt (fun hS => ?_)
    clear hK' K'
    refine wpAnyH_ready (rs := [3]) (by kernel_rfl) (by simp) ?_
    refine AllReadyH.cons rfl (fun K' hK' => ?_) AllReadyH.nil
    go_simp
    have hown := lit_own wd.heap.size wt0 23 hzt
    have hsl := hst.alloc (.cells #[.int .u8 23] 5)
    have hSt := hS.alloc hzt (.cells #[.int .u8 23] 5)
    refine hK'.out _ _ hSt (fun hS => ?_)
    clear hK' K'
    refine wpAnyH_ready (rs := [7]) (by kernel_rfl) (by simp) ?_
    refine AllReadyH.cons rfl (fun K' hK' => ?_) AllReadyH.nil
    refine step_append_lies _ (by rfl) _ _ _ (by rfl) wd.heap.size 5 i0 (.int .u8 0) 1 1 Tryd.underlying28 hi hz0 hz1' hz2' rfl (by decide) _ 1 _ (by rfl) hown ⟨wd.heap.size, 0, none⟩ 2 2 ((twoI addr).map (Value.int .u8)) (by rfl) (by rfl) (news_of hsl.2.2.2.2) (ints_oneCell _ _) (by omega) (by unfold maxLen; omega) (by omega) hSt.size _ rfl ?_
    intro g0 c0 wa0 oa0 hgr _ _
    have hSa := hSt.grown hgr hSt.size (fun j hj => (hown.lt j hj).1)
    clear hgr hS
    refine hK'.out _ _ hSa (fun hS => ?_)
    clear hK' K'
    refine wpAnyH_take (i := 8) (v := ?v8_7) rfl (by kernel_rfl) (by kernel_rfl) (by kernel_rfl) (fun _ _ _ h => h) (Or.inl ⟨by rfl, ?y8_7⟩) hS ?r8_7
    case y8_7 =>
      rintro W hH
      have hPW := hPd.below hH hPd.lt
      have q0 : W.cell? ⟨w.heap.size, 0, none⟩ = some (.int .i64 23) := hPW.cell 0
      have q1 : W.cell? ⟨w.heap.size, 1, none⟩ = some (.int .i64 addr) := hPW.cell 1
      clear hPW
      go_simp
      with_reducible rfl
    simp only [Act.put]
    try simp only [List.getElem_toArray, List.getElem_cons_succ, List.getElem_cons_zero]
    try simp only [List.setIfInBounds_toArray, List.set_cons_succ, List.set_cons_zero]
    refine wpAnyH_done (by kernel_rfl) ?_ _
    have hP0 := hPd
    have Bwa0 : Below wd.heap.size wd wa0 := hS
    have Zwa0 := Bwa0.size
    have hPwa0 := hPd.below Bwa0 hPd.lt
    have lhPwa0 := hPwa0.lt
    have oa0' : wa0.ownsRow wd.heap.size 5 1 (.slice (some ⟨g0, 0, none⟩) (1 + 2) c0) (1 + 2) ((23 :: twoI addr).map (Value.int .u8)) := oa0
    clear oa0 hown hsl hst
    have hPwa00 : wa0.cell? ⟨w.heap.size, 0, none⟩ = some (.int .i64 23) := hPwa0.cell 0
    have hPwa01 : wa0.cell? ⟨w.heap.size, 1, none⟩ = some (.int .i64 addr) := hPwa0.cell 1
    have hPwa02 : wa0.cell? ⟨w.heap.size, 2, none⟩ = some (.int .i64 count) := hPwa0.cell 2
    have hPwa03 : wa0.cell? ⟨w.heap.size, 3, none⟩ = some (.int .i64 to) := hPwa0.cell 3
    have hPwa04 : wa0.cell? ⟨w.heap.size, 4, none⟩ = some (.slice A nb cb) := hPwa0.cell 4
    have hPwa05 : wa0.cell? ⟨w.heap.size, 5, none⟩ = some (.slice R nr cr) := hPwa0.cell 5
    have HT1 := Lib.hid (two_any count hcnt wa0)
    go_wp2_with fail
    refine HT1.out.mono ?_
    rintro e wt1 ⟨rfl, hwt⟩
    have hbwt1 : Below wa0.heap.size wa0 wt1 := by rw [hwt]; exact (Below.refl _ wa0).alloc (Nat.le_refl _) _
    have st1 : SlI wt1 wt1.heap.size .u8 (some ⟨wa0.heap.size, 0, none⟩) 2 2 (twoI count) := by rw [hwt]; exact two_sl count wa0
    have ot1 := own_up oa0' hbwt1
    clear hwt
    have hzwt1 : wa0.heap.size ≤ wt1.heap.size := hbwt1.size
    have Bwt1 : Below wd.heap.size wd wt1 := Bwa0.trans (hbwt1.mono Bwa0.size)
    have Zwt1 := Bwt1.size
    have hPwt1 := hPwa0.below hbwt1 hPwa0.lt
    have lhPwt1 := hPwt1.lt
    have hPwt10 : wt1.cell? ⟨w.heap.size, 0, none⟩ = some (.int .i64 23) := hPwt1.cell 0
    have hPwt11 : wt1.cell? ⟨w.heap.size, 1, none⟩ = some (.int .i64 addr) := hPwt1.cell 1
    have hPwt12 : wt1.cell? ⟨w.heap.size, 2, none⟩ = some (.int .i64 count) := hPwt1.cell 2
    have hPwt13 : wt1.cell? ⟨w.heap.size, 3, none⟩ = some (.int .i64 to) := hPwt1.cell 3
    have hPwt14 : wt1.cell? ⟨w.heap.size, 4, none⟩ = some (.slice A nb cb) := hPwt1.cell 4
    have hPwt15 : wt1.cell? ⟨w.heap.size, 5, none⟩ = some (.slice R nr cr) := hPwt1.cell 5
    go_wp2_with ((with_reducible refine at_append ?_); refine wpList_append_sl wt1 rfl _ _ 28 rfl wd.heap.size 5 i0 (.int .u8 0) 1 Tryd.underlying28 hi hz0 hz1' hz2' rfl (.slice (some ⟨g0, 0, none⟩) (1 + 2) c0) (1 + 2) _ rfl ot1 wt1.heap.size .u8 (some ⟨wa0.heap.size, 0, none⟩) 2 2 (twoI count) rfl st1 (by unfold maxLen; omega) (by omega) Zwt1 ?_; intro va2 wa2 oa2 hgr hlies; have Bwa2 : Below wd.heap.size wd wa2 := Bwt1.grown hgr Zwt1 (fun j hj => (ot1.lt j hj).1); have Zwa2 := Bwa2.size; have hPwa2 := hP0.below Bwa2 hP0.lt; have lhPwa2 := hPwa2.lt; have hPwa20 : wa2.cell? ⟨w.heap.size, 0, none⟩ = some (.int .i64 23) := hPwa2.cell 0; have hPwa21 : wa2.cell? ⟨w.heap.size, 1, none⟩ = some (.int .i64 addr) := hPwa2.cell 1; have hPwa22 : wa2.cell? ⟨w.heap.size, 2, none⟩ = some (.int .i64 count) := hPwa2.cell 2; have hPwa23 : wa2.cell? ⟨w.heap.size, 3, none⟩ = some (.int .i64 to) := hPwa2.cell 3; have hPwa24 : wa2.cell? ⟨w.heap.size, 4, none⟩ = some (.slice A nb cb) := hPwa2.cell 4; have hPwa25 : wa2.cell? ⟨w.heap.size, 5, none⟩ = some (.slice R nr cr) := hPwa2.cell 5; rw [← List.map_append] at oa2; have Ooa2 := Lib.hid oa2; clear hgr hlies)
    have HT3 := Lib.hid (two_any to hto wa2)
    refine HT3.out.mono ?_
    rintro e wt3 ⟨rfl, hwt⟩
    have hbwt3 : Below wa2.heap.size wa2 wt3 := by rw [hwt]; exact (Below.refl _ wa2).alloc (Nat.le_refl _) _
    have st3 : SlI wt3 wt3.heap.size .u8 (some ⟨wa2.heap.size, 0, none⟩) 2 2 (twoI to) := by rw [hwt]; exact two_sl to wa2
    have ot3 := own_up oa2 hbwt3
    clear hwt
    have hzwt3 : wa2.heap.size ≤ wt3.heap.size := hbwt3.size
    have Bwt3 : Below wd.heap.size wd wt3 := Bwa2.trans (hbwt3.mono Bwa2.size)
    have Zwt3 := Bwt3.size
    have hPwt3 := hPwa2.below hbwt3 hPwa2.lt
    have lhPwt3 := hPwt3.lt
    have hPwt30 : wt3.cell? ⟨w.heap.size, 0, none⟩ = some (.int .i64 23) := hPwt3.cell 0
    have hPwt31 : wt3.cell? ⟨w.heap.size, 1, none⟩ = some (.int .i64 addr) := hPwt3.cell 1
    have hPwt32 : wt3.cell? ⟨w.heap.size, 2, none⟩ = some (.int .i64 count) := hPwt3.cell 2
    have hPwt33 : wt3.cell? ⟨w.heap.size, 3, none⟩ = some (.int .i64 to) := hPwt3.cell 3
    have hPwt34 : wt3.cell? ⟨w.heap.size, 4, none⟩ = some (.slice A nb cb) := hPwt3.cell 4
    have hPwt35 : wt3.cell? ⟨w.heap.size, 5, none⟩ = some (.slice R nr cr) := hPwt3.cell 5
    go_wp2_with ((with_reducible refine at_append ?_); refine wpList_append_sl wt3 rfl _ _ 28 rfl wd.heap.size 5 i0 (.int .u8 0) 1 Tryd.underlying28 hi hz0 hz1' hz2' rfl va2 ((1 + 2) + 2) _ rfl ot3 wt3.heap.size .u8 (some ⟨wa2.heap.size, 0, none⟩) 2 2 (twoI to) rfl st3 (by unfold maxLen; omega) (by omega) Zwt3 ?_; intro va4 wa4 oa4 hgr hlies; have Bwa4 : Below wd.heap.size wd wa4 := Bwt3.grown hgr Zwt3 (fun j hj => (ot3.lt j hj).1); have Zwa4 := Bwa4.size; have hPwa4 := hP0.below Bwa4 hP0.lt; have lhPwa4 := hPwa4.lt; have hPwa40 : wa4.cell? ⟨w.heap.size, 0, none⟩ = some (.int .i64 23) := hPwa4.cell 0; have hPwa41 : wa4.cell? ⟨w.heap.size, 1, none⟩ = some (.int .i64 addr) := hPwa4.cell 1; have hPwa42 : wa4.cell? ⟨w.heap.size, 2, none⟩ = some (.int .i64 count) := hPwa4.cell 2; have hPwa43 : wa4.cell? ⟨w.heap.size, 3, none⟩ = some (.int .i64 to) := hPwa4.cell 3; have hPwa44 : wa4.cell? ⟨w.heap.size, 4, none⟩ = some (.slice A nb cb) := hPwa4.cell 4; have hPwa45 : wa4.cell? ⟨w.heap.size, 5, none⟩ = some (.slice R nr cr) := hPwa4.cell 5; rw [← List.map_append] at oa4; have Ooa4 := Lib.hid oa4; clear hgr hlies)
    have HT5 := Lib.hid (two_any (nr : Int) (by omega) wa4)
    refine HT5.out.mono ?_
    rintro e wt5 ⟨rfl, hwt⟩
    have hbwt5 : Below wa4.heap.size wa4 wt5 := by rw [hwt]; exact (Below.refl _ wa4).alloc (Nat.le_refl _) _
    have st5 : SlI wt5 wt5.heap.size .u8 (some ⟨wa4.heap.size, 0, none⟩) 2 2 (twoI (nr : Int)) := by rw [hwt]; exact two_sl (nr : Int) wa4
    have ot5 := own_up oa4 hbwt5
    clear hwt
    have hzwt5 : wa4.heap.size ≤ wt5.heap.size := hbwt5.size
    have Bwt5 : Below wd.heap.size wd wt5 := Bwa4.trans (hbwt5.mono Bwa4.size)
    have Zwt5 := Bwt5.size
    have hPwt5 := hPwa4.below hbwt5 hPwa4.lt
    have lhPwt5 := hPwt5.lt
    have hPwt50 : wt5.cell? ⟨w.heap.size, 0, none⟩ = some (.int .i64 23) := hPwt5.cell 0
    have hPwt51 : wt5.cell? ⟨w.heap.size, 1, none⟩ = some (.int .i64 addr) := hPwt5.cell 1
    have hPwt52 : wt5.cell? ⟨w.heap.size, 2, none⟩ = some (.int .i64 count) := hPwt5.cell 2
    have hPwt53 : wt5.cell? ⟨w.heap.size, 3, none⟩ = some (.int .i64 to) := hPwt5.cell 3
    have hPwt54 : wt5.cell? ⟨w.heap.size, 4, none⟩ = some (.slice A nb cb) := hPwt5.cell 4
    have hPwt55 : wt5.cell? ⟨w.heap.size, 5, none⟩ = some (.slice R nr cr) := hPwt5.cell 5
    go_wp2_with (first
      | ((with_reducible refine at_append ?_); refine wpList_append_sl wt5 rfl _ _ 28 rfl wd.heap.size 5 i0 (.int .u8 0) 1 Tryd.underlying28 hi hz0 hz1' hz2' rfl va4 (((1 + 2) + 2) + 2) _ rfl ot5 wt5.heap.size .u8 (some ⟨wa4.heap.size, 0, none⟩) 2 2 (twoI (nr : Int)) rfl st5 (by unfold maxLen; omega) (by omega) Zwt5 ?_; intro va6 wa6 oa6 hgr hlies; have Bwa6 : Below wd.heap.size wd wa6 := Bwt5.grown hgr Zwt5 (fun j hj => (ot5.lt j hj).1); have Zwa6 := Bwa6.size; have hPwa6 := hP0.below Bwa6 hP0.lt; have lhPwa6 := hPwa6.lt; have hPwa60 : wa6.cell? ⟨w.heap.size, 0, none⟩ = some (.int .i64 23) := hPwa6.cell 0; have hPwa61 : wa6.cell? ⟨w.heap.size, 1, none⟩ = some (.int .i64 addr) := hPwa6.cell 1; have hPwa62 : wa6.cell? ⟨w.heap.size, 2, none⟩ = some (.int .i64 count) := hPwa6.cell 2; have hPwa63 : wa6.cell? ⟨w.heap.size, 3, none⟩ = some (.int .i64 to) := hPwa6.cell 3; have hPwa64 : wa6.cell? ⟨w.heap.size, 4, none⟩ = some (.slice A nb cb) := hPwa6.cell 4; have hPwa65 : wa6.cell? ⟨w.heap.size, 5, none⟩ = some (.slice R nr cr) := hPwa6.cell 5; rw [← List.map_append] at oa6; have Ooa6 := Lib.hid oa6; clear hgr hlies)
      | ((with_reducible refine at_append ?_); refine wpList_append_sl (wa6.alloc (.cells #[.int .u8 (2 * (nr : Int))] 5)) rfl _ _ 28 rfl wd.heap.size 5 i0 (.int .u8 0) 1 Tryd.underlying28 hi hz0 hz1' hz2' rfl va6 ((((1 + 2) + 2) + 2) + 2) _ rfl (oa6.alloc (.cells #[.int .u8 (2 * (nr : Int))] 5)) (wa6.alloc (.cells #[.int .u8 (2 * (nr : Int))] 5)).heap.size .u8 (some ⟨wa6.heap.size, 0, none⟩) 1 1 [(2 * (nr : Int))] rfl (SlI.of_lit (w := wa6) (T := 5) (cs := #[.int .u8 (2 * (nr : Int))]) rfl rfl (by omega)) (by unfold maxLen; omega) (by omega) (by rw [World.size_alloc]; omega) ?_; intro va7 wa7 oa7 hgr hlies; have Bwa7 : Below wd.heap.size wd wa7 := (Bwa6.alloc Zwa6 (.cells #[.int .u8 (2 * (nr : Int))] 5)).grown hgr (by rw [World.size_alloc]; omega) (fun j hj => (oa6.lt j hj).1); have Zwa7 := Bwa7.size; have hPwa7 := hP0.below Bwa7 hP0.lt; have lhPwa7 := hPwa7.lt; have hPwa70 : wa7.cell? ⟨w.heap.size, 0, none⟩ = some (.int .i64 23) := hPwa7.cell 0; have hPwa71 : wa7.cell? ⟨w.heap.size, 1, none⟩ = some (.int .i64 addr) := hPwa7.cell 1; have hPwa72 : wa7.cell? ⟨w.heap.size, 2, none⟩ = some (.int .i64 count) := hPwa7.cell 2; have hPwa73 : wa7.cell? ⟨w.heap.size, 3, none⟩ = some (.int .i64 to) := hPwa7.cell 3; have hPwa74 : wa7.cell? ⟨w.heap.size, 4, none⟩ = some (.slice A nb cb) := hPwa7.cell 4; have hPwa75 : wa7.cell? ⟨w.heap.size, 5, none⟩ = some (.slice R nr cr) := hPwa7.cell 5; rw [← List.map_append] at oa7; have Ooa7 := Lib.hid oa7; clear hgr hlies))
    have HC8 := Lib.hid (rwords_any R nr cr regs (by omega) wa7 (HR.out wa7 (hbdw.trans (Bwa7.mono hbdw.size))) hy)
    refine HC8.out.mono ?_
    rintro e wc8 ⟨vp, rfl, op, hbwc8⟩
    have gp := fun g h => (op.lt g h).1
    obtain ⟨Ap, cp, rfl, sp0⟩ := SlI.of_own op
    have fp0 : OffRow va7 Ap := fun g hg a ha e => by { subst ha; have h1 := gp a.block rfl; have h2 := (oa7.lt g hg).2; omega }
    have ot8 := own_up oa7 hbwc8
    clear op gp
    have hzwc8 : wa7.heap.size ≤ wc8.heap.size := hbwc8.size
    have Bwc8 : Below wd.heap.size wd wc8 := Bwa7.trans (hbwc8.mono Bwa7.size)
    have Zwc8 := Bwc8.size
    have hPwc8 := hPwa7.below hbwc8 hPwa7.lt
    have lhPwc8 := hPwc8.lt
    have hPwc80 : wc8.cell? ⟨w.heap.size, 0, none⟩ = some (.int .i64 23) := hPwc8.cell 0
    have hPwc81 : wc8.cell? ⟨w.heap.size, 1, none⟩ = some (.int .i64 addr) := hPwc8.cell 1
    have hPwc82 : wc8.cell? ⟨w.heap.size, 2, none⟩ = some (.int .i64 count) := hPwc8.cell 2
    have hPwc83 : wc8.cell? ⟨w.heap.size, 3, none⟩ = some (.int .i64 to) := hPwc8.cell 3
    have hPwc84 : wc8.cell? ⟨w.heap.size, 4, none⟩ = some (.slice A nb cb) := hPwc8.cell 4
    have hPwc85 : wc8.cell? ⟨w.heap.size, 5, none⟩ = some (.slice R nr cr) := hPwc8.cell 5
    have spwc8 := sp0
    have fpwc8 := fp0
    go_wp2_with ((with_reducible refine at_append ?_); refine wpList_append_sl wc8 rfl _ _ 28 rfl wd.heap.size 5 i0 (.int .u8 0) 1 Tryd.underlying28 hi hz0 hz1' hz2' rfl va7 (((((1 + 2) + 2) + 2) + 2) + 1) _ rfl ot8 wc8.heap.size .u8 Ap (2 * nr) cp (twosI regs) rfl spwc8 (by unfold maxLen; omega) (by omega) Zwc8 ?_; intro va9 wa9 oa9 hgr hlies; have spwa9 := spwc8.grown hgr fpwc8; have fpwa9 := fpwc8.next spwc8 (by omega) hlies; have Bwa9 : Below wd.heap.size wd wa9 := Bwc8.grown hgr Zwc8 (fun j hj => (ot8.lt j hj).1); have Zwa9 := Bwa9.size; have hPwa9 := hP0.below Bwa9 hP0.lt; have lhPwa9 := hPwa9.lt; have hPwa90 : wa9.cell? ⟨w.heap.size, 0, none⟩ = some (.int .i64 23) := hPwa9.cell 0; have hPwa91 : wa9.cell? ⟨w.heap.size, 1, none⟩ = some (.int .i64 addr) := hPwa9.cell 1; have hPwa92 : wa9.cell? ⟨w.heap.size, 2, none⟩ = some (.int .i64 count) := hPwa9.cell 2; have hPwa93 : wa9.cell? ⟨w.heap.size, 3, none⟩ = some (.int .i64 to) := hPwa9.cell 3; have hPwa94 : wa9.cell? ⟨w.heap.size, 4, none⟩ = some (.slice A nb cb) := hPwa9.cell 4; have hPwa95 : wa9.cell? ⟨w.heap.size, 5, none⟩ = some (.slice R nr cr) := hPwa9.cell 5; rw [← List.map_append] at oa9; have Ooa9 := Lib.hid oa9; clear hgr hlies)
    go_ret2
    exact bytes_post HM.out (by unfold bytesP; simp only; rw [if_neg (by omega), if_neg (by omega), if_neg (by omega), if_neg (by omega), if_pos trivial, HLR.out]; simp) oa9 (hbdw.trans (Bwa9.mono hbdw.size))

end Go.Proofs.YtflbiichdjhaeaaDoor
namespace Go.Proofs.YtflbiichdjhaeaaDoor
open Go.RowKit
set_option linter.unusedVariables false

theorem bytes_ref (u : Value) (p : AskP) (w : World) (hu : AskAt w u p) (hy : Reg16 p.regs) : Calls Tryd.prog 20 #[u] w (BytesPost w p) := by
  obtain ⟨A, nb, cb, R, nr, cr, rfl, hA, hR⟩ := hu
  obtain ⟨fn, addr, count, to, bits, regs⟩ := p
  dsimp only at hA hR hy ⊢
  cases hm : mayP ⟨fn, addr, count, to, bits, regs⟩ with
  | false => exact rb_no fn addr count to bits regs A nb cb R nr cr w hA hR hm
  | true =>
    obtain ⟨⟨ha, ht⟩, hc⟩ := may_cases _ hm
    have la := hA.1
    have lr := hR.1
    simp only at hc ha ht
    rcases hc with ⟨e, hn, _⟩ | ⟨e, hn, _⟩ | ⟨e, _, ⟨b, hb⟩, _⟩ | ⟨e, _, _, ⟨r, hr⟩, _⟩ | ⟨e, _, hn, _⟩ | ⟨e, _, _, hn, _⟩ | ⟨e, hn, _, hk⟩
    · exact rb_rd fn addr count to bits regs A nb cb R nr cr w hA hR hm hy ha (by omega) (by omega)
    · exact rb_rd fn addr count to bits regs A nb cb R nr cr w hA hR hm hy ha (by omega) (by omega)
    · cases b with
      | true => exact rb_5t fn addr count to bits regs A nb cb R nr cr w hA hR hm hy ha e hb
      | false => exact rb_5f fn addr count to bits regs A nb cb R nr cr w hA hR hm hy ha e hb
    · exact rb_6 fn addr count to bits regs A nb cb R nr cr w hA hR hm hy ha e r hr
    · exact rb_15 fn addr count to bits regs A nb cb R nr cr w hA hR hm hy ha e (by omega)
    · exact rb_16 fn addr count to bits regs A nb cb R nr cr w hA hR hm hy ha e (by omega)
    · exact rb_23 fn addr count to bits regs A nb cb R nr cr w hA hR hm hy ha e (by omega) (by omega) ht
end Go.Proofs.YtflbiichdjhaeaaDoor
