/- kilowattref19.Bytes: 5, 6. -/
import Derived.Test.YtflbiichdjhaeaaDoorPduMay
import Derived.Test.YtflbiichdjhaeaaDoorPduBytes
namespace Go.Proofs.YtflbiichdjhaeaaDoor
open Go.RowKit
set_option linter.unusedVariables false

set_option maxRecDepth 100000 in
set_option maxHeartbeats 2000000 in
theorem rb_5t (fn addr count to : Int) (bits : List Bool) (regs : List Int) (A : Option Addr) (nb cb : Nat) (R : Option Addr) (nr cr : Nat) (w : World) (hA : SlB w w.heap.size A nb cb bits) (hR : SlI w w.heap.size .u16 R nr cr regs) (hm : mayP ⟨fn, addr, count, to, bits, regs⟩ = true) (hy : Reg16 regs) (ha : 0 ≤ addr ∧ addr < 65536) (hfn : fn = 5) (hbits : bits = [true]) : Calls Tryd.prog 20 #[.agg #[.int .i64 fn, .int .i64 addr, .int .i64 count, .int .i64 to, .slice A nb cb, .slice R nr cr]] w (BytesPost w ⟨fn, addr, count, to, bits, regs⟩) := by
  subst hfn
  have hnb1 : 0 < nb := by rw [← hA.1, hbits]; simp
  have HBT := Lib.hid hbits
  clear hbits
  obtain ⟨w1, hw1⟩ : ∃ w1, w.alloc (.cells #[.int .i64 5, .int .i64 addr, .int .i64 count, .int .i64 to, .slice A nb cb, .slice R nr cr] 25) = w1 := ⟨_, rfl⟩
  have hb1 : Below w.heap.size w w1 := by rw [← hw1]; exact (Below.refl _ w).alloc (Nat.le_refl _) _
  have hz1 : w1.heap.size = w.heap.size + 1 := by rw [← hw1]; simp
  have hP1 : Held w1 w.heap.size 25 #[.int .i64 5, .int .i64 addr, .int .i64 count, .int .i64 to, .slice A nb cb, .slice R nr cr] := by rw [← hw1]; exact Held.new _ _ _
  have hu := Tryd.underlying25
  have hsz : (Tryd.prog.info? 25).map (·.size) = some 6 := by kernel_rfl
  have hc := may_any (.agg #[.int .i64 5, .int .i64 addr, .int .i64 count, .int .i64 to, .slice A nb cb, .slice R nr cr]) ⟨5, addr, count, to, bits, regs⟩ w1 ⟨A, nb, cb, R, nr, cr, rfl, hA.up hb1, hR.up hb1⟩
  rw [hm] at hc
  have HC := Lib.hid hc
  clear hc
  obtain ⟨i0, hi, hz0, hz1', hz2'⟩ := info_parts infoU8
  have HM := Lib.hid hm
  have HA := Lib.hid (fun (X : World) (h : Below w.heap.size w X) => hA.up h)
  have HR := Lib.hid (fun (X : World) (h : Below w.heap.size w X) => hR.up h)
  have HLB := Lib.hid hA.1
  have HLR := Lib.hid hR.1
  clear hA hR hm
  have hf1 : True := by trivial
  have wr0 : True := by trivial
  go_in
  go_wp2_with ((with_reducible refine at_loadT 25 1 ?_); refine wpList_load_rowG rfl 25 (.tmp 1) rfl w.heap.size rfl 25 _ _ hP1 hu rfl hsz ?_)
  refine HC.out.mono ?_
  rintro e w2 ⟨rfl, hb2⟩
  go_wp2_with fail
  obtain ⟨wd, hwd⟩ : ∃ wd : World, w2.drew = wd := ⟨_, rfl⟩
  have hb2d : Below w1.heap.size w1 wd := by rw [← hwd]; exact hb2.drew
  have hPd := hP1.below hb2d hP1.lt
  have hld := hPd.lt
  have hbdw := hb1.trans (hb2d.mono (by omega))
  have hzd := hb2d.size
  refine wp_region_held (S := Below wd.heap.size wd) (by kernel_rfl) ?_
  change wpAnyH _ _ _ _ _ _ _ _ w2.drew
  rw [hwd]
  have hS := Below.refl wd.heap.size wd
  refine wpAnyH_take (i := 0) (v := ?v0_1) rfl (by kernel_rfl) (by kernel_rfl) (by kernel_rfl) (fun _ _ _ h => h) (Or.inl ⟨by rfl, ?y0_1⟩) hS ?r0_1
  case y0_1 =>
    rintro W hH
    have hPW := hPd.below hH hPd.lt
    have q0 : W.cell? ⟨w.heap.size, 0, none⟩ = some (.int .i64 5) := hPW.cell 0
    have q1 : W.cell? ⟨w.heap.size, 1, none⟩ = some (.int .i64 addr) := hPW.cell 1
    clear hPW
    go_simp
    with_reducible rfl
  simp only [Act.put]
  try simp only [List.getElem_toArray, List.getElem_cons_zero]
  try simp only [List.setIfInBounds_toArray, List.set_cons_succ, List.set_cons_zero]
  refine wpAnyH_take (i := 1) (v := ?v1_2) rfl (by kernel_rfl) (by kernel_rfl) (by kernel_rfl) (fun _ _ _ h => h) (Or.inl ⟨by rfl, ?y1_2⟩) hS ?r1_2
  case y1_2 =>
    rintro W hH
    have hPW := hPd.below hH hPd.lt
    have q0 : W.cell? ⟨w.heap.size, 0, none⟩ = some (.int .i64 5) := hPW.cell 0
    have q1 : W.cell? ⟨w.heap.size, 1, none⟩ = some (.int .i64 addr) := hPW.cell 1
    clear hPW
    go_simp
    with_reducible rfl
  simp only [Act.put]
  try simp only [List.getElem_toArray, List.getElem_cons_succ, List.getElem_cons_zero]
  try simp only [List.setIfInBounds_toArray, List.set_cons_succ, List.set_cons_zero]
  refine wpAnyH_take (i := 2) (v := ?v2_3) rfl (by kernel_rfl) (by kernel_rfl) (by kernel_rfl) (fun _ _ _ h => h) (Or.inl ⟨by rfl, ?y2_3⟩) hS ?r2_3
  case y2_3 =>
    rintro W hH
    have hPW := hPd.below hH hPd.lt
    have q0 : W.cell? ⟨w.heap.size, 0, none⟩ = some (.int .i64 5) := hPW.cell 0
    have q1 : W.cell? ⟨w.heap.size, 1, none⟩ = some (.int .i64 addr) := hPW.cell 1
    clear hPW
    go_simp
    with_reducible rfl
  simp only [Act.put]
  try simp only [List.getElem_toArray, List.getElem_cons_succ, List.getElem_cons_zero]
  try simp only [List.setIfInBounds_toArray, List.set_cons_succ, List.set_cons_zero]
  refine wpAnyH_take (i := 4) (v := ?v4_4) rfl (by kernel_rfl) (by kernel_rfl) (by kernel_rfl) (fun _ _ _ h => h) (Or.inl ⟨by rfl, ?y4_4⟩) hS ?r4_4
  case y4_4 =>
    rintro W hH
    have hPW := hPd.below hH hPd.lt
    have q0 : W.cell? ⟨w.heap.size, 0, none⟩ = some (.int .i64 5) := hPW.cell 0
    have q1 : W.cell? ⟨w.heap.size, 1, none⟩ = some (.int .i64 addr) := hPW.cell 1
    clear hPW
    go_simp
    with_reducible rfl
  simp only [Act.put]
  try simp only [List.getElem_toArray, List.getElem_cons_succ, List.getElem_cons_zero]
  try simp only [List.setIfInBounds_toArray, List.set_cons_succ, List.set_cons_zero]
  refine wpAnyH_take (i := 5) (v := ?v5_5) rfl (by kernel_rfl) (by kernel_rfl) (by kernel_rfl) (fun _ _ _ h => h) (Or.inl ⟨by rfl, ?y5_5⟩) hS ?r5_5
  case y5_5 =>
    rintro W hH
    have hPW := hPd.below hH hPd.lt
    have q0 : W.cell? ⟨w.heap.size, 0, none⟩ = some (.int .i64 5) := hPW.cell 0
    have q1 : W.cell? ⟨w.heap.size, 1, none⟩ = some (.int .i64 addr) := hPW.cell 1
    clear hPW
    go_simp
    with_reducible rfl
  simp only [Act.put]
  try simp only [List.getElem_toArray, List.getElem_cons_succ, List.getElem_cons_zero]
  try simp only [List.setIfInBounds_toArray, List.set_cons_succ, List.set_cons_zero]
  refine wpAnyH_ready (rs := [3, 6]) (by kernel_rfl) (by simp) ?_
  refine AllReadyH.cons rfl (fun K' hK' => ?_) (AllReadyH.cons rfl (fun K' hK' => ?_) AllReadyH.nil)
  · skip
    go_simp
    have hSt := hS.alloc (Nat.le_refl _) (.cells #[.int .u8 5] 5)
    refine hK'.out _ _ hSt (fun hS => ?_)
    clear hK' K'
    refine wpAnyH_ready (rs := [6]) (by kernel_rfl) (by simp) ?_
    refine AllReadyH.cons rfl (fun K' hK' => ?_) AllReadyH.nil
    go_simp
    refine (two_any addr ha _).mono ?_
    rintro e wt0 ⟨rfl, hwt⟩
    have hbt : Below (wd.alloc (.cells #[.int .u8 5] 5)).heap.size (wd.alloc (.cells #[.int .u8 5] 5)) wt0 := by rw [hwt]; exact (Below.refl _ _).alloc (Nat.le_refl _) _
    have hst : SlI wt0 wt0.heap.size .u8 (some ⟨(wd.alloc (.cells #[.int .u8 5] 5)).heap.size, 0, none⟩) 2 2 (twoI addr) := by rw [hwt]; exact two_sl addr _
    have hSt := hS.trans (hbt.mono hS.size)
    have hzt := hSt.size
    have hown := own_up (lit_own wd.heap.size wd 5 (Nat.le_refl _)) hbt
    have hsl := hst
    rw [World.size_alloc] at hsl
    clear hwt
    go_simp
    refine hK'.out _ _ hSt (fun hS => ?_)
    clear hK' K'
    refine wpAnyH_ready (rs := [7]) (by kernel_rfl) (by simp) ?_
    refine AllReadyH.cons rfl (fun K' hK' => ?_) AllReadyH.nil
    refine step_append_lies _ (by rfl) _ _ _ (by rfl) wd.heap.size 5 i0 (.int .u8 0) 1 1 Tryd.underlying28 hi hz0 hz1' hz2' rfl (by decide) _ 1 _ (by rfl) hown ⟨wd.heap.size + 1, 0, none⟩ 2 2 ((twoI addr).map (Value.int .u8)) (by rfl) (by rfl) (news_of hsl.2.2.2.2) (ints_oneCell _ _) (by omega) (by unfold maxLen; omega) (by omega) hSt.size _ rfl ?_
    intro g0 c0 wa0 oa0 hgr _ _
    have hSa := hSt.grown hgr hSt.size (fun j hj => (hown.lt j hj).1)
    clear hgr hS
    refine hK'.out _ _ hSa (fun hS => ?_)
    clear hK' K'
    refine wpAnyH_take (i := 8) (v := ?v8_6) rfl (by kernel_rfl) (by kernel_rfl) (by kernel_rfl) (fun _ _ _ h => h) (Or.inl ⟨by rfl, ?y8_6⟩) hS ?r8_6
    case y8_6 =>
      rintro W hH
      have hPW := hPd.below hH hPd.lt
      have q0 : W.cell? ⟨w.heap.size, 0, none⟩ = some (.int .i64 5) := hPW.cell 0
      have q1 : W.cell? ⟨w.heap.size, 1, none⟩ = some (.int .i64 addr) := hPW.cell 1
      clear hPW
      go_simp
      with_reducible rfl
    simp only [Act.put]
    try simp only [List.getElem_toArray, List.getElem_cons_succ, List.getElem_cons_zero]
    try simp only [List.setIfInBounds_toArray, List.set_cons_succ, List.set_cons_zero]
    refine wpAnyH_done (by kernel_rfl) ?_ _
    have hP0 := hPd
    have Bwa0 : Below wd.heap.size wd wa0 := hS
    have Zwa0 := Bwa0.size
    have hPwa0 := hPd.below Bwa0 hPd.lt
    have lhPwa0 := hPwa0.lt
    have oa0' : wa0.ownsRow wd.heap.size 5 1 (.slice (some ⟨g0, 0, none⟩) (1 + 2) c0) (1 + 2) ((5 :: twoI addr).map (Value.int .u8)) := oa0
    clear oa0 hown hsl hst
    have hPwa00 : wa0.cell? ⟨w.heap.size, 0, none⟩ = some (.int .i64 5) := hPwa0.cell 0
    have hPwa01 : wa0.cell? ⟨w.heap.size, 1, none⟩ = some (.int .i64 addr) := hPwa0.cell 1
    have hPwa02 : wa0.cell? ⟨w.heap.size, 2, none⟩ = some (.int .i64 count) := hPwa0.cell 2
    have hPwa03 : wa0.cell? ⟨w.heap.size, 3, none⟩ = some (.int .i64 to) := hPwa0.cell 3
    have hPwa04 : wa0.cell? ⟨w.heap.size, 4, none⟩ = some (.slice A nb cb) := hPwa0.cell 4
    have hPwa05 : wa0.cell? ⟨w.heap.size, 5, none⟩ = some (.slice R nr cr) := hPwa0.cell 5
    obtain ⟨gb, ob, x, rfl, hgb, hxb, hcb⟩ := (HA.out wa0 (hbdw.trans (Bwa0.mono hbdw.size))).2.2.2.2.at_ (i := 0) (by rw [HLB.out]; exact hnb1)
    obtain rfl : x = true := by rw [HBT.out] at hxb; simpa using hxb.symm
    rw [Nat.add_zero] at hcb
    clear hxb
    go_wp2_with ((with_reducible refine at_append ?_); refine wpList_append_sl (wa0.alloc (.cells #[.int .u8 255, .int .u8 0] 5)) rfl _ _ 28 rfl wd.heap.size 5 i0 (.int .u8 0) 1 Tryd.underlying28 hi hz0 hz1' hz2' rfl (.slice (some ⟨g0, 0, none⟩) (1 + 2) c0) (1 + 2) _ rfl (oa0'.alloc (.cells #[.int .u8 255, .int .u8 0] 5)) (wa0.alloc (.cells #[.int .u8 255, .int .u8 0] 5)).heap.size .u8 (some ⟨wa0.heap.size, 0, none⟩) 2 2 [255, 0] rfl (SlI.of_lit (w := wa0) (T := 5) (cs := #[.int .u8 255, .int .u8 0]) rfl rfl (by omega)) (by unfold maxLen; omega) (by omega) (by rw [World.size_alloc]; omega) ?_; intro va1 wa1 oa1 hgr hlies; have Bwa1 : Below wd.heap.size wd wa1 := (Bwa0.alloc Zwa0 (.cells #[.int .u8 255, .int .u8 0] 5)).grown hgr (by rw [World.size_alloc]; omega) (fun j hj => (oa0'.lt j hj).1); have Zwa1 := Bwa1.size; have hPwa1 := hP0.below Bwa1 hP0.lt; have lhPwa1 := hPwa1.lt; have hPwa10 : wa1.cell? ⟨w.heap.size, 0, none⟩ = some (.int .i64 5) := hPwa1.cell 0; have hPwa11 : wa1.cell? ⟨w.heap.size, 1, none⟩ = some (.int .i64 addr) := hPwa1.cell 1; have hPwa12 : wa1.cell? ⟨w.heap.size, 2, none⟩ = some (.int .i64 count) := hPwa1.cell 2; have hPwa13 : wa1.cell? ⟨w.heap.size, 3, none⟩ = some (.int .i64 to) := hPwa1.cell 3; have hPwa14 : wa1.cell? ⟨w.heap.size, 4, none⟩ = some (.slice (some ⟨gb, ob, none⟩) nb cb) := hPwa1.cell 4; have hPwa15 : wa1.cell? ⟨w.heap.size, 5, none⟩ = some (.slice R nr cr) := hPwa1.cell 5; rw [← List.map_append] at oa1; have Ooa1 := Lib.hid oa1; clear hgr hlies)
    go_ret2
    exact bytes_post HM.out (by unfold bytesP; rw [HBT.out]; rfl) oa1 (hbdw.trans (Bwa1.mono hbdw.size))
  · skip
    go_simp
    refine (two_any addr ha _).mono ?_
    rintro e wt0 ⟨rfl, hwt⟩
    have hbt : Below wd.heap.size wd wt0 := by rw [hwt]; exact (Below.refl _ _).alloc (Nat.le_refl _) _
    have hst : SlI wt0 wt0.heap.size .u8 (some ⟨wd.heap.size, 0, none⟩) 2 2 (twoI addr) := by rw [hwt]; exact two_sl addr _
    have hSt := hS.trans (hbt.mono hS.size)
    have hzt := hSt.size
    clear hwt
    go_simp
    refine hK'.out _ _ hSt (fun hS => ?_)
    clear hK' K'
    refine wpAnyH_ready (rs := [3]) (by kernel_rfl) (by simp) ?_
    refine AllReadyH.cons rfl (fun K' hK' => ?_) AllReadyH.nil
    go_simp
    have hown := lit_own wd.heap.size wt0 5 hzt
    have hsl := hst.alloc (.cells #[.int .u8 5] 5)
    have hSt := hS.alloc hzt (.cells #[.int .u8 5] 5)
    refine hK'.out _ _ hSt (fun hS => ?_)
    clear hK' K'
    refine wpAnyH_ready (rs := [7]) (by kernel_rfl) (by simp) ?_
    refine AllReadyH.cons rfl (fun K' hK' => ?_) AllReadyH.nil
    refine step_append_lies _ (by rfl) _ _ _ (by rfl) wd.heap.size 5 i0 (.int .u8 0) 1 1 Tryd.underlying28 hi hz0 hz1' hz2' rfl (by decide) _ 1 _ (by rfl) hown ⟨wd.heap.size, 0, none⟩ 2 2 ((twoI addr).map (Value.int .u8)) (by rfl) (by rfl) (news_of hsl.2.2.2.2) (ints_oneCell _ _) (by omega) (by unfold maxLen; omega) (by omega) hSt.size _ rfl ?_
    intro g0 c0 wa0 oa0 hgr _ _
    have hSa := hSt.grown hgr hSt.size (fun j hj => (hown.lt j hj).1)
    clear hgr hS
    refine hK'.out _ _ hSa (fun hS => ?_)
    clear hK' K'
    refine wpAnyH_take (i := 8) (v := ?v8_7) rfl (by kernel_rfl) (by kernel_rfl) (by kernel_rfl) (fun _ _ _ h => h) (Or.inl ⟨by rfl, ?y8_7⟩) hS ?r8_7
    case y8_7 =>
      rintro W hH
      have hPW := hPd.below hH hPd.lt
      have q0 : W.cell? ⟨w.heap.size, 0, none⟩ = some (.int .i64 5) := hPW.cell 0
      have q1 : W.cell? ⟨w.heap.size, 1, none⟩ = some (.int .i64 addr) := hPW.cell 1
      clear hPW
      go_simp
      with_reducible rfl
    simp only [Act.put]
    try simp only [List.getElem_toArray, List.getElem_cons_succ, List.getElem_cons_zero]
    try simp only [List.setIfInBounds_toArray, List.set_cons_succ, List.set_cons_zero]
    refine wpAnyH_done (by kernel_rfl) ?_ _
    have hP0 := hPd
    have Bwa0 : Below wd.heap.size wd wa0 := hS
    have Zwa0 := Bwa0.size
    have hPwa0 := hPd.below Bwa0 hPd.lt
    have lhPwa0 := hPwa0.lt
    have oa0' : wa0.ownsRow wd.heap.size 5 1 (.slice (some ⟨g0, 0, none⟩) (1 + 2) c0) (1 + 2) ((5 :: twoI addr).map (Value.int .u8)) := oa0
    clear oa0 hown hsl hst
    have hPwa00 : wa0.cell? ⟨w.heap.size, 0, none⟩ = some (.int .i64 5) := hPwa0.cell 0
    have hPwa01 : wa0.cell? ⟨w.heap.size, 1, none⟩ = some (.int .i64 addr) := hPwa0.cell 1
    have hPwa02 : wa0.cell? ⟨w.heap.size, 2, none⟩ = some (.int .i64 count) := hPwa0.cell 2
    have hPwa03 : wa0.cell? ⟨w.heap.size, 3, none⟩ = some (.int .i64 to) := hPwa0.cell 3
    have hPwa04 : wa0.cell? ⟨w.heap.size, 4, none⟩ = some (.slice A nb cb) := hPwa0.cell 4
    have hPwa05 : wa0.cell? ⟨w.heap.size, 5, none⟩ = some (.slice R nr cr) := hPwa0.cell 5
    obtain ⟨gb, ob, x, rfl, hgb, hxb, hcb⟩ := (HA.out wa0 (hbdw.trans (Bwa0.mono hbdw.size))).2.2.2.2.at_ (i := 0) (by rw [HLB.out]; exact hnb1)
    obtain rfl : x = true := by rw [HBT.out] at hxb; simpa using hxb.symm
    rw [Nat.add_zero] at hcb
    clear hxb
    go_wp2_with ((with_reducible refine at_append ?_); refine wpList_append_sl (wa0.alloc (.cells #[.int .u8 255, .int .u8 0] 5)) rfl _ _ 28 rfl wd.heap.size 5 i0 (.int .u8 0) 1 Tryd.underlying28 hi hz0 hz1' hz2' rfl (.slice (some ⟨g0, 0, none⟩) (1 + 2) c0) (1 + 2) _ rfl (oa0'.alloc (.cells #[.int .u8 255, .int .u8 0] 5)) (wa0.alloc (.cells #[.int .u8 255, .int .u8 0] 5)).heap.size .u8 (some ⟨wa0.heap.size, 0, none⟩) 2 2 [255, 0] rfl (SlI.of_lit (w := wa0) (T := 5) (cs := #[.int .u8 255, .int .u8 0]) rfl rfl (by omega)) (by unfold maxLen; omega) (by omega) (by rw [World.size_alloc]; omega) ?_; intro va1 wa1 oa1 hgr hlies; have Bwa1 : Below wd.heap.size wd wa1 := (Bwa0.alloc Zwa0 (.cells #[.int .u8 255, .int .u8 0] 5)).grown hgr (by rw [World.size_alloc]; omega) (fun j hj => (oa0'.lt j hj).1); have Zwa1 := Bwa1.size; have hPwa1 := hP0.below Bwa1 hP0.lt; have lhPwa1 := hPwa1.lt; have hPwa10 : wa1.cell? ⟨w.heap.size, 0, none⟩ = some (.int .i64 5) := hPwa1.cell 0; have hPwa11 : wa1.cell? ⟨w.heap.size, 1, none⟩ = some (.int .i64 addr) := hPwa1.cell 1; have hPwa12 : wa1.cell? ⟨w.heap.size, 2, none⟩ = some (.int .i64 count) := hPwa1.cell 2; have hPwa13 : wa1.cell? ⟨w.heap.size, 3, none⟩ = some (.int .i64 to) := hPwa1.cell 3; have hPwa14 : wa1.cell? ⟨w.heap.size, 4, none⟩ = some (.slice (some ⟨gb, ob, none⟩) nb cb) := hPwa1.cell 4; have hPwa15 : wa1.cell? ⟨w.heap.size, 5, none⟩ = some (.slice R nr cr) := hPwa1.cell 5; rw [← List.map_append] at oa1; have Ooa1 := Lib.hid oa1; clear hgr hlies)
    go_ret2
    exact bytes_post HM.out (by unfold bytesP; rw [HBT.out]; rfl) oa1 (hbdw.trans (Bwa1.mono hbdw.size))

set_option maxRecDepth 100000 in
set_option maxHeartbeats 2000000 in
theorem rb_5f (fn addr count to : Int) (bits : List Bool) (regs : List Int) (A : Option Addr) (nb cb : Nat) (R : Option Addr) (nr cr : Nat) (w : World) (hA : SlB w w.heap.size A nb cb bits) (hR : SlI w w.heap.size .u16 R nr cr regs) (hm : mayP ⟨fn, addr, count, to, bits, regs⟩ = true) (hy : Reg16 regs) (ha : 0 ≤ addr ∧ addr < 65536) (hfn : fn = 5) (hbits : bits = [false]) : Calls Tryd.prog 20 #[.agg #[.int .i64 fn, .int .i64 addr, .int .i64 count, .int .i64 to, .slice A nb cb, .slice R nr cr]] w (BytesPost w ⟨fn, addr, count, to, bits, regs⟩) := by
  subst hfn
  have hnb1 : 0 < nb := by rw [← hA.1, hbits]; simp
  have HBT := Lib.hid hbits
  clear hbits
  obtain ⟨w1, hw1⟩ : ∃ w1, w.alloc (.cells #[.int .i64 5, .int .i64 addr, .int .i64 count, .int .i64 to, .slice A nb cb, .slice R nr cr] 25) = w1 := ⟨_, rfl⟩
  have hb1 : Below w.heap.size w w1 := by rw [← hw1]; exact (Below.refl _ w).alloc (Nat.le_refl _) _
  have hz1 : w1.heap.size = w.heap.size + 1 := by rw [← hw1]; simp
  have hP1 : Held w1 w.heap.size 25 #[.int .i64 5, .int .i64 addr, .int .i64 count, .int .i64 to, .slice A nb cb, .slice R nr cr] := by rw [← hw1]; exact Held.new _ _ _
  have hu := Tryd.underlying25
  have hsz : (Tryd.prog.info? 25).map (·.size) = some 6 := by kernel_rfl
  have hc := may_any (.agg #[.int .i64 5, .int .i64 addr, .int .i64 count, .int .i64 to, .slice A nb cb, .slice R nr cr]) ⟨5, addr, count, to, bits, regs⟩ w1 ⟨A, nb, cb, R, nr, cr, rfl, hA.up hb1, hR.up hb1⟩
  rw [hm] at hc
  have HC := Lib.hid hc
  clear hc
  obtain ⟨i0, hi, hz0, hz1', hz2'⟩ := info_parts infoU8
  have HM := Lib.hid hm
  have HA := Lib.hid (fun (X : World) (h : Below w.heap.size w X) => hA.up h)
  have HR := Lib.hid (fun (X : World) (h : Below w.heap.size w X) => hR.up h)
  have HLB := Lib.hid hA.1
  have HLR := Lib.hid hR.1
  clear hA hR hm
  have hf1 : True := by trivial
  have wr0 : True := by trivial
  go_in
  go_wp2_with ((with_reducible refine at_loadT 25 1 ?_); refine wpList_load_rowG rfl 25 (.tmp 1) rfl w.heap.size rfl 25 _ _ hP1 hu rfl hsz ?_)
  refine HC.out.mono ?_
  rintro e w2 ⟨rfl, hb2⟩
  go_wp2_with fail
  obtain ⟨wd, hwd⟩ : ∃ wd : World, w2.drew = wd := ⟨_, rfl⟩
  have hb2d : Below w1.heap.size w1 wd := by rw [← hwd]; exact hb2.drew
  have hPd := hP1.below hb2d hP1.lt
  have hld := hPd.lt
  have hbdw := hb1.trans (hb2d.mono (by omega))
  have hzd := hb2d.size
  refine wp_region_held (S := Below wd.heap.size wd) (by kernel_rfl) ?_
  change wpAnyH _ _ _ _ _ _ _ _ w2.drew
  rw [hwd]
  have hS := Below.refl wd.heap.size wd
  refine wpAnyH_take (i := 0) (v := ?v0_1) rfl (by kernel_rfl) (by kernel_rfl) (by kernel_rfl) (fun _ _ _ h => h) (Or.inl ⟨by rfl, ?y0_1⟩) hS ?r0_1
  case y0_1 =>
    rintro W hH
    have hPW := hPd.below hH hPd.lt
    have q0 : W.cell? ⟨w.heap.size, 0, none⟩ = some (.int .i64 5) := hPW.cell 0
    have q1 : W.cell? ⟨w.heap.size, 1, none⟩ = some (.int .i64 addr) := hPW.cell 1
    clear hPW
    go_simp
    with_reducible rfl
  simp only [Act.put]
  try simp only [List.getElem_toArray, List.getElem_cons_zero]
  try simp only [List.setIfInBounds_toArray, List.set_cons_succ, List.set_cons_zero]
  refine wpAnyH_take (i := 1) (v := ?v1_2) rfl (by kernel_rfl) (by kernel_rfl) (by kernel_rfl) (fun _ _ _ h => h) (Or.inl ⟨by rfl, ?y1_2⟩) hS ?r1_2
  case y1_2 =>
    rintro W hH
    have hPW := hPd.below hH hPd.lt
    have q0 : W.cell? ⟨w.heap.size, 0, none⟩ = some (.int .i64 5) := hPW.cell 0
    have q1 : W.cell? ⟨w.heap.size, 1, none⟩ = some (.int .i64 addr) := hPW.cell 1
    clear hPW
    go_simp
    with_reducible rfl
  simp only [Act.put]
  try simp only [List.getElem_toArray, List.getElem_cons_succ, List.getElem_cons_zero]
  try simp only [List.setIfInBounds_toArray, List.set_cons_succ, List.set_cons_zero]
  refine wpAnyH_take (i := 2) (v := ?v2_3) rfl (by kernel_rfl) (by kernel_rfl) (by kernel_rfl) (fun _ _ _ h => h) (Or.inl ⟨by rfl, ?y2_3⟩) hS ?r2_3
  case y2_3 =>
    rintro W hH
    have hPW := hPd.below hH hPd.lt
    have q0 : W.cell? ⟨w.heap.size, 0, none⟩ = some (.int .i64 5) := hPW.cell 0
    have q1 : W.cell? ⟨w.heap.size, 1, none⟩ = some (.int .i64 addr) := hPW.cell 1
    clear hPW
    go_simp
    with_reducible rfl
  simp only [Act.put]
  try simp only [List.getElem_toArray, List.getElem_cons_succ, List.getElem_cons_zero]
  try simp only [List.setIfInBounds_toArray, List.set_cons_succ, List.set_cons_zero]
  refine wpAnyH_take (i := 4) (v := ?v4_4) rfl (by kernel_rfl) (by kernel_rfl) (by kernel_rfl) (fun _ _ _ h => h) (Or.inl ⟨by rfl, ?y4_4⟩) hS ?r4_4
  case y4_4 =>
    rintro W hH
    have hPW := hPd.below hH hPd.lt
    have q0 : W.cell? ⟨w.heap.size, 0, none⟩ = some (.int .i64 5) := hPW.cell 0
    have q1 : W.cell? ⟨w.heap.size, 1, none⟩ = some (.int .i64 addr) := hPW.cell 1
    clear hPW
    go_simp
    with_reducible rfl
  simp only [Act.put]
  try simp only [List.getElem_toArray, List.getElem_cons_succ, List.getElem_cons_zero]
  try simp only [List.setIfInBounds_toArray, List.set_cons_succ, List.set_cons_zero]
  refine wpAnyH_take (i := 5) (v := ?v5_5) rfl (by kernel_rfl) (by kernel_rfl) (by kernel_rfl) (fun _ _ _ h => h) (Or.inl ⟨by rfl, ?y5_5⟩) hS ?r5_5
  case y5_5 =>
    rintro W hH
    have hPW := hPd.below hH hPd.lt
    have q0 : W.cell? ⟨w.heap.size, 0, none⟩ = some (.int .i64 5) := hPW.cell 0
    have q1 : W.cell? ⟨w.heap.size, 1, none⟩ = some (.int .i64 addr) := hPW.cell 1
    clear hPW
    go_simp
    with_reducible rfl
  simp only [Act.put]
  try simp only [List.getElem_toArray, List.getElem_cons_succ, List.getElem_cons_zero]
  try simp only [List.setIfInBounds_toArray, List.set_cons_succ, List.set_cons_zero]
  refine wpAnyH_ready (rs := [3, 6]) (by kernel_rfl) (by simp) ?_
  refine AllReadyH.cons rfl (fun K' hK' => ?_) (AllReadyH.cons rfl (fun K' hK' => ?_) AllReadyH.nil)
  · skip
    go_simp
    have hSt := hS.alloc (Nat.le_refl _) (.cells #[.int .u8 5] 5)
    refine hK'.out _ _ hSt (fun hS => ?_)
    clear hK' K'
    refine wpAnyH_ready (rs := [6]) (by kernel_rfl) (by simp) ?_
    refine AllReadyH.cons rfl (fun K' hK' => ?_) AllReadyH.nil
    go_simp
    refine (two_any addr ha _).mono ?_
    rintro e wt0 ⟨rfl, hwt⟩
    have hbt : Below (wd.alloc (.cells #[.int .u8 5] 5)).heap.size (wd.alloc (.cells #[.int .u8 5] 5)) wt0 := by rw [hwt]; exact (Below.refl _ _).alloc (Nat.le_refl _) _
    have hst : SlI wt0 wt0.heap.size .u8 (some ⟨(wd.alloc (.cells #[.int .u8 5] 5)).heap.size, 0, none⟩) 2 2 (twoI addr) := by rw [hwt]; exact two_sl addr _
    have hSt := hS.trans (hbt.mono hS.size)
    have hzt := hSt.size
    have hown := own_up (lit_own wd.heap.size wd 5 (Nat.le_refl _)) hbt
    have hsl := hst
    rw [World.size_alloc] at hsl
    clear hwt
    go_simp
    refine hK'.out _ _ hSt (fun hS => ?_)
    clear hK' K'
    refine wpAnyH_ready (rs := [7]) (by kernel_rfl) (by simp) ?_
    refine AllReadyH.cons rfl (fun K' hK' => ?_) AllReadyH.nil
    refine step_append_lies _ (by rfl) _ _ _ (by rfl) wd.heap.size 5 i0 (.int .u8 0) 1 1 Tryd.underlying28 hi hz0 hz1' hz2' rfl (by decide) _ 1 _ (by rfl) hown ⟨wd.heap.size + 1, 0, none⟩ 2 2 ((twoI addr).map (Value.int .u8)) (by rfl) (by rfl) (news_of hsl.2.2.2.2) (ints_oneCell _ _) (by omega) (by unfold maxLen; omega) (by omega) hSt.size _ rfl ?_
    intro g0 c0 wa0 oa0 hgr _ _
    have hSa := hSt.grown hgr hSt.size (fun j hj => (hown.lt j hj).1)
    clear hgr hS
    refine hK'.out _ _ hSa (fun hS => ?_)
    clear hK' K'
    refine wpAnyH_take (i := 8) (v := ?v8_6) rfl (by kernel_rfl) (by kernel_rfl) (by kernel_rfl) (fun _ _ _ h => h) (Or.inl ⟨by rfl, ?y8_6⟩) hS ?r8_6
    case y8_6 =>
      rintro W hH
      have hPW := hPd.below hH hPd.lt
      have q0 : W.cell? ⟨w.heap.size, 0, none⟩ = some (.int .i64 5) := hPW.cell 0
      have q1 : W.cell? ⟨w.heap.size, 1, none⟩ = some (.int .i64 addr) := hPW.cell 1
      clear hPW
      go_simp
      with_reducible rfl
    simp only [Act.put]
    try simp only [List.getElem_toArray, List.getElem_cons_succ, List.getElem_cons_zero]
    try simp only [List.setIfInBounds_toArray, List.set_cons_succ, List.set_cons_zero]
    refine wpAnyH_done (by kernel_rfl) ?_ _
    have hP0 := hPd
    have Bwa0 : Below wd.heap.size wd wa0 := hS
    have Zwa0 := Bwa0.size
    have hPwa0 := hPd.below Bwa0 hPd.lt
    have lhPwa0 := hPwa0.lt
    have oa0' : wa0.ownsRow wd.heap.size 5 1 (.slice (some ⟨g0, 0, none⟩) (1 + 2) c0) (1 + 2) ((5 :: twoI addr).map (Value.int .u8)) := oa0
    clear oa0 hown hsl hst
    have hPwa00 : wa0.cell? ⟨w.heap.size, 0, none⟩ = some (.int .i64 5) := hPwa0.cell 0
    have hPwa01 : wa0.cell? ⟨w.heap.size, 1, none⟩ = some (.int .i64 addr) := hPwa0.cell 1
    have hPwa02 : wa0.cell? ⟨w.heap.size, 2, none⟩ = some (.int .i64 count) := hPwa0.cell 2
    have hPwa03 : wa0.cell? ⟨w.heap.size, 3, none⟩ = some (.int .i64 to) := hPwa0.cell 3
    have hPwa04 : wa0.cell? ⟨w.heap.size, 4, none⟩ = some (.slice A nb cb) := hPwa0.cell 4
    have hPwa05 : wa0.cell? ⟨w.heap.size, 5, none⟩ = some (.slice R nr cr) := hPwa0.cell 5
    obtain ⟨gb, ob, x, rfl, hgb, hxb, hcb⟩ := (HA.out wa0 (hbdw.trans (Bwa0.mono hbdw.size))).2.2.2.2.at_ (i := 0) (by rw [HLB.out]; exact hnb1)
    obtain rfl : x = false := by rw [HBT.out] at hxb; simpa using hxb.symm
    rw [Nat.add_zero] at hcb
    clear hxb
    go_wp2_with ((with_reducible refine at_append ?_); refine wpList_append_sl (wa0.alloc (.cells #[.int .u8 0, .int .u8 0] 5)) rfl _ _ 28 rfl wd.heap.size 5 i0 (.int .u8 0) 1 Tryd.underlying28 hi hz0 hz1' hz2' rfl (.slice (some ⟨g0, 0, none⟩) (1 + 2) c0) (1 + 2) _ rfl (oa0'.alloc (.cells #[.int .u8 0, .int .u8 0] 5)) (wa0.alloc (.cells #[.int .u8 0, .int .u8 0] 5)).heap.size .u8 (some ⟨wa0.heap.size, 0, none⟩) 2 2 [0, 0] rfl (SlI.of_lit (w := wa0) (T := 5) (cs := #[.int .u8 0, .int .u8 0]) rfl rfl (by omega)) (by unfold maxLen; omega) (by omega) (by rw [World.size_alloc]; omega) ?_; intro va1 wa1 oa1 hgr hlies; have Bwa1 : Below wd.heap.size wd wa1 := (Bwa0.alloc Zwa0 (.cells #[.int .u8 0, .int .u8 0] 5)).grown hgr (by rw [World.size_alloc]; omega) (fun j hj => (oa0'.lt j hj).1); have Zwa1 := Bwa1.size; have hPwa1 := hP0.below Bwa1 hP0.lt; have lhPwa1 := hPwa1.lt; have hPwa10 : wa1.cell? ⟨w.heap.size, 0, none⟩ = some (.int .i64 5) := hPwa1.cell 0; have hPwa11 : wa1.cell? ⟨w.heap.size, 1, none⟩ = some (.int .i64 addr) := hPwa1.cell 1; have hPwa12 : wa1.cell? ⟨w.heap.size, 2, none⟩ = some (.int .i64 count) := hPwa1.cell 2; have hPwa13 : wa1.cell? ⟨w.heap.size, 3, none⟩ = some (.int .i64 to) := hPwa1.cell 3; have hPwa14 : wa1.cell? ⟨w.heap.size, 4, none⟩ = some (.slice (some ⟨gb, ob, none⟩) nb cb) := hPwa1.cell 4; have hPwa15 : wa1.cell? ⟨w.heap.size, 5, none⟩ = some (.slice R nr cr) := hPwa1.cell 5; rw [← List.map_append] at oa1; have Ooa1 := Lib.hid oa1; clear hgr hlies)
    go_ret2
    exact bytes_post HM.out (by unfold bytesP; rw [HBT.out]; rfl) oa1 (hbdw.trans (Bwa1.mono hbdw.size))
  · skip
    go_simp
    refine (two_any addr ha _).mono ?_
    rintro e wt0 ⟨rfl, hwt⟩
    have hbt : Below wd.heap.size wd wt0 := by rw [hwt]; exact (Below.refl _ _).alloc (Nat.le_refl _) _
    have hst : SlI wt0 wt0.heap.size .u8 (some ⟨wd.heap.size, 0, none⟩) 2 2 (twoI addr) := by rw [hwt]; exact two_sl addr _
    have hSt := hS.trans (hbt.mono hS.size)
    have hzt := hSt.size
    clear hwt
    go_simp
    refine hK'.out _ _ hSt (fun hS => ?_)
    clear hK' K'
    refine wpAnyH_ready (rs := [3]) (by kernel_rfl) (by simp) ?_
    refine AllReadyH.cons rfl (fun K' hK' => ?_) AllReadyH.nil
    go_simp
    have hown := lit_own wd.heap.size wt0 5 hzt
    have hsl := hst.alloc (.cells #[.int .u8 5] 5)
    have hSt := hS.alloc hzt (.cells #[.int .u8 5] 5)
    refine hK'.out _ _ hSt (fun hS => ?_)
    clear hK' K'
    refine wpAnyH_ready (rs := [7]) (by kernel_rfl) (by simp) ?_
    refine AllReadyH.cons rfl (fun K' hK' => ?_) AllReadyH.nil
    refine step_append_lies _ (by rfl) _ _ _ (by rfl) wd.heap.size 5 i0 (.int .u8 0) 1 1 Tryd.underlying28 hi hz0 hz1' hz2' rfl (by decide) _ 1 _ (by rfl) hown ⟨wd.heap.size, 0, none⟩ 2 2 ((twoI addr).map (Value.int .u8)) (by rfl) (by rfl) (news_of hsl.2.2.2.2) (ints_oneCell _ _) (by omega) (by unfold maxLen; omega) (by omega) hSt.size _ rfl ?_
    intro g0 c0 wa0 oa0 hgr _ _
    have hSa := hSt.grown hgr hSt.size (fun j hj => (hown.lt j hj).1)
    clear hgr hS
    refine hK'.out _ _ hSa (fun hS => ?_)
    clear hK' K'
    refine wpAnyH_take (i := 8) (v := ?v8_7) rfl (by kernel_rfl) (by kernel_rfl) (by kernel_rfl) (fun _ _ _ h => h) (Or.inl ⟨by rfl, ?y8_7⟩) hS ?r8_7
    case y8_7 =>
      rintro W hH
      have hPW := hPd.below hH hPd.lt
      have q0 : W.cell? ⟨w.heap.size, 0, none⟩ = some (.int .i64 5) := hPW.cell 0
      have q1 : W.cell? ⟨w.heap.size, 1, none⟩ = some (.int .i64 addr) := hPW.cell 1
      clear hPW
      go_simp
      with_reducible rfl
    simp only [Act.put]
    try simp only [List.getElem_toArray, List.getElem_cons_succ, List.getElem_cons_zero]
    try simp only [List.setIfInBounds_toArray, List.set_cons_succ, List.set_cons_zero]
    refine wpAnyH_done (by kernel_rfl) ?_ _
    have hP0 := hPd
    have Bwa0 : Below wd.heap.size wd wa0 := hS
    have Zwa0 := Bwa0.size
    have hPwa0 := hPd.below Bwa0 hPd.lt
    have lhPwa0 := hPwa0.lt
    have oa0' : wa0.ownsRow wd.heap.size 5 1 (.slice (some ⟨g0, 0, none⟩) (1 + 2) c0) (1 + 2) ((5 :: twoI addr).map (Value.int .u8)) := oa0
    clear oa0 hown hsl hst
    have hPwa00 : wa0.cell? ⟨w.heap.size, 0, none⟩ = some (.int .i64 5) := hPwa0.cell 0
    have hPwa01 : wa0.cell? ⟨w.heap.size, 1, none⟩ = some (.int .i64 addr) := hPwa0.cell 1
    have hPwa02 : wa0.cell? ⟨w.heap.size, 2, none⟩ = some (.int .i64 count) := hPwa0.cell 2
    have hPwa03 : wa0.cell? ⟨w.heap.size, 3, none⟩ = some (.int .i64 to) := hPwa0.cell 3
    have hPwa04 : wa0.cell? ⟨w.heap.size, 4, none⟩ = some (.slice A nb cb) := hPwa0.cell 4
    have hPwa05 : wa0.cell? ⟨w.heap.size, 5, none⟩ = some (.slice R nr cr) := hPwa0.cell 5
    obtain ⟨gb, ob, x, rfl, hgb, hxb, hcb⟩ := (HA.out wa0 (hbdw.trans (Bwa0.mono hbdw.size))).2.2.2.2.at_ (i := 0) (by rw [HLB.out]; exact hnb1)
    obtain rfl : x = false := by rw [HBT.out] at hxb; simpa using hxb.symm
    rw [Nat.add_zero] at hcb
    clear hxb
    go_wp2_with ((with_reducible refine at_append ?_); refine wpList_append_sl (wa0.alloc (.cells #[.int .u8 0, .int .u8 0] 5)) rfl _ _ 28 rfl wd.heap.size 5 i0 (.int .u8 0) 1 Tryd.underlying28 hi hz0 hz1' hz2' rfl (.slice (some ⟨g0, 0, none⟩) (1 + 2) c0) (1 + 2) _ rfl (oa0'.alloc (.cells #[.int .u8 0, .int .u8 0] 5)) (wa0.alloc (.cells #[.int .u8 0, .int .u8 0] 5)).heap.size .u8 (some ⟨wa0.heap.size, 0, none⟩) 2 2 [0, 0] rfl (SlI.of_lit (w := wa0) (T := 5) (cs := #[.int .u8 0, .int .u8 0]) rfl rfl (by omega)) (by unfold maxLen; omega) (by omega) (by rw [World.size_alloc]; omega) ?_; intro va1 wa1 oa1 hgr hlies; have Bwa1 : Below wd.heap.size wd wa1 := (Bwa0.alloc Zwa0 (.cells #[.int .u8 0, .int .u8 0] 5)).grown hgr (by rw [World.size_alloc]; omega) (fun j hj => (oa0'.lt j hj).1); have Zwa1 := Bwa1.size; have hPwa1 := hP0.below Bwa1 hP0.lt; have lhPwa1 := hPwa1.lt; have hPwa10 : wa1.cell? ⟨w.heap.size, 0, none⟩ = some (.int .i64 5) := hPwa1.cell 0; have hPwa11 : wa1.cell? ⟨w.heap.size, 1, none⟩ = some (.int .i64 addr) := hPwa1.cell 1; have hPwa12 : wa1.cell? ⟨w.heap.size, 2, none⟩ = some (.int .i64 count) := hPwa1.cell 2; have hPwa13 : wa1.cell? ⟨w.heap.size, 3, none⟩ = some (.int .i64 to) := hPwa1.cell 3; have hPwa14 : wa1.cell? ⟨w.heap.size, 4, none⟩ = some (.slice (some ⟨gb, ob, none⟩) nb cb) := hPwa1.cell 4; have hPwa15 : wa1.cell? ⟨w.heap.size, 5, none⟩ = some (.slice R nr cr) := hPwa1.cell 5; rw [← List.map_append] at oa1; have Ooa1 := Lib.hid oa1; clear hgr hlies)
    go_ret2
    exact bytes_post HM.out (by unfold bytesP; rw [HBT.out]; rfl) oa1 (hbdw.trans (Bwa1.mono hbdw.size))

set_option maxRecDepth 100000 in
set_option maxHeartbeats 2000000 in
theorem rb_6 (fn addr count to : Int) (bits : List Bool) (regs : List Int) (A : Option Addr) (nb cb : Nat) (R : Option Addr) (nr cr : Nat) (w : World) (hA : SlB w w.heap.size A nb cb bits) (hR : SlI w w.heap.size .u16 R nr cr regs) (hm : mayP ⟨fn, addr, count, to, bits, regs⟩ = true) (hy : Reg16 regs) (ha : 0 ≤ addr ∧ addr < 65536) (hfn : fn = 6) (r : Int) (hregs : regs = [r]) : Calls Tryd.prog 20 #[.agg #[.int .i64 fn, .int .i64 addr, .int .i64 count, .int .i64 to, .slice A nb cb, .slice R nr cr]] w (BytesPost w ⟨fn, addr, count, to, bits, regs⟩) := by
  subst hfn
  have hr := hy r (by rw [hregs]; simp)
  have hnr1 : 0 < nr := by rw [← hR.1, hregs]; simp
  have HRT := Lib.hid hregs
  clear hregs
  obtain ⟨w1, hw1⟩ : ∃ w1, w.alloc (.cells #[.int .i64 6, .int .i64 addr, .int .i64 count, .int .i64 to, .slice A nb cb, .slice R nr cr] 25) = w1 := ⟨_, rfl⟩
  have hb1 : Below w.heap.size w w1 := by rw [← hw1]; exact (Below.refl _ w).alloc (Nat.le_refl _) _
  have hz1 : w1.heap.size = w.heap.size + 1 := by rw [← hw1]; simp
  have hP1 : Held w1 w.heap.size 25 #[.int .i64 6, .int .i64 addr, .int .i64 count, .int .i64 to, .slice A nb cb, .slice R nr cr] := by rw [← hw1]; exact Held.new _ _ _
  have hu := Tryd.underlying25
  have hsz : (Tryd.prog.info? 25).map (·.size) = some 6 := by kernel_rfl
  have hc := may_any (.agg #[.int .i64 6, .int .i64 addr, .int .i64 count, .int .i64 to, .slice A nb cb, .slice R nr cr]) ⟨6, addr, count, to, bits, regs⟩ w1 ⟨A, nb, cb, R, nr, cr, rfl, hA.up hb1, hR.up hb1⟩
  rw [hm] at hc
  have HC := Lib.hid hc
  clear hc
  obtain ⟨i0, hi, hz0, hz1', hz2'⟩ := info_parts infoU8
  have HM := Lib.hid hm
  have HA := Lib.hid (fun (X : World) (h : Below w.heap.size w X) => hA.up h)
  have HR := Lib.hid (fun (X : World) (h : Below w.heap.size w X) => hR.up h)
  have HLB := Lib.hid hA.1
  have HLR := Lib.hid hR.1
  clear hA hR hm
  have hf1 : True := by trivial
  have wr0 : True := by trivial
  go_in
  go_wp2_with ((with_reducible refine at_loadT 25 1 ?_); refine wpList_load_rowG rfl 25 (.tmp 1) rfl w.heap.size rfl 25 _ _ hP1 hu rfl hsz ?_)
  refine HC.out.mono ?_
  rintro e w2 ⟨rfl, hb2⟩
  go_wp2_with fail
  obtain ⟨wd, hwd⟩ : ∃ wd : World, w2.drew = wd := ⟨_, rfl⟩
  have hb2d : Below w1.heap.size w1 wd := by rw [← hwd]; exact hb2.drew
  have hPd := hP1.below hb2d hP1.lt
  have hld := hPd.lt
  have hbdw := hb1.trans (hb2d.mono (by omega))
  have hzd := hb2d.size
  refine wp_region_held (S := Below wd.heap.size wd) (by kernel_rfl) ?_
  change wpAnyH _ _ _ _ _ _ _ _ w2.drew
  rw [hwd]
  have hS := Below.refl wd.heap.size wd
  refine wpAnyH_take (i := 0) (v := ?v0_1) rfl (by kernel_rfl) (by kernel_rfl) (by kernel_rfl) (fun _ _ _ h => h) (Or.inl ⟨by rfl, ?y0_1⟩) hS ?r0_1
  case y0_1 =>
    rintro W hH
    have hPW := hPd.below hH hPd.lt
    have q0 : W.cell? ⟨w.heap.size, 0, none⟩ = some (.int .i64 6) := hPW.cell 0
    have q1 : W.cell? ⟨w.heap.size, 1, none⟩ = some (.int .i64 addr) := hPW.cell 1
    clear hPW
    go_simp
    with_reducible rfl
  simp only [Act.put]
  try simp only [List.getElem_toArray, List.getElem_cons_zero]
  try simp only [List.setIfInBounds_toArray, List.set_cons_succ, List.set_cons_zero]
  refine wpAnyH_take (i := 1) (v := ?v1_2) rfl (by kernel_rfl) (by kernel_rfl) (by kernel_rfl) (fun _ _ _ h => h) (Or.inl ⟨by rfl, ?y1_2⟩) hS ?r1_2
  case y1_2 =>
    rintro W hH
    have hPW := hPd.below hH hPd.lt
    have q0 : W.cell? ⟨w.heap.size, 0, none⟩ = some (.int .i64 6) := hPW.cell 0
    have q1 : W.cell? ⟨w.heap.size, 1, none⟩ = some (.int .i64 addr) := hPW.cell 1
    clear hPW
    go_simp
    with_reducible rfl
  simp only [Act.put]
  try simp only [List.getElem_toArray, List.getElem_cons_succ, List.getElem_cons_zero]
  try simp only [List.setIfInBounds_toArray, List.set_cons_succ, List.set_cons_zero]
  refine wpAnyH_take (i := 2) (v := ?v2_3) rfl (by kernel_rfl) (by kernel_rfl) (by kernel_rfl) (fun _ _ _ h => h) (Or.inl ⟨by rfl, ?y2_3⟩) hS ?r2_3
  case y2_3 =>
    rintro W hH
    have hPW := hPd.below hH hPd.lt
    have q0 : W.cell? ⟨w.heap.size, 0, none⟩ = some (.int .i64 6) := hPW.cell 0
    have q1 : W.cell? ⟨w.heap.size, 1, none⟩ = some (.int .i64 addr) := hPW.cell 1
    clear hPW
    go_simp
    with_reducible rfl
  simp only [Act.put]
  try simp only [List.getElem_toArray, List.getElem_cons_succ, List.getElem_cons_zero]
  try simp only [List.setIfInBounds_toArray, List.set_cons_succ, List.set_cons_zero]
  refine wpAnyH_take (i := 4) (v := ?v4_4) rfl (by kernel_rfl) (by kernel_rfl) (by kernel_rfl) (fun _ _ _ h => h) (Or.inl ⟨by rfl, ?y4_4⟩) hS ?r4_4
  case y4_4 =>
    rintro W hH
    have hPW := hPd.below hH hPd.lt
    have q0 : W.cell? ⟨w.heap.size, 0, none⟩ = some (.int .i64 6) := hPW.cell 0
    have q1 : W.cell? ⟨w.heap.size, 1, none⟩ = some (.int .i64 addr) := hPW.cell 1
    clear hPW
    go_simp
    with_reducible rfl
  simp only [Act.put]
  try simp only [List.getElem_toArray, List.getElem_cons_succ, List.getElem_cons_zero]
  try simp only [List.setIfInBounds_toArray, List.set_cons_succ, List.set_cons_zero]
  refine wpAnyH_take (i := 5) (v := ?v5_5) rfl (by kernel_rfl) (by kernel_rfl) (by kernel_rfl) (fun _ _ _ h => h) (Or.inl ⟨by rfl, ?y5_5⟩) hS ?r5_5
  case y5_5 =>
    rintro W hH
    have hPW := hPd.below hH hPd.lt
    have q0 : W.cell? ⟨w.heap.size, 0, none⟩ = some (.int .i64 6) := hPW.cell 0
    have q1 : W.cell? ⟨w.heap.size, 1, none⟩ = some (.int .i64 addr) := hPW.cell 1
    clear hPW
    go_simp
    with_reducible rfl
  simp only [Act.put]
  try simp only [List.getElem_toArray, List.getElem_cons_succ, List.getElem_cons_zero]
  try simp only [List.setIfInBounds_toArray, List.set_cons_succ, List.set_cons_zero]
  refine wpAnyH_ready (rs := [3, 6]) (by kernel_rfl) (by simp) ?_
  refine AllReadyH.cons rfl (fun K' hK' => ?_) (AllReadyH.cons rfl (fun K' hK' => ?_) AllReadyH.nil)
  · skip
    go_simp
    have hSt := hS.alloc (Nat.le_refl _) (.cells #[.int .u8 6] 5)
    refine hK'.out _ _ hSt (fun hS => ?_)
    clear hK' K'
    refine wpAnyH_ready (rs := [6]) (by kernel_rfl) (by simp) ?_
    refine AllReadyH.cons rfl (fun K' hK' => ?_) AllReadyH.nil
    go_simp
    refine (two_any addr ha _).mono ?_
    rintro e wt0 ⟨rfl, hwt⟩
    have hbt : Below (wd.alloc (.cells #[.int .u8 6] 5)).heap.size (wd.alloc (.cells #[.int .u8 6] 5)) wt0 := by rw [hwt]; exact (Below.refl _ _).alloc (Nat.le_refl _) _
    have hst : SlI wt0 wt0.heap.size .u8 (some ⟨(wd.alloc (.cells #[.int .u8 6] 5)).heap.size, 0, none⟩) 2 2 (twoI addr) := by rw [hwt]; exact two_sl addr _
    have hSt := hS.trans (hbt.mono hS.size)
    have hzt := hSt.size
    have hown := own_up (lit_own wd.heap.size wd 6 (Nat.le_refl _)) hbt
    have hsl := hst
    rw [World.size_alloc] at hsl
    clear hwt
    go_simp
    refine hK'.out _ _ hSt (fun hS => ?_)
    clear hK' K'
    refine wpAnyH_ready (rs := [7]) (by kernel_rfl) (by simp) ?_
    refine AllReadyH.cons rfl (fun K' hK' => ?_) AllReadyH.nil
    refine step_append_lies _ (by rfl) _ _ _ (by rfl) wd.heap.size 5 i0 (.int .u8 0) 1 1 Tryd.underlying28 hi hz0 hz1' hz2' rfl (by decide) _ 1 _ (by rfl) hown ⟨wd.heap.size + 1, 0, none⟩ 2 2 ((twoI addr).map (Value.int .u8)) (by rfl) (by rfl) (news_of hsl.2.2.2.2) (ints_oneCell _ _) (by omega) (by unfold maxLen; omega) (by omega) hSt.size _ rfl ?_
    intro g0 c0 wa0 oa0 hgr _ _
    have hSa := hSt.grown hgr hSt.size (fun j hj => (hown.lt j hj).1)
    clear hgr hS
    refine hK'.out _ _ hSa (fun hS => ?_)
    clear hK' K'
    refine wpAnyH_take (i := 8) (v := ?v8_6) rfl (by kernel_rfl) (by kernel_rfl) (by kernel_rfl) (fun _ _ _ h => h) (Or.inl ⟨by rfl, ?y8_6⟩) hS ?r8_6
    case y8_6 =>
      rintro W hH
      have hPW := hPd.below hH hPd.lt
      have q0 : W.cell? ⟨w.heap.size, 0, none⟩ = some (.int .i64 6) := hPW.cell 0
      have q1 : W.cell? ⟨w.heap.size, 1, none⟩ = some (.int .i64 addr) := hPW.cell 1
      clear hPW
      go_simp
      with_reducible rfl
    simp only [Act.put]
    try simp only [List.getElem_toArray, List.getElem_cons_succ, List.getElem_cons_zero]
    try simp only [List.setIfInBounds_toArray, List.set_cons_succ, List.set_cons_zero]
    refine wpAnyH_done (by kernel_rfl) ?_ _
    have hP0 := hPd
    have Bwa0 : Below wd.heap.size wd wa0 := hS
    have Zwa0 := Bwa0.size
    have hPwa0 := hPd.below Bwa0 hPd.lt
    have lhPwa0 := hPwa0.lt
    have oa0' : wa0.ownsRow wd.heap.size 5 1 (.slice (some ⟨g0, 0, none⟩) (1 + 2) c0) (1 + 2) ((6 :: twoI addr).map (Value.int .u8)) := oa0
    clear oa0 hown hsl hst
    have hPwa00 : wa0.cell? ⟨w.heap.size, 0, none⟩ = some (.int .i64 6) := hPwa0.cell 0
    have hPwa01 : wa0.cell? ⟨w.heap.size, 1, none⟩ = some (.int .i64 addr) := hPwa0.cell 1
    have hPwa02 : wa0.cell? ⟨w.heap.size, 2, none⟩ = some (.int .i64 count) := hPwa0.cell 2
    have hPwa03 : wa0.cell? ⟨w.heap.size, 3, none⟩ = some (.int .i64 to) := hPwa0.cell 3
    have hPwa04 : wa0.cell? ⟨w.heap.size, 4, none⟩ = some (.slice A nb cb) := hPwa0.cell 4
    have hPwa05 : wa0.cell? ⟨w.heap.size, 5, none⟩ = some (.slice R nr cr) := hPwa0.cell 5
    obtain ⟨gb, ob, x, rfl, hgb, hxb, hcb⟩ := (HR.out wa0 (hbdw.trans (Bwa0.mono hbdw.size))).2.2.2.2.at_ (i := 0) (by rw [HLR.out]; exact hnr1)
    obtain rfl : r = x := by rw [HRT.out] at hxb; simpa using hxb
    rw [Nat.add_zero] at hcb
    obtain ⟨r0, r1⟩ := id hr
    clear hxb
    have HT1 := Lib.hid (two_any r hr wa0)
    go_wp2_with fail
    refine HT1.out.mono ?_
    rintro e wt1 ⟨rfl, hwt⟩
    have hbwt1 : Below wa0.heap.size wa0 wt1 := by rw [hwt]; exact (Below.refl _ wa0).alloc (Nat.le_refl _) _
    have st1 : SlI wt1 wt1.heap.size .u8 (some ⟨wa0.heap.size, 0, none⟩) 2 2 (twoI r) := by rw [hwt]; exact two_sl r wa0
    have ot1 := own_up oa0' hbwt1
    clear hwt
    have hzwt1 : wa0.heap.size ≤ wt1.heap.size := hbwt1.size
    have Bwt1 : Below wd.heap.size wd wt1 := Bwa0.trans (hbwt1.mono Bwa0.size)
    have Zwt1 := Bwt1.size
    have hPwt1 := hPwa0.below hbwt1 hPwa0.lt
    have lhPwt1 := hPwt1.lt
    have hPwt10 : wt1.cell? ⟨w.heap.size, 0, none⟩ = some (.int .i64 6) := hPwt1.cell 0
    have hPwt11 : wt1.cell? ⟨w.heap.size, 1, none⟩ = some (.int .i64 addr) := hPwt1.cell 1
    have hPwt12 : wt1.cell? ⟨w.heap.size, 2, none⟩ = some (.int .i64 count) := hPwt1.cell 2
    have hPwt13 : wt1.cell? ⟨w.heap.size, 3, none⟩ = some (.int .i64 to) := hPwt1.cell 3
    have hPwt14 : wt1.cell? ⟨w.heap.size, 4, none⟩ = some (.slice A nb cb) := hPwt1.cell 4
    have hPwt15 : wt1.cell? ⟨w.heap.size, 5, none⟩ = some (.slice (some ⟨gb, ob, none⟩) nr cr) := hPwt1.cell 5
    go_wp2_with ((with_reducible refine at_append ?_); refine wpList_append_sl wt1 rfl _ _ 28 rfl wd.heap.size 5 i0 (.int .u8 0) 1 Tryd.underlying28 hi hz0 hz1' hz2' rfl (.slice (some ⟨g0, 0, none⟩) (1 + 2) c0) (1 + 2) _ rfl ot1 wt1.heap.size .u8 (some ⟨wa0.heap.size, 0, none⟩) 2 2 (twoI r) rfl st1 (by unfold maxLen; omega) (by omega) Zwt1 ?_; intro va2 wa2 oa2 hgr hlies; have Bwa2 : Below wd.heap.size wd wa2 := Bwt1.grown hgr Zwt1 (fun j hj => (ot1.lt j hj).1); have Zwa2 := Bwa2.size; have hPwa2 := hP0.below Bwa2 hP0.lt; have lhPwa2 := hPwa2.lt; have hPwa20 : wa2.cell? ⟨w.heap.size, 0, none⟩ = some (.int .i64 6) := hPwa2.cell 0; have hPwa21 : wa2.cell? ⟨w.heap.size, 1, none⟩ = some (.int .i64 addr) := hPwa2.cell 1; have hPwa22 : wa2.cell? ⟨w.heap.size, 2, none⟩ = some (.int .i64 count) := hPwa2.cell 2; have hPwa23 : wa2.cell? ⟨w.heap.size, 3, none⟩ = some (.int .i64 to) := hPwa2.cell 3; have hPwa24 : wa2.cell? ⟨w.heap.size, 4, none⟩ = some (.slice A nb cb) := hPwa2.cell 4; have hPwa25 : wa2.cell? ⟨w.heap.size, 5, none⟩ = some (.slice (some ⟨gb, ob, none⟩) nr cr) := hPwa2.cell 5; rw [← List.map_append] at oa2; have Ooa2 := Lib.hid oa2; clear hgr hlies)
    go_ret2
    exact bytes_post HM.out (by unfold bytesP; rw [HRT.out]; rfl) oa2 (hbdw.trans (Bwa2.mono hbdw.size))
  · skip
    go_simp
    refine (two_any addr ha _).mono ?_
    rintro e wt0 ⟨rfl, hwt⟩
    have hbt : Below wd.heap.size wd wt0 := by rw [hwt]; exact (Below.refl _ _).alloc (Nat.le_refl _) _
    have hst : SlI wt0 wt0.heap.size .u8 (some ⟨wd.heap.size, 0, none⟩) 2 2 (twoI addr) := by rw [hwt]; exact two_sl addr _
    have hSt := hS.trans (hbt.mono hS.size)
    have hzt := hSt.size
    clear hwt
    go_simp
    refine hK'.out _ _ hSt (fun hS => ?_)
    clear hK' K'
    refine wpAnyH_ready (rs := [3]) (by kernel_rfl) (by simp) ?_
    refine AllReadyH.cons rfl (fun K' hK' => ?_) AllReadyH.nil
    go_simp
    have hown := lit_own wd.heap.size wt0 6 hzt
    have hsl := hst.alloc (.cells #[.int .u8 6] 5)
    have hSt := hS.alloc hzt (.cells #[.int .u8 6] 5)
    refine hK'.out _ _ hSt (fun hS => ?_)
    clear hK' K'
    refine wpAnyH_ready (rs := [7]) (by kernel_rfl) (by simp) ?_
    refine AllReadyH.cons rfl (fun K' hK' => ?_) AllReadyH.nil
    refine step_append_lies _ (by rfl) _ _ _ (by rfl) wd.heap.size 5 i0 (.int .u8 0) 1 1 Tryd.underlying28 hi hz0 hz1' hz2' rfl (by decide) _ 1 _ (by rfl) hown ⟨wd.heap.size, 0, none⟩ 2 2 ((twoI addr).map (Value.int .u8)) (by rfl) (by rfl) (news_of hsl.2.2.2.2) (ints_oneCell _ _) (by omega) (by unfold maxLen; omega) (by omega) hSt.size _ rfl ?_
    intro g0 c0 wa0 oa0 hgr _ _
    have hSa := hSt.grown hgr hSt.size (fun j hj => (hown.lt j hj).1)
    clear hgr hS
    refine hK'.out _ _ hSa (fun hS => ?_)
    clear hK' K'
    refine wpAnyH_take (i := 8) (v := ?v8_7) rfl (by kernel_rfl) (by kernel_rfl) (by kernel_rfl) (fun _ _ _ h => h) (Or.inl ⟨by rfl, ?y8_7⟩) hS ?r8_7
    case y8_7 =>
      rintro W hH
      have hPW := hPd.below hH hPd.lt
      have q0 : W.cell? ⟨w.heap.size, 0, none⟩ = some (.int .i64 6) := hPW.cell 0
      have q1 : W.cell? ⟨w.heap.size, 1, none⟩ = some (.int .i64 addr) := hPW.cell 1
      clear hPW
      go_simp
      with_reducible rfl
    simp only [Act.put]
    try simp only [List.getElem_toArray, List.getElem_cons_succ, List.getElem_cons_zero]
    try simp only [List.setIfInBounds_toArray, List.set_cons_succ, List.set_cons_zero]
    refine wpAnyH_done (by kernel_rfl) ?_ _
    have hP0 := hPd
    have Bwa0 : Below wd.heap.size wd wa0 := hS
    have Zwa0 := Bwa0.size
    have hPwa0 := hPd.below Bwa0 hPd.lt
    have lhPwa0 := hPwa0.lt
    have oa0' : wa0.ownsRow wd.heap.size 5 1 (.slice (some ⟨g0, 0, none⟩) (1 + 2) c0) (1 + 2) ((6 :: twoI addr).map (Value.int .u8)) := oa0
    clear oa0 hown hsl hst
    have hPwa00 : wa0.cell? ⟨w.heap.size, 0, none⟩ = some (.int .i64 6) := hPwa0.cell 0
    have hPwa01 : wa0.cell? ⟨w.heap.size, 1, none⟩ = some (.int .i64 addr) := hPwa0.cell 1
    have hPwa02 : wa0.cell? ⟨w.heap.size, 2, none⟩ = some (.int .i64 count) := hPwa0.cell 2
    have hPwa03 : wa0.cell? ⟨w.heap.size, 3, none⟩ = some (.int .i64 to) := hPwa0.cell 3
    have hPwa04 : wa0.cell? ⟨w.heap.size, 4, none⟩ = some (.slice A nb cb) := hPwa0.cell 4
    have hPwa05 : wa0.cell? ⟨w.heap.size, 5, none⟩ = some (.slice R nr cr) := hPwa0.cell 5
    obtain ⟨gb, ob, x, rfl, hgb, hxb, hcb⟩ := (HR.out wa0 (hbdw.trans (Bwa0.mono hbdw.size))).2.2.2.2.at_ (i := 0) (by rw [HLR.out]; exact hnr1)
    obtain rfl : r = x := by rw [HRT.out] at hxb; simpa using hxb
    rw [Nat.add_zero] at hcb
    obtain ⟨r0, r1⟩ := id hr
    clear hxb
    have HT1 := Lib.hid (two_any r hr wa0)
    go_wp2_with fail
    refine HT1.out.mono ?_
    rintro e wt1 ⟨rfl, hwt⟩
    have hbwt1 : Below wa0.heap.size wa0 wt1 := by rw [hwt]; exact (Below.refl _ wa0).alloc (Nat.le_refl _) _
    have st1 : SlI wt1 wt1.heap.size .u8 (some ⟨wa0.heap.size, 0, none⟩) 2 2 (twoI r) := by rw [hwt]; exact two_sl r wa0
    have ot1 := own_up oa0' hbwt1
    clear hwt
    have hzwt1 : wa0.heap.size ≤ wt1.heap.size := hbwt1.size
    have Bwt1 : Below wd.heap.size wd wt1 := Bwa0.trans (hbwt1.mono Bwa0.size)
    have Zwt1 := Bwt1.size
    have hPwt1 := hPwa0.below hbwt1 hPwa0.lt
    have lhPwt1 := hPwt1.lt
    have hPwt10 : wt1.cell? ⟨w.heap.size, 0, none⟩ = some (.int .i64 6) := hPwt1.cell 0
    have hPwt11 : wt1.cell? ⟨w.heap.size, 1, none⟩ = some (.int .i64 addr) := hPwt1.cell 1
    have hPwt12 : wt1.cell? ⟨w.heap.size, 2, none⟩ = some (.int .i64 count) := hPwt1.cell 2
    have hPwt13 : wt1.cell? ⟨w.heap.size, 3, none⟩ = some (.int .i64 to) := hPwt1.cell 3
    have hPwt14 : wt1.cell? ⟨w.heap.size, 4, none⟩ = some (.slice A nb cb) := hPwt1.cell 4
    have hPwt15 : wt1.cell? ⟨w.heap.size, 5, none⟩ = some (.slice (some ⟨gb, ob, none⟩) nr cr) := hPwt1.cell 5
    go_wp2_with ((with_reducible refine at_append ?_); refine wpList_append_sl wt1 rfl _ _ 28 rfl wd.heap.size 5 i0 (.int .u8 0) 1 Tryd.underlying28 hi hz0 hz1' hz2' rfl (.slice (some ⟨g0, 0, none⟩) (1 + 2) c0) (1 + 2) _ rfl ot1 wt1.heap.size .u8 (some ⟨wa0.heap.size, 0, none⟩) 2 2 (twoI r) rfl st1 (by unfold maxLen; omega) (by omega) Zwt1 ?_; intro va2 wa2 oa2 hgr hlies; have Bwa2 : Below wd.heap.size wd wa2 := Bwt1.grown hgr Zwt1 (fun j hj => (ot1.lt j hj).1); have Zwa2 := Bwa2.size; have hPwa2 := hP0.below Bwa2 hP0.lt; have lhPwa2 := hPwa2.lt; have hPwa20 : wa2.cell? ⟨w.heap.size, 0, none⟩ = some (.int .i64 6) := hPwa2.cell 0; have hPwa21 : wa2.cell? ⟨w.heap.size, 1, none⟩ = some (.int .i64 addr) := hPwa2.cell 1; have hPwa22 : wa2.cell? ⟨w.heap.size, 2, none⟩ = some (.int .i64 count) := hPwa2.cell 2; have hPwa23 : wa2.cell? ⟨w.heap.size, 3, none⟩ = some (.int .i64 to) := hPwa2.cell 3; have hPwa24 : wa2.cell? ⟨w.heap.size, 4, none⟩ = some (.slice A nb cb) := hPwa2.cell 4; have hPwa25 : wa2.cell? ⟨w.heap.size, 5, none⟩ = some (.slice (some ⟨gb, ob, none⟩) nr cr) := hPwa2.cell 5; rw [← List.map_append] at oa2; have Ooa2 := Lib.hid oa2; clear hgr hlies)
    go_ret2
    exact bytes_post HM.out (by unfold bytesP; rw [HRT.out]; rfl) oa2 (hbdw.trans (Bwa2.mono hbdw.size))

end Go.Proofs.YtflbiichdjhaeaaDoor
