/- kilowattref19.Bytes: 15. -/
import Derived.Test.YtflbiichdjhaeaaDoorPduMay
import Derived.Test.YtflbiichdjhaeaaDoorPduBytes
namespace Go.Proofs.YtflbiichdjhaeaaDoor
open Go.RowKit
set_option linter.unusedVariables false

set_option maxRecDepth 100000 in
set_option maxHeartbeats 2000000 in
theorem rb_15 (fn addr count to : Int) (bits : List Bool) (regs : List Int) (A : Option Addr) (nb cb : Nat) (R : Option Addr) (nr cr : Nat) (w : World) (hA : SlB w w.heap.size A nb cb bits) (hR : SlI w w.heap.size .u16 R nr cr regs) (hm : mayP ⟨fn, addr, count, to, bits, regs⟩ = true) (hy : Reg16 regs) (ha : 0 ≤ addr ∧ addr < 65536) (hfn : fn = 15) (hnb : 1 ≤ nb ∧ nb ≤ 1968) : Calls Tryd.prog 20 #[.agg #[.int .i64 fn, .int .i64 addr, .int .i64 count, .int .i64 to, .slice A nb cb, .slice R nr cr]] w (BytesPost w ⟨fn, addr, count, to, bits, regs⟩) := by
  subst hfn
  obtain ⟨nb0, nb1⟩ := hnb
  have hpl : (packN bits).length ≤ 247 := by rw [packN_len, hA.1]; omega
  have hpos : 0 < (packN bits).length := by rw [packN_len, hA.1]; omega
  have hpm : ((packN bits).length : Int) % 256 = (packN bits).length := by omega
  obtain ⟨w1, hw1⟩ : ∃ w1, w.alloc (.cells #[.int .i64 15, .int .i64 addr, .int .i64 count, .int .i64 to, .slice A nb cb, .slice R nr cr] 25) = w1 := ⟨_, rfl⟩
  have hb1 : Below w.heap.size w w1 := by rw [← hw1]; exact (Below.refl _ w).alloc (Nat.le_refl _) _
  have hz1 : w1.heap.size = w.heap.size + 1 := by rw [← hw1]; simp
  have hP1 : Held w1 w.heap.size 25 #[.int .i64 15, .int .i64 addr, .int .i64 count, .int .i64 to, .slice A nb cb, .slice R nr cr] := by rw [← hw1]; exact Held.new _ _ _
  have hu := Tryd.underlying25
  have hsz : (Tryd.prog.info? 25).map (·.size) = some 6 := by kernel_rfl
  have hc := may_any (.agg #[.int .i64 15, .int .i64 addr, .int .i64 count, .int .i64 to, .slice A nb cb, .slice R nr cr]) ⟨15, addr, count, to, bits, regs⟩ w1 ⟨A, nb, cb, R, nr, cr, rfl, hA.up hb1, hR.up hb1⟩
  rw [hm] at hc
  have HC := Lib.hid hc
  clear hc
  obtain ⟨i0, hi, hz0, hz1', hz2'⟩ := info_parts infoU8
  have HM := Lib.hid hm
  have HA := Lib.hid (fun (X : World) (h : Below w.heap.size w X) => hA.up h)
  have HR := Lib.hid (fun (X : World) (h : Below w.heap.size w X) => hR.up h)
  have HLB := Lib.hid hA.1
  have HLR := Lib.hid hR.1
  clear hA hR hm
  have hf1 : True := by trivial
  have wr0 : True := by trivial
  go_in
  go_wp2_with ((with_reducible refine at_loadT 25 1 ?_); refine wpList_load_rowG rfl 25 (.tmp 1) rfl w.heap.size rfl 25 _ _ hP1 hu rfl hsz ?_)
  refine HC.out.mono ?_
  rintro e w2 ⟨rfl, hb2⟩
  go_wp2_with fail
  obtain ⟨wd, hwd⟩ : ∃ wd : World, w2.drew = wd := ⟨_, rfl⟩
  have hb2d : Below w1.heap.size w1 wd := by rw [← hwd]; exact hb2.drew
  have hPd := hP1.below hb2d hP1.lt
  have hld := hPd.lt
  have hbdw := hb1.trans (hb2d.mono (by omega))
  have hzd := hb2d.size
  refine wp_region_held (S := Below wd.heap.size wd) (by kernel_rfl) ?_
  change wpAnyH _ _ _ _ _ _ _ _ w2.drew
  rw [hwd]
  have hS := Below.refl wd.heap.size wd
  refine wpAnyH_take (i := 0) (v := ?v0_1) rfl (by kernel_rfl) (by kernel_rfl) (by kernel_rfl) (fun _ _ _ h => h) (Or.inl ⟨by rfl, ?y0_1⟩) hS ?r0_1
  case y0_1 =>
    rintro W hH
    have hPW := hPd.below hH hPd.lt
    have q0 : W.cell? ⟨w.heap.size, 0, none⟩ = some (.int .i64 15) := hPW.cell 0
    have q1 : W.cell? ⟨w.heap.size, 1, none⟩ = some (.int .i64 addr) := hPW.cell 1
    clear hPW
    go_simp
    with_reducible rfl
  simp only [Act.put]
  try simp only [List.getElem_toArray, List.getElem_cons_zero]
  try simp only [List.setIfInBounds_toArray, List.set_cons_succ, List.set_cons_zero]
  refine wpAnyH_take (i := 1) (v := ?v1_2) rfl (by kernel_rfl) (by kernel_rfl) (by kernel_rfl) (fun _ _ _ h => h) (Or.inl ⟨by rfl, ?y1_2⟩) hS ?r1_2
  case y1_2 =>
    rintro W hH
    have hPW := hPd.below hH hPd.lt
    have q0 : W.cell? ⟨w.heap.size, 0, none⟩ = some (.int .i64 15) := hPW.cell 0
    have q1 : W.cell? ⟨w.heap.size, 1, none⟩ = some (.int .i64 addr) := hPW.cell 1
    clear hPW
    go_simp
    with_reducible rfl
  simp only [Act.put]
  try simp only [List.getElem_toArray, List.getElem_cons_succ, List.getElem_cons_zero]
  try simp only [List.setIfInBounds_toArray, List.set_cons_succ, List.set_cons_zero]
  refine wpAnyH_take (i := 2) (v := ?v2_3) rfl (by kernel_rfl) (by kernel_rfl) (by kernel_rfl) (fun _ _ _ h => h) (Or.inl ⟨by rfl, ?y2_3⟩) hS ?r2_3
  case y2_3 =>
    rintro W hH
    have hPW := hPd.below hH hPd.lt
    have q0 : W.cell? ⟨w.heap.size, 0, none⟩ = some (.int .i64 15) := hPW.cell 0
    have q1 : W.cell? ⟨w.heap.size, 1, none⟩ = some (.int .i64 addr) := hPW.cell 1
    clear hPW
    go_simp
    with_reducible rfl
  simp only [Act.put]
  try simp only [List.getElem_toArray, List.getElem_cons_succ, List.getElem_cons_zero]
  try simp only [List.setIfInBounds_toArray, List.set_cons_succ, List.set_cons_zero]
  refine wpAnyH_take (i := 4) (v := ?v4_4) rfl (by kernel_rfl) (by kernel_rfl) (by kernel_rfl) (fun _ _ _ h => h) (Or.inl ⟨by rfl, ?y4_4⟩) hS ?r4_4
  case y4_4 =>
    rintro W hH
    have hPW := hPd.below hH hPd.lt
    have q0 : W.cell? ⟨w.heap.size, 0, none⟩ = some (.int .i64 15) := hPW.cell 0
    have q1 : W.cell? ⟨w.heap.size, 1, none⟩ = some (.int .i64 addr) := hPW.cell 1
    clear hPW
    go_simp
    with_reducible rfl
  simp only [Act.put]
  try simp only [List.getElem_toArray, List.getElem_cons_succ, List.getElem_cons_zero]
  try simp only [List.setIfInBounds_toArray, List.set_cons_succ, List.set_cons_zero]
  refine wpAnyH_take (i := 5) (v := ?v5_5) rfl (by kernel_rfl) (by kernel_rfl) (by kernel_rfl) (fun _ _ _ h => h) (Or.inl ⟨by rfl, ?y5_5⟩) hS ?r5_5
  case y5_5 =>
    rintro W hH
    have hPW := hPd.below hH hPd.lt
    have q0 : W.cell? ⟨w.heap.size, 0, none⟩ = some (.int .i64 15) := hPW.cell 0
    have q1 : W.cell? ⟨w.heap.size, 1, none⟩ = some (.int .i64 addr) := hPW.cell 1
    clear hPW
    go_simp
    with_reducible rfl
  simp only [Act.put]
  try simp only [List.getElem_toArray, List.getElem_cons_succ, List.getElem_cons_zero]
  try simp only [List.setIfInBounds_toArray, List.set_cons_succ, List.set_cons_zero]
  refine wpAnyH_ready (rs := [3, 6]) (by kernel_rfl) (by simp) ?_
  refine AllReadyH.cons rfl (fun K' hK' => ?_) (AllReadyH.cons rfl (fun K' hK' => ?_) AllReadyH.nil)
  · skip
    go_simp
    have hSt := hS.alloc (Nat.le_refl _) (.cells #[.int .u8 15] 5)
    refine hK'.out _ _ hSt (fun hS => ?_)
    clear hK' K'
    refine wpAnyH_ready (rs := [6]) (by kernel_rfl) (by simp) ?_
    refine AllReadyH.cons rfl (fun K' hK' => ?_) AllReadyH.nil
    go_simp
    refine (two_any addr ha _).mono ?_
    rintro e wt0 ⟨rfl, hwt⟩
    have hbt : Below (wd.alloc (.cells #[.int .u8 15] 5)).heap.size (wd.alloc (.cells #[.int .u8 15] 5)) wt0 := by rw [hwt]; exact (Below.refl _ _).alloc (Nat.le_refl _) _
    have hst : SlI wt0 wt0.heap.size .u8 (some ⟨(wd.alloc (.cells #[.int .u8 15] 5)).heap.size, 0, none⟩) 2 2 (twoI addr) := by rw [hwt]; exact two_sl addr _
    have hSt := hS.trans (hbt.mono hS.size)
    have hzt := hSt.size
    have hown := own_up (lit_own wd.heap.size wd 15 (Nat.le_refl _)) hbt
    have hsl := hst
    rw [World.size_alloc] at hsl
    clear hwt
    go_simp
    refine hK'.out _ _ hSt (fun hS => ?_)
    clear hK' K'
    refine wpAnyH_ready (rs := [7]) (by kernel_rfl) (by simp) ?_
    refine AllReadyH.cons rfl (fun K' hK' => ?_) AllReadyH.nil
    refine step_append_lies _ (by rfl) _ _ _ (by rfl) wd.heap.size 5 i0 (.int .u8 0) 1 1 Tryd.underlying28 hi hz0 hz1' hz2' rfl (by decide) _ 1 _ (by rfl) hown ⟨wd.heap.size + 1, 0, none⟩ 2 2 ((twoI addr).map (Value.int .u8)) (by rfl) (by rfl) (news_of hsl.2.2.2.2) (ints_oneCell _ _) (by omega) (by unfold maxLen; omega) (by omega) hSt.size _ rfl ?_
    intro g0 c0 wa0 oa0 hgr _ _
    have hSa := hSt.grown hgr hSt.size (fun j hj => (hown.lt j hj).1)
    clear hgr hS
    refine hK'.out _ _ hSa (fun hS => ?_)
    clear hK' K'
    refine wpAnyH_take (i := 8) (v := ?v8_6) rfl (by kernel_rfl) (by kernel_rfl) (by kernel_rfl) (fun _ _ _ h => h) (Or.inl ⟨by rfl, ?y8_6⟩) hS ?r8_6
    case y8_6 =>
      rintro W hH
      have hPW := hPd.below hH hPd.lt
      have q0 : W.cell? ⟨w.heap.size, 0, none⟩ = some (.int .i64 15) := hPW.cell 0
      have q1 : W.cell? ⟨w.heap.size, 1, none⟩ = some (.int .i64 addr) := hPW.cell 1
      clear hPW
      go_simp
      with_reducible rfl
    simp only [Act.put]
    try simp only [List.getElem_toArray, List.getElem_cons_succ, List.getElem_cons_zero]
    try simp only [List.setIfInBounds_toArray, List.set_cons_succ, List.set_cons_zero]
    refine wpAnyH_done (by kernel_rfl) ?_ _
    have hP0 := hPd
    have Bwa0 : Below wd.heap.size wd wa0 := hS
    have Zwa0 := Bwa0.size
    have hPwa0 := hPd.below Bwa0 hPd.lt
    have lhPwa0 := hPwa0.lt
    have oa0' : wa0.ownsRow wd.heap.size 5 1 (.slice (some ⟨g0, 0, none⟩) (1 + 2) c0) (1 + 2) ((15 :: twoI addr).map (Value.int .u8)) := oa0
    clear oa0 hown hsl hst
    have hPwa00 : wa0.cell? ⟨w.heap.size, 0, none⟩ = some (.int .i64 15) := hPwa0.cell 0
    have hPwa01 : wa0.cell? ⟨w.heap.size, 1, none⟩ = some (.int .i64 addr) := hPwa0.cell 1
    have hPwa02 : wa0.cell? ⟨w.heap.size, 2, none⟩ = some (.int .i64 count) := hPwa0.cell 2
    have hPwa03 : wa0.cell? ⟨w.heap.size, 3, none⟩ = some (.int .i64 to) := hPwa0.cell 3
    have hPwa04 : wa0.cell? ⟨w.heap.size, 4, none⟩ = some (.slice A nb cb) := hPwa0.cell 4
    have hPwa05 : wa0.cell? ⟨w.heap.size, 5, none⟩ = some (.slice R nr cr) := hPwa0.cell 5
    have HC1 := Lib.hid (refpack_any A nb cb bits (by omega) wa0 (HA.out wa0 (hbdw.trans (Bwa0.mono hbdw.size))))
    go_wp2_with fail
    refine HC1.out.mono ?_
    rintro e wc1 ⟨vp, rfl, op, hbwc1⟩
    have gp := fun g h => (op.lt g h).1
    obtain ⟨Ap, cp, rfl, sp0⟩ := SlI.of_own op
    have fp0 : OffRow (.slice (some ⟨g0, 0, none⟩) (1 + 2) c0) Ap := fun g hg a ha e => by { subst ha; have h1 := gp a.block rfl; have h2 := (oa0'.lt g hg).2; omega }
    have ot1 := own_up oa0' hbwc1
    clear op gp
    have hzwc1 : wa0.heap.size ≤ wc1.heap.size := hbwc1.size
    have Bwc1 : Below wd.heap.size wd wc1 := Bwa0.trans (hbwc1.mono Bwa0.size)
    have Zwc1 := Bwc1.size
    have hPwc1 := hPwa0.below hbwc1 hPwa0.lt
    have lhPwc1 := hPwc1.lt
    have hPwc10 : wc1.cell? ⟨w.heap.size, 0, none⟩ = some (.int .i64 15) := hPwc1.cell 0
    have hPwc11 : wc1.cell? ⟨w.heap.size, 1, none⟩ = some (.int .i64 addr) := hPwc1.cell 1
    have hPwc12 : wc1.cell? ⟨w.heap.size, 2, none⟩ = some (.int .i64 count) := hPwc1.cell 2
    have hPwc13 : wc1.cell? ⟨w.heap.size, 3, none⟩ = some (.int .i64 to) := hPwc1.cell 3
    have hPwc14 : wc1.cell? ⟨w.heap.size, 4, none⟩ = some (.slice A nb cb) := hPwc1.cell 4
    have hPwc15 : wc1.cell? ⟨w.heap.size, 5, none⟩ = some (.slice R nr cr) := hPwc1.cell 5
    have spwc1 := sp0
    have fpwc1 := fp0
    have HT2 := Lib.hid (two_any (nb : Int) (by omega) wc1)
    go_wp2_with fail
    refine HT2.out.mono ?_
    rintro e wt2 ⟨rfl, hwt⟩
    have hbwt2 : Below wc1.heap.size wc1 wt2 := by rw [hwt]; exact (Below.refl _ wc1).alloc (Nat.le_refl _) _
    have st2 : SlI wt2 wt2.heap.size .u8 (some ⟨wc1.heap.size, 0, none⟩) 2 2 (twoI (nb : Int)) := by rw [hwt]; exact two_sl (nb : Int) wc1
    have ot2 := own_up ot1 hbwt2
    clear hwt
    have hzwt2 : wc1.heap.size ≤ wt2.heap.size := hbwt2.size
    have Bwt2 : Below wd.heap.size wd wt2 := Bwc1.trans (hbwt2.mono Bwc1.size)
    have Zwt2 := Bwt2.size
    have hPwt2 := hPwc1.below hbwt2 hPwc1.lt
    have lhPwt2 := hPwt2.lt
    have spwt2 := spwc1.up hbwt2
    have fpwt2 := fpwc1
    have hPwt20 : wt2.cell? ⟨w.heap.size, 0, none⟩ = some (.int .i64 15) := hPwt2.cell 0
    have hPwt21 : wt2.cell? ⟨w.heap.size, 1, none⟩ = some (.int .i64 addr) := hPwt2.cell 1
    have hPwt22 : wt2.cell? ⟨w.heap.size, 2, none⟩ = some (.int .i64 count) := hPwt2.cell 2
    have hPwt23 : wt2.cell? ⟨w.heap.size, 3, none⟩ = some (.int .i64 to) := hPwt2.cell 3
    have hPwt24 : wt2.cell? ⟨w.heap.size, 4, none⟩ = some (.slice A nb cb) := hPwt2.cell 4
    have hPwt25 : wt2.cell? ⟨w.heap.size, 5, none⟩ = some (.slice R nr cr) := hPwt2.cell 5
    go_wp2_with (first
      | ((with_reducible refine at_append ?_); refine wpList_append_sl wt2 rfl _ _ 28 rfl wd.heap.size 5 i0 (.int .u8 0) 1 Tryd.underlying28 hi hz0 hz1' hz2' rfl (.slice (some ⟨g0, 0, none⟩) (1 + 2) c0) (1 + 2) _ rfl ot2 wt2.heap.size .u8 (some ⟨wc1.heap.size, 0, none⟩) 2 2 (twoI (nb : Int)) rfl st2 (by unfold maxLen; omega) (by omega) Zwt2 ?_; intro va3 wa3 oa3 hgr hlies; have spwa3 := spwt2.grown hgr fpwt2; have fpwa3 := fpwt2.next spwt2 hpos hlies; have Bwa3 : Below wd.heap.size wd wa3 := Bwt2.grown hgr Zwt2 (fun j hj => (ot2.lt j hj).1); have Zwa3 := Bwa3.size; have hPwa3 := hP0.below Bwa3 hP0.lt; have lhPwa3 := hPwa3.lt; have hPwa30 : wa3.cell? ⟨w.heap.size, 0, none⟩ = some (.int .i64 15) := hPwa3.cell 0; have hPwa31 : wa3.cell? ⟨w.heap.size, 1, none⟩ = some (.int .i64 addr) := hPwa3.cell 1; have hPwa32 : wa3.cell? ⟨w.heap.size, 2, none⟩ = some (.int .i64 count) := hPwa3.cell 2; have hPwa33 : wa3.cell? ⟨w.heap.size, 3, none⟩ = some (.int .i64 to) := hPwa3.cell 3; have hPwa34 : wa3.cell? ⟨w.heap.size, 4, none⟩ = some (.slice A nb cb) := hPwa3.cell 4; have hPwa35 : wa3.cell? ⟨w.heap.size, 5, none⟩ = some (.slice R nr cr) := hPwa3.cell 5; rw [← List.map_append] at oa3; have Ooa3 := Lib.hid oa3; clear hgr hlies)
      | ((with_reducible refine at_append ?_); refine wpList_append_sl (wa3.alloc (.cells #[.int .u8 ((packN bits).length : Int)] 5)) rfl _ _ 28 rfl wd.heap.size 5 i0 (.int .u8 0) 1 Tryd.underlying28 hi hz0 hz1' hz2' rfl va3 ((1 + 2) + 2) _ rfl (oa3.alloc (.cells #[.int .u8 ((packN bits).length : Int)] 5)) (wa3.alloc (.cells #[.int .u8 ((packN bits).length : Int)] 5)).heap.size .u8 (some ⟨wa3.heap.size, 0, none⟩) 1 1 [((packN bits).length : Int)] rfl (SlI.of_lit (w := wa3) (T := 5) (cs := #[.int .u8 ((packN bits).length : Int)]) rfl rfl (by omega)) (by unfold maxLen; omega) (by omega) (by rw [World.size_alloc]; omega) ?_; intro va4 wa4 oa4 hgr hlies; have spwa4 := (spwa3.alloc (.cells #[.int .u8 ((packN bits).length : Int)] 5)).grown hgr fpwa3; have fpwa4 := fpwa3.next (spwa3.alloc (.cells #[.int .u8 ((packN bits).length : Int)] 5)) hpos hlies; have Bwa4 : Below wd.heap.size wd wa4 := (Bwa3.alloc Zwa3 (.cells #[.int .u8 ((packN bits).length : Int)] 5)).grown hgr (by rw [World.size_alloc]; omega) (fun j hj => (oa3.lt j hj).1); have Zwa4 := Bwa4.size; have hPwa4 := hP0.below Bwa4 hP0.lt; have lhPwa4 := hPwa4.lt; have hPwa40 : wa4.cell? ⟨w.heap.size, 0, none⟩ = some (.int .i64 15) := hPwa4.cell 0; have hPwa41 : wa4.cell? ⟨w.heap.size, 1, none⟩ = some (.int .i64 addr) := hPwa4.cell 1; have hPwa42 : wa4.cell? ⟨w.heap.size, 2, none⟩ = some (.int .i64 count) := hPwa4.cell 2; have hPwa43 : wa4.cell? ⟨w.heap.size, 3, none⟩ = some (.int .i64 to) := hPwa4.cell 3; have hPwa44 : wa4.cell? ⟨w.heap.size, 4, none⟩ = some (.slice A nb cb) := hPwa4.cell 4; have hPwa45 : wa4.cell? ⟨w.heap.size, 5, none⟩ = some (.slice R nr cr) := hPwa4.cell 5; rw [← List.map_append] at oa4; have Ooa4 := Lib.hid oa4; clear hgr hlies)
      | ((with_reducible refine at_append ?_); refine wpList_append_sl wa4 rfl _ _ 28 rfl wd.heap.size 5 i0 (.int .u8 0) 1 Tryd.underlying28 hi hz0 hz1' hz2' rfl va4 (((1 + 2) + 2) + 1) _ rfl oa4 wa4.heap.size .u8 Ap (packN bits).length cp (packN bits) rfl spwa4 (by unfold maxLen; omega) (by omega) Zwa4 ?_; intro va5 wa5 oa5 hgr hlies; have spwa5 := spwa4.grown hgr fpwa4; have fpwa5 := fpwa4.next spwa4 hpos hlies; have Bwa5 : Below wd.heap.size wd wa5 := Bwa4.grown hgr Zwa4 (fun j hj => (oa4.lt j hj).1); have Zwa5 := Bwa5.size; have hPwa5 := hP0.below Bwa5 hP0.lt; have lhPwa5 := hPwa5.lt; have hPwa50 : wa5.cell? ⟨w.heap.size, 0, none⟩ = some (.int .i64 15) := hPwa5.cell 0; have hPwa51 : wa5.cell? ⟨w.heap.size, 1, none⟩ = some (.int .i64 addr) := hPwa5.cell 1; have hPwa52 : wa5.cell? ⟨w.heap.size, 2, none⟩ = some (.int .i64 count) := hPwa5.cell 2; have hPwa53 : wa5.cell? ⟨w.heap.size, 3, none⟩ = some (.int .i64 to) := hPwa5.cell 3; have hPwa54 : wa5.cell? ⟨w.heap.size, 4, none⟩ = some (.slice A nb cb) := hPwa5.cell 4; have hPwa55 : wa5.cell? ⟨w.heap.size, 5, none⟩ = some (.slice R nr cr) := hPwa5.cell 5; rw [← List.map_append] at oa5; have Ooa5 := Lib.hid oa5; clear hgr hlies))
    go_ret2
    exact bytes_post HM.out (by unfold bytesP; simp only; rw [if_neg (by omega), if_neg (by omega), if_pos trivial, HLB.out]; simp) oa5 (hbdw.trans (Bwa5.mono hbdw.size))
  · skip
    go_simp
    refine (two_any addr ha _).mono ?_
    rintro e wt0 ⟨rfl, hwt⟩
    have hbt : Below wd.heap.size wd wt0 := by rw [hwt]; exact (Below.refl _ _).alloc (Nat.le_refl _) _
    have hst : SlI wt0 wt0.heap.size .u8 (some ⟨wd.heap.size, 0, none⟩) 2 2 (twoI addr) := by rw [hwt]; exact two_sl addr _
    have hSt := hS.trans (hbt.mono hS.size)
    have hzt := hSt.size
    clear hwt
    go_simp
    refine hK'.out _ _ hSt (fun hS => ?_)
    clear hK' K'
    refine wpAnyH_ready (rs := [3]) (by kernel_rfl) (by simp) ?_
    refine AllReadyH.cons rfl (fun K' hK' => ?_) AllReadyH.nil
    go_simp
    have hown := lit_own wd.heap.size wt0 15 hzt
    have hsl := hst.alloc (.cells #[.int .u8 15] 5)
    have hSt := hS.alloc hzt (.cells #[.int .u8 15] 5)
    refine hK'.out _ _ hSt (fun hS => ?_)
    clear hK' K'
    refine wpAnyH_ready (rs := [7]) (by kernel_rfl) (by simp) ?_
    refine AllReadyH.cons rfl (fun K' hK' => ?_) AllReadyH.nil
    refine step_append_lies _ (by rfl) _ _ _ (by rfl) wd.heap.size 5 i0 (.int .u8 0) 1 1 Tryd.underlying28 hi hz0 hz1' hz2' rfl (by decide) _ 1 _ (by rfl) hown ⟨wd.heap.size, 0, none⟩ 2 2 ((twoI addr).map (Value.int .u8)) (by rfl) (by rfl) (news_of hsl.2.2.2.2) (ints_oneCell _ _) (by omega) (by unfold maxLen; omega) (by omega) hSt.size _ rfl ?_
    intro g0 c0 wa0 oa0 hgr _ _
    have hSa := hSt.grown hgr hSt.size (fun j hj => (hown.lt j hj).1)
    clear hgr hS
    refine hK'.out _ _ hSa (fun hS => ?_)
    clear hK' K'
    refine wpAnyH_take (i := 8) (v := ?v8_7) rfl (by kernel_rfl) (by kernel_rfl) (by kernel_rfl) (fun _ _ _ h => h) (Or.inl ⟨by rfl, ?y8_7⟩) hS ?r8_7
    case y8_7 =>
      rintro W hH
      have hPW := hPd.below hH hPd.lt
      have q0 : W.cell? ⟨w.heap.size, 0, none⟩ = some (.int .i64 15) := hPW.cell 0
      have q1 : W.cell? ⟨w.heap.size, 1, none⟩ = some (.int .i64 addr) := hPW.cell 1
      clear hPW
      go_simp
      with_reducible rfl
    simp only [Act.put]
    try simp only [List.getElem_toArray, List.getElem_cons_succ, List.getElem_cons_zero]
    try simp only [List.setIfInBounds_toArray, List.set_cons_succ, List.set_cons_zero]
    refine wpAnyH_done (by kernel_rfl) ?_ _
    have hP0 := hPd
    have Bwa0 : Below wd.heap.size wd wa0 := hS
    have Zwa0 := Bwa0.size
    have hPwa0 := hPd.below Bwa0 hPd.lt
    have lhPwa0 := hPwa0.lt
    have oa0' : wa0.ownsRow wd.heap.size 5 1 (.slice (some ⟨g0, 0, none⟩) (1 + 2) c0) (1 + 2) ((15 :: twoI addr).map (Value.int .u8)) := oa0
    clear oa0 hown hsl hst
    have hPwa00 : wa0.cell? ⟨w.heap.size, 0, none⟩ = some (.int .i64 15) := hPwa0.cell 0
    have hPwa01 : wa0.cell? ⟨w.heap.size, 1, none⟩ = some (.int .i64 addr) := hPwa0.cell 1
    have hPwa02 : wa0.cell? ⟨w.heap.size, 2, none⟩ = some (.int .i64 count) := hPwa0.cell 2
    have hPwa03 : wa0.cell? ⟨w.heap.size, 3, none⟩ = some (.int .i64 to) := hPwa0.cell 3
    have hPwa04 : wa0.cell? ⟨w.heap.size, 4, none⟩ = some (.slice A nb cb) := hPwa0.cell 4
    have hPwa05 : wa0.cell? ⟨w.heap.size, 5, none⟩ = some (.slice R nr cr) := hPwa0.cell 5
    have HC1 := Lib.hid (refpack_any A nb cb bits (by omega) wa0 (HA.out wa0 (hbdw.trans (Bwa0.mono hbdw.size))))
    go_wp2_with fail
    refine HC1.out.mono ?_
    rintro e wc1 ⟨vp, rfl, op, hbwc1⟩
    have gp := fun g h => (op.lt g h).1
    obtain ⟨Ap, cp, rfl, sp0⟩ := SlI.of_own op
    have fp0 : OffRow (.slice (some ⟨g0, 0, none⟩) (1 + 2) c0) Ap := fun g hg a ha e => by { subst ha; have h1 := gp a.block rfl; have h2 := (oa0'.lt g hg).2; omega }
    have ot1 := own_up oa0' hbwc1
    clear op gp
    have hzwc1 : wa0.heap.size ≤ wc1.heap.size := hbwc1.size
    have Bwc1 : Below wd.heap.size wd wc1 := Bwa0.trans (hbwc1.mono Bwa0.size)
    have Zwc1 := Bwc1.size
    have hPwc1 := hPwa0.below hbwc1 hPwa0.lt
    have lhPwc1 := hPwc1.lt
    have hPwc10 : wc1.cell? ⟨w.heap.size, 0, none⟩ = some (.int .i64 15) := hPwc1.cell 0
    have hPwc11 : wc1.cell? ⟨w.heap.size, 1, none⟩ = some (.int .i64 addr) := hPwc1.cell 1
    have hPwc12 : wc1.cell? ⟨w.heap.size, 2, none⟩ = some (.int .i64 count) := hPwc1.cell 2
    have hPwc13 : wc1.cell? ⟨w.heap.size, 3, none⟩ = some (.int .i64 to) := hPwc1.cell 3
    have hPwc14 : wc1.cell? ⟨w.heap.size, 4, none⟩ = some (.slice A nb cb) := hPwc1.cell 4
    have hPwc15 : wc1.cell? ⟨w.heap.size, 5, none⟩ = some (.slice R nr cr) := hPwc1.cell 5
    have spwc1 := sp0
    have fpwc1 := fp0
    have HT2 := Lib.hid (two_any (nb : Int) (by omega) wc1)
    go_wp2_with fail
    refine HT2.out.mono ?_
    rintro e wt2 ⟨rfl, hwt⟩
    have hbwt2 : Below wc1.heap.size wc1 wt2 := by rw [hwt]; exact (Below.refl _ wc1).alloc (Nat.le_refl _) _
    have st2 : SlI wt2 wt2.heap.size .u8 (some ⟨wc1.heap.size, 0, none⟩) 2 2 (twoI (nb : Int)) := by rw [hwt]; exact two_sl (nb : Int) wc1
    have ot2 := own_up ot1 hbwt2
    clear hwt
    have hzwt2 : wc1.heap.size ≤ wt2.heap.size := hbwt2.size
    have Bwt2 : Below wd.heap.size wd wt2 := Bwc1.trans (hbwt2.mono Bwc1.size)
    have Zwt2 := Bwt2.size
    have hPwt2 := hPwc1.below hbwt2 hPwc1.lt
    have lhPwt2 := hPwt2.lt
    have spwt2 := spwc1.up hbwt2
    have fpwt2 := fpwc1
    have hPwt20 : wt2.cell? ⟨w.heap.size, 0, none⟩ = some (.int .i64 15) := hPwt2.cell 0
    have hPwt21 : wt2.cell? ⟨w.heap.size, 1, none⟩ = some (.int .i64 addr) := hPwt2.cell 1
    have hPwt22 : wt2.cell? ⟨w.heap.size, 2, none⟩ = some (.int .i64 count) := hPwt2.cell 2
    have hPwt23 : wt2.cell? ⟨w.heap.size, 3, none⟩ = some (.int .i64 to) := hPwt2.cell 3
    have hPwt24 : wt2.cell? ⟨w.heap.size, 4, none⟩ = some (.slice A nb cb) := hPwt2.cell 4
    have hPwt25 : wt2.cell? ⟨w.heap.size, 5, none⟩ = some (.slice R nr cr) := hPwt2.cell 5
    go_wp2_with (first
      | ((with_reducible refine at_append ?_); refine wpList_append_sl wt2 rfl _ _ 28 rfl wd.heap.size 5 i0 (.int .u8 0) 1 Tryd.underlying28 hi hz0 hz1' hz2' rfl (.slice (some ⟨g0, 0, none⟩) (1 + 2) c0) (1 + 2) _ rfl ot2 wt2.heap.size .u8 (some ⟨wc1.heap.size, 0, none⟩) 2 2 (twoI (nb : Int)) rfl st2 (by unfold maxLen; omega) (by omega) Zwt2 ?_; intro va3 wa3 oa3 hgr hlies; have spwa3 := spwt2.grown hgr fpwt2; have fpwa3 := fpwt2.next spwt2 hpos hlies; have Bwa3 : Below wd.heap.size wd wa3 := Bwt2.grown hgr Zwt2 (fun j hj => (ot2.lt j hj).1); have Zwa3 := Bwa3.size; have hPwa3 := hP0.below Bwa3 hP0.lt; have lhPwa3 := hPwa3.lt; have hPwa30 : wa3.cell? ⟨w.heap.size, 0, none⟩ = some (.int .i64 15) := hPwa3.cell 0; have hPwa31 : wa3.cell? ⟨w.heap.size, 1, none⟩ = some (.int .i64 addr) := hPwa3.cell 1; have hPwa32 : wa3.cell? ⟨w.heap.size, 2, none⟩ = some (.int .i64 count) := hPwa3.cell 2; have hPwa33 : wa3.cell? ⟨w.heap.size, 3, none⟩ = some (.int .i64 to) := hPwa3.cell 3; have hPwa34 : wa3.cell? ⟨w.heap.size, 4, none⟩ = some (.slice A nb cb) := hPwa3.cell 4; have hPwa35 : wa3.cell? ⟨w.heap.size, 5, none⟩ = some (.slice R nr cr) := hPwa3.cell 5; rw [← List.map_append] at oa3; have Ooa3 := Lib.hid oa3; clear hgr hlies)
      | ((with_reducible refine at_append ?_); refine wpList_append_sl (wa3.alloc (.cells #[.int .u8 ((packN bits).length : Int)] 5)) rfl _ _ 28 rfl wd.heap.size 5 i0 (.int .u8 0) 1 Tryd.underlying28 hi hz0 hz1' hz2' rfl va3 ((1 + 2) + 2) _ rfl (oa3.alloc (.cells #[.int .u8 ((packN bits).length : Int)] 5)) (wa3.alloc (.cells #[.int .u8 ((packN bits).length : Int)] 5)).heap.size .u8 (some ⟨wa3.heap.size, 0, none⟩) 1 1 [((packN bits).length : Int)] rfl (SlI.of_lit (w := wa3) (T := 5) (cs := #[.int .u8 ((packN bits).length : Int)]) rfl rfl (by omega)) (by unfold maxLen; omega) (by omega) (by rw [World.size_alloc]; omega) ?_; intro va4 wa4 oa4 hgr hlies; have spwa4 := (spwa3.alloc (.cells #[.int .u8 ((packN bits).length : Int)] 5)).grown hgr fpwa3; have fpwa4 := fpwa3.next (spwa3.alloc (.cells #[.int .u8 ((packN bits).length : Int)] 5)) hpos hlies; have Bwa4 : Below wd.heap.size wd wa4 := (Bwa3.alloc Zwa3 (.cells #[.int .u8 ((packN bits).length : Int)] 5)).grown hgr (by rw [World.size_alloc]; omega) (fun j hj => (oa3.lt j hj).1); have Zwa4 := Bwa4.size; have hPwa4 := hP0.below Bwa4 hP0.lt; have lhPwa4 := hPwa4.lt; have hPwa40 : wa4.cell? ⟨w.heap.size, 0, none⟩ = some (.int .i64 15) := hPwa4.cell 0; have hPwa41 : wa4.cell? ⟨w.heap.size, 1, none⟩ = some (.int .i64 addr) := hPwa4.cell 1; have hPwa42 : wa4.cell? ⟨w.heap.size, 2, none⟩ = some (.int .i64 count) := hPwa4.cell 2; have hPwa43 : wa4.cell? ⟨w.heap.size, 3, none⟩ = some (.int .i64 to) := hPwa4.cell 3; have hPwa44 : wa4.cell? ⟨w.heap.size, 4, none⟩ = some (.slice A nb cb) := hPwa4.cell 4; have hPwa45 : wa4.cell? ⟨w.heap.size, 5, none⟩ = some (.slice R nr cr) := hPwa4.cell 5; rw [← List.map_append] at oa4; have Ooa4 := Lib.hid oa4; clear hgr hlies)
      | ((with_reducible refine at_append ?_); refine wpList_append_sl wa4 rfl _ _ 28 rfl wd.heap.size 5 i0 (.int .u8 0) 1 Tryd.underlying28 hi hz0 hz1' hz2' rfl va4 (((1 + 2) + 2) + 1) _ rfl oa4 wa4.heap.size .u8 Ap (packN bits).length cp (packN bits) rfl spwa4 (by unfold maxLen; omega) (by omega) Zwa4 ?_; intro va5 wa5 oa5 hgr hlies; have spwa5 := spwa4.grown hgr fpwa4; have fpwa5 := fpwa4.next spwa4 hpos hlies; have Bwa5 : Below wd.heap.size wd wa5 := Bwa4.grown hgr Zwa4 (fun j hj => (oa4.lt j hj).1); have Zwa5 := Bwa5.size; have hPwa5 := hP0.below Bwa5 hP0.lt; have lhPwa5 := hPwa5.lt; have hPwa50 : wa5.cell? ⟨w.heap.size, 0, none⟩ = some (.int .i64 15) := hPwa5.cell 0; have hPwa51 : wa5.cell? ⟨w.heap.size, 1, none⟩ = some (.int .i64 addr) := hPwa5.cell 1; have hPwa52 : wa5.cell? ⟨w.heap.size, 2, none⟩ = some (.int .i64 count) := hPwa5.cell 2; have hPwa53 : wa5.cell? ⟨w.heap.size, 3, none⟩ = some (.int .i64 to) := hPwa5.cell 3; have hPwa54 : wa5.cell? ⟨w.heap.size, 4, none⟩ = some (.slice A nb cb) := hPwa5.cell 4; have hPwa55 : wa5.cell? ⟨w.heap.size, 5, none⟩ = some (.slice R nr cr) := hPwa5.cell 5; rw [← List.map_append] at oa5; have Ooa5 := Lib.hid oa5; clear hgr hlies))
    go_ret2
    exact bytes_post HM.out (by unfold bytesP; simp only; rw [if_neg (by omega), if_neg (by omega), if_pos trivial, HLB.out]; simp) oa5 (hbdw.trans (Bwa5.mono hbdw.size))

end Go.Proofs.YtflbiichdjhaeaaDoor
