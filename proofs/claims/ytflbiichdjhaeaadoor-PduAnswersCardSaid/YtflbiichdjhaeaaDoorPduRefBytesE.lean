/- kilowattref19.Bytes: 16. -/
import Derived.Test.YtflbiichdjhaeaaDoorPduMay
import Derived.Test.YtflbiichdjhaeaaDoorPduBytes
namespace Go.Proofs.YtflbiichdjhaeaaDoor
open Go.RowKit
set_option linter.unusedVariables false

set_option maxRecDepth 100000 in
set_option maxHeartbeats 2000000 in
theorem rb_16 (fn addr count to : Int) (bits : List Bool) (regs : List Int) (A : Option Addr) (nb cb : Nat) (R : Option Addr) (nr cr : Nat) (w : World) (hA : SlB w w.heap.size A nb cb bits) (hR : SlI w w.heap.size .u16 R nr cr regs) (hm : mayP ⟨fn, addr, count, to, bits, regs⟩ = true) (hy : Reg16 regs) (ha : 0 ≤ addr ∧ addr < 65536) (hfn : fn = 16) (hnr : 1 ≤ nr ∧ nr ≤ 123) : Calls Tryd.prog 20 #[.agg #[.int .i64 fn, .int .i64 addr, .int .i64 count, .int .i64 to, .slice A nb cb, .slice R nr cr]] w (BytesPost w ⟨fn, addr, count, to, bits, regs⟩) := by
  subst hfn
  obtain ⟨nr0, nr1⟩ := hnr
  have hpm : 2 * (nr : Int) % 256 = 2 * (nr : Int) := by omega
  obtain ⟨w1, hw1⟩ : ∃ w1, w.alloc (.cells #[.int .i64 16, .int .i64 addr, .int .i64 count, .int .i64 to, .slice A nb cb, .slice R nr cr] 25) = w1 := ⟨_, rfl⟩
  have hb1 : Below w.heap.size w w1 := by rw [← hw1]; exact (Below.refl _ w).alloc (Nat.le_refl _) _
  have hz1 : w1.heap.size = w.heap.size + 1 := by rw [← hw1]; simp
  have hP1 : Held w1 w.heap.size 25 #[.int .i64 16, .int .i64 addr, .int .i64 count, .int .i64 to, .slice A nb cb, .slice R nr cr] := by rw [← hw1]; exact Held.new _ _ _
  have hu := Tryd.underlying25
  have hsz : (Tryd.prog.info? 25).map (·.size) = some 6 := by kernel_rfl
  have hc := may_any (.agg #[.int .i64 16, .int .i64 addr, .int .i64 count, .int .i64 to, .slice A nb cb, .slice R nr cr]) ⟨16, addr, count, to, bits, regs⟩ w1 ⟨A, nb, cb, R, nr, cr, rfl, hA.up hb1, hR.up hb1⟩
  rw [hm] at hc
  have HC := Lib.hid hc
  clear hc
  obtain ⟨i0, hi, hz0, hz1', hz2'⟩ := info_parts infoU8
  have HM := Lib.hid hm
  have HA := Lib.hid (fun (X : World) (h : Below w.heap.size w X) => hA.up h)
  have HR := Lib.hid (fun (X : World) (h : Below w.heap.size w X) => hR.up h)
  have HLB := Lib.hid hA.1
  have HLR := Lib.hid hR.1
  clear hA hR hm
  have hf1 : True := by trivial
  have wr0 : True := by trivial
  go_in
  go_wp2_with ((with_reducible refine at_loadT 25 1 ?_); refine wpList_load_rowG rfl 25 (.tmp 1) rfl w.heap.size rfl 25 _ _ hP1 hu rfl hsz ?_)
  refine HC.out.mono ?_
  rintro e w2 ⟨rfl, hb2⟩
  go_wp2_with fail
  obtain ⟨wd, hwd⟩ : ∃ wd : World, w2.drew = wd := ⟨_, rfl⟩
  have hb2d : Below w1.heap.size w1 wd := by rw [← hwd]; exact hb2.drew
  have hPd := hP1.below hb2d hP1.lt
  have hld := hPd.lt
  have hbdw := hb1.trans (hb2d.mono (by omega))
  have hzd := hb2d.size
  refine wp_region_held (S := Below wd.heap.size wd) (by kernel_rfl) ?_
  change wpAnyH _ _ _ _ _ _ _ _ w2.drew
  rw [hwd]
  have hS := Below.refl wd.heap.size wd
  refine wpAnyH_take (i := 0) (v := ?v0_1) rfl (by kernel_rfl) (by kernel_rfl) (by kernel_rfl) (fun _ _ _ h => h) (Or.inl ⟨by rfl, ?y0_1⟩) hS ?r0_1
  case y0_1 =>
    rintro W hH
    have hPW := hPd.below hH hPd.lt
    have q0 : W.cell? ⟨w.heap.size, 0, none⟩ = some (.int .i64 16) := hPW.cell 0
    have q1 : W.cell? ⟨w.heap.size, 1, none⟩ = some (.int .i64 addr) := hPW.cell 1
    clear hPW
    go_simp
    with_reducible rfl
  simp only [Act.put]
  try simp only [List.getElem_toArray, List.getElem_cons_zero]
  try simp only [List.setIfInBounds_toArray, List.set_cons_succ, List.set_cons_zero]
  refine wpAnyH_take (i := 1) (v := ?v1_2) rfl (by kernel_rfl) (by kernel_rfl) (by kernel_rfl) (fun _ _ _ h => h) (Or.inl ⟨by rfl, ?y1_2⟩) hS ?r1_2
  case y1_2 =>
    rintro W hH
    have hPW := hPd.below hH hPd.lt
    have q0 : W.cell? ⟨w.heap.size, 0, none⟩ = some (.int .i64 16) := hPW.cell 0
    have q1 : W.cell? ⟨w.heap.size, 1, none⟩ = some (.int .i64 addr) := hPW.cell 1
    clear hPW
    go_simp
    with_reducible rfl
  simp only [Act.put]
  try simp only [List.getElem_toArray, List.getElem_cons_succ, List.getElem_cons_zero]
  try simp only [List.setIfInBounds_toArray, List.set_cons_succ, List.set_cons_zero]
  refine wpAnyH_take (i := 2) (v := ?v2_3) rfl (by kernel_rfl) (by kernel_rfl) (by kernel_rfl) (fun _ _ _ h => h) (Or.inl ⟨by rfl, ?y2_3⟩) hS ?r2_3
  case y2_3 =>
    rintro W hH
    have hPW := hPd.below hH hPd.lt
    have q0 : W.cell? ⟨w.heap.size, 0, none⟩ = some (.int .i64 16) := hPW.cell 0
    have q1 : W.cell? ⟨w.heap.size, 1, none⟩ = some (.int .i64 addr) := hPW.cell 1
    clear hPW
    go_simp
    with_reducible rfl
  simp only [Act.put]
  try simp only [List.getElem_toArray, List.getElem_cons_succ, List.getElem_cons_zero]
  try simp only [List.setIfInBounds_toArray, List.set_cons_succ, List.set_cons_zero]
  refine wpAnyH_take (i := 4) (v := ?v4_4) rfl (by kernel_rfl) (by kernel_rfl) (by kernel_rfl) (fun _ _ _ h => h) (Or.inl ⟨by rfl, ?y4_4⟩) hS ?r4_4
  case y4_4 =>
    rintro W hH
    have hPW := hPd.below hH hPd.lt
    have q0 : W.cell? ⟨w.heap.size, 0, none⟩ = some (.int .i64 16) := hPW.cell 0
    have q1 : W.cell? ⟨w.heap.size, 1, none⟩ = some (.int .i64 addr) := hPW.cell 1
    clear hPW
    go_simp
    with_reducible rfl
  simp only [Act.put]
  try simp only [List.getElem_toArray, List.getElem_cons_succ, List.getElem_cons_zero]
  try simp only [List.setIfInBounds_toArray, List.set_cons_succ, List.set_cons_zero]
  refine wpAnyH_take (i := 5) (v := ?v5_5) rfl (by kernel_rfl) (by kernel_rfl) (by kernel_rfl) (fun _ _ _ h => h) (Or.inl ⟨by rfl, ?y5_5⟩) hS ?r5_5
  case y5_5 =>
    rintro W hH
    have hPW := hPd.below hH hPd.lt
    have q0 : W.cell? ⟨w.heap.size, 0, none⟩ = some (.int .i64 16) := hPW.cell 0
    have q1 : W.cell? ⟨w.heap.size, 1, none⟩ = some (.int .i64 addr) := hPW.cell 1
    clear hPW
    go_simp
    with_reducible rfl
  simp only [Act.put]
  try simp only [List.getElem_toArray, List.getElem_cons_succ, List.getElem_cons_zero]
  try simp only [List.setIfInBounds_toArray, List.set_cons_succ, List.set_cons_zero]
  refine wpAnyH_ready (rs := [3, 6]) (by kernel_rfl) (by simp) ?_
  refine AllReadyH.cons rfl (fun K' hK' => ?_) (AllReadyH.cons rfl (fun K' hK' => ?_) AllReadyH.nil)
  · skip
    go_simp
    have hSt := hS.alloc (Nat.le_refl _) (.cells #[.int .u8 16] 5)
    refine hK'.out _ _ hSt (fun hS => ?_)
    clear hK' K'
    refine wpAnyH_ready (rs := [6]) (by kernel_rfl) (by simp) ?_
    refine AllReadyH.cons rfl (fun K' hK' => ?_) AllReadyH.nil
    go_simp
    refine (two_any addr ha _).mono ?_
    rintro e wt0 ⟨rfl, hwt⟩
    have hbt : Below (wd.alloc (.cells #[.int .u8 16] 5)).heap.size (wd.alloc (.cells #[.int .u8 16] 5)) wt0 := by rw [hwt]; exact (Below.refl _ _).alloc (Nat.le_refl _) _
    have hst : SlI wt0 wt0.heap.size .u8 (some ⟨(wd.alloc (.cells #[.int .u8 16] 5)).heap.size, 0, none⟩) 2 2 (twoI addr) := by rw [hwt]; exact two_sl addr _
    have hSt := hS.trans (hbt.mono hS.size)
    have hzt := hSt.size
    have hown := own_up (lit_own wd.heap.size wd 16 (Nat.le_refl _)) hbt
    have hsl := hst
    rw [World.size_alloc] at hsl
    clear hwt
    go_simp
    refine hK'.out _ _ hSt (fun hS => ?_)
    clear hK' K'
    refine wpAnyH_ready (rs := [7]) (by kernel_rfl) (by simp) ?_
    refine AllReadyH.cons rfl (fun K' hK' => ?_) AllReadyH.nil
    refine step_append_lies _ (by rfl) _ _ _ (by rfl) wd.heap.size 5 i0 (.int .u8 0) 1 1 Tryd.underlying28 hi hz0 hz1' hz2' rfl (by decide) _ 1 _ (by rfl) hown ⟨wd.heap.size + 1, 0, none⟩ 2 2 ((twoI addr).map (Value.int .u8)) (by rfl) (by rfl) (news_of hsl.2.2.2.2) (ints_oneCell _ _) (by omega) (by unfold maxLen; omega) (by omega) hSt.size _ rfl ?_
    intro g0 c0 wa0 oa0 hgr _ _
    have hSa := hSt.grown hgr hSt.size (fun j hj => (hown.lt j hj).1)
    clear hgr hS
    refine hK'.out _ _ hSa (fun hS => ?_)
    clear hK' K'
    refine wpAnyH_take (i := 8) (v := ?v8_6) rfl (by kernel_rfl) (by kernel_rfl) (by kernel_rfl) (fun _ _ _ h => h) (Or.inl ⟨by rfl, ?y8_6⟩) hS ?r8_6
    case y8_6 =>
      rintro W hH
      have hPW := hPd.below hH hPd.lt
      have q0 : W.cell? ⟨w.heap.size, 0, none⟩ = some (.int .i64 16) := hPW.cell 0
      have q1 : W.cell? ⟨w.heap.size, 1, none⟩ = some (.int .i64 addr) := hPW.cell 1
      clear hPW
      go_simp
      with_reducible rfl
    simp only [Act.put]
    try simp only [List.getElem_toArray, List.getElem_cons_succ, List.getElem_cons_zero]
    try simp only [List.setIfInBounds_toArray, List.set_cons_succ, List.set_cons_zero]
    refine wpAnyH_done (by kernel_rfl) ?_ _
    have hP0 := hPd
    have Bwa0 : Below wd.heap.size wd wa0 := hS
    have Zwa0 := Bwa0.size
    have hPwa0 := hPd.below Bwa0 hPd.lt
    have lhPwa0 := hPwa0.lt
    have oa0' : wa0.ownsRow wd.heap.size 5 1 (.slice (some ⟨g0, 0, none⟩) (1 + 2) c0) (1 + 2) ((16 :: twoI addr).map (Value.int .u8)) := oa0
    clear oa0 hown hsl hst
    have hPwa00 : wa0.cell? ⟨w.heap.size, 0, none⟩ = some (.int .i64 16) := hPwa0.cell 0
    have hPwa01 : wa0.cell? ⟨w.heap.size, 1, none⟩ = some (.int .i64 addr) := hPwa0.cell 1
    have hPwa02 : wa0.cell? ⟨w.heap.size, 2, none⟩ = some (.int .i64 count) := hPwa0.cell 2
    have hPwa03 : wa0.cell? ⟨w.heap.size, 3, none⟩ = some (.int .i64 to) := hPwa0.cell 3
    have hPwa04 : wa0.cell? ⟨w.heap.size, 4, none⟩ = some (.slice A nb cb) := hPwa0.cell 4
    have hPwa05 : wa0.cell? ⟨w.heap.size, 5, none⟩ = some (.slice R nr cr) := hPwa0.cell 5
    have HT1 := Lib.hid (two_any (nr : Int) (by omega) wa0)
    go_wp2_with fail
    refine HT1.out.mono ?_
    rintro e wt1 ⟨rfl, hwt⟩
    have hbwt1 : Below wa0.heap.size wa0 wt1 := by rw [hwt]; exact (Below.refl _ wa0).alloc (Nat.le_refl _) _
    have st1 : SlI wt1 wt1.heap.size .u8 (some ⟨wa0.heap.size, 0, none⟩) 2 2 (twoI (nr : Int)) := by rw [hwt]; exact two_sl (nr : Int) wa0
    have ot1 := own_up oa0' hbwt1
    clear hwt
    have hzwt1 : wa0.heap.size ≤ wt1.heap.size := hbwt1.size
    have Bwt1 : Below wd.heap.size wd wt1 := Bwa0.trans (hbwt1.mono Bwa0.size)
    have Zwt1 := Bwt1.size
    have hPwt1 := hPwa0.below hbwt1 hPwa0.lt
    have lhPwt1 := hPwt1.lt
    have hPwt10 : wt1.cell? ⟨w.heap.size, 0, none⟩ = some (.int .i64 16) := hPwt1.cell 0
    have hPwt11 : wt1.cell? ⟨w.heap.size, 1, none⟩ = some (.int .i64 addr) := hPwt1.cell 1
    have hPwt12 : wt1.cell? ⟨w.heap.size, 2, none⟩ = some (.int .i64 count) := hPwt1.cell 2
    have hPwt13 : wt1.cell? ⟨w.heap.size, 3, none⟩ = some (.int .i64 to) := hPwt1.cell 3
    have hPwt14 : wt1.cell? ⟨w.heap.size, 4, none⟩ = some (.slice A nb cb) := hPwt1.cell 4
    have hPwt15 : wt1.cell? ⟨w.heap.size, 5, none⟩ = some (.slice R nr cr) := hPwt1.cell 5
    go_wp2_with (first
      | ((with_reducible refine at_append ?_); refine wpList_append_sl wt1 rfl _ _ 28 rfl wd.heap.size 5 i0 (.int .u8 0) 1 Tryd.underlying28 hi hz0 hz1' hz2' rfl (.slice (some ⟨g0, 0, none⟩) (1 + 2) c0) (1 + 2) _ rfl ot1 wt1.heap.size .u8 (some ⟨wa0.heap.size, 0, none⟩) 2 2 (twoI (nr : Int)) rfl st1 (by unfold maxLen; omega) (by omega) Zwt1 ?_; intro va2 wa2 oa2 hgr hlies; have Bwa2 : Below wd.heap.size wd wa2 := Bwt1.grown hgr Zwt1 (fun j hj => (ot1.lt j hj).1); have Zwa2 := Bwa2.size; have hPwa2 := hP0.below Bwa2 hP0.lt; have lhPwa2 := hPwa2.lt; have hPwa20 : wa2.cell? ⟨w.heap.size, 0, none⟩ = some (.int .i64 16) := hPwa2.cell 0; have hPwa21 : wa2.cell? ⟨w.heap.size, 1, none⟩ = some (.int .i64 addr) := hPwa2.cell 1; have hPwa22 : wa2.cell? ⟨w.heap.size, 2, none⟩ = some (.int .i64 count) := hPwa2.cell 2; have hPwa23 : wa2.cell? ⟨w.heap.size, 3, none⟩ = some (.int .i64 to) := hPwa2.cell 3; have hPwa24 : wa2.cell? ⟨w.heap.size, 4, none⟩ = some (.slice A nb cb) := hPwa2.cell 4; have hPwa25 : wa2.cell? ⟨w.heap.size, 5, none⟩ = some (.slice R nr cr) := hPwa2.cell 5; rw [← List.map_append] at oa2; have Ooa2 := Lib.hid oa2; clear hgr hlies)
      | ((with_reducible refine at_append ?_); refine wpList_append_sl (wa2.alloc (.cells #[.int .u8 (2 * (nr : Int))] 5)) rfl _ _ 28 rfl wd.heap.size 5 i0 (.int .u8 0) 1 Tryd.underlying28 hi hz0 hz1' hz2' rfl va2 ((1 + 2) + 2) _ rfl (oa2.alloc (.cells #[.int .u8 (2 * (nr : Int))] 5)) (wa2.alloc (.cells #[.int .u8 (2 * (nr : Int))] 5)).heap.size .u8 (some ⟨wa2.heap.size, 0, none⟩) 1 1 [(2 * (nr : Int))] rfl (SlI.of_lit (w := wa2) (T := 5) (cs := #[.int .u8 (2 * (nr : Int))]) rfl rfl (by omega)) (by unfold maxLen; omega) (by omega) (by rw [World.size_alloc]; omega) ?_; intro va3 wa3 oa3 hgr hlies; have Bwa3 : Below wd.heap.size wd wa3 := (Bwa2.alloc Zwa2 (.cells #[.int .u8 (2 * (nr : Int))] 5)).grown hgr (by rw [World.size_alloc]; omega) (fun j hj => (oa2.lt j hj).1); have Zwa3 := Bwa3.size; have hPwa3 := hP0.below Bwa3 hP0.lt; have lhPwa3 := hPwa3.lt; have hPwa30 : wa3.cell? ⟨w.heap.size, 0, none⟩ = some (.int .i64 16) := hPwa3.cell 0; have hPwa31 : wa3.cell? ⟨w.heap.size, 1, none⟩ = some (.int .i64 addr) := hPwa3.cell 1; have hPwa32 : wa3.cell? ⟨w.heap.size, 2, none⟩ = some (.int .i64 count) := hPwa3.cell 2; have hPwa33 : wa3.cell? ⟨w.heap.size, 3, none⟩ = some (.int .i64 to) := hPwa3.cell 3; have hPwa34 : wa3.cell? ⟨w.heap.size, 4, none⟩ = some (.slice A nb cb) := hPwa3.cell 4; have hPwa35 : wa3.cell? ⟨w.heap.size, 5, none⟩ = some (.slice R nr cr) := hPwa3.cell 5; rw [← List.map_append] at oa3; have Ooa3 := Lib.hid oa3; clear hgr hlies))
    have HC4 := Lib.hid (rwords_any R nr cr regs (by omega) wa3 (HR.out wa3 (hbdw.trans (Bwa3.mono hbdw.size))) hy)
    refine HC4.out.mono ?_
    rintro e wc4 ⟨vp, rfl, op, hbwc4⟩
    have gp := fun g h => (op.lt g h).1
    obtain ⟨Ap, cp, rfl, sp0⟩ := SlI.of_own op
    have fp0 : OffRow va3 Ap := fun g hg a ha e => by { subst ha; have h1 := gp a.block rfl; have h2 := (oa3.lt g hg).2; omega }
    have ot4 := own_up oa3 hbwc4
    clear op gp
    have hzwc4 : wa3.heap.size ≤ wc4.heap.size := hbwc4.size
    have Bwc4 : Below wd.heap.size wd wc4 := Bwa3.trans (hbwc4.mono Bwa3.size)
    have Zwc4 := Bwc4.size
    have hPwc4 := hPwa3.below hbwc4 hPwa3.lt
    have lhPwc4 := hPwc4.lt
    have hPwc40 : wc4.cell? ⟨w.heap.size, 0, none⟩ = some (.int .i64 16) := hPwc4.cell 0
    have hPwc41 : wc4.cell? ⟨w.heap.size, 1, none⟩ = some (.int .i64 addr) := hPwc4.cell 1
    have hPwc42 : wc4.cell? ⟨w.heap.size, 2, none⟩ = some (.int .i64 count) := hPwc4.cell 2
    have hPwc43 : wc4.cell? ⟨w.heap.size, 3, none⟩ = some (.int .i64 to) := hPwc4.cell 3
    have hPwc44 : wc4.cell? ⟨w.heap.size, 4, none⟩ = some (.slice A nb cb) := hPwc4.cell 4
    have hPwc45 : wc4.cell? ⟨w.heap.size, 5, none⟩ = some (.slice R nr cr) := hPwc4.cell 5
    have spwc4 := sp0
    have fpwc4 := fp0
    go_wp2_with ((with_reducible refine at_append ?_); refine wpList_append_sl wc4 rfl _ _ 28 rfl wd.heap.size 5 i0 (.int .u8 0) 1 Tryd.underlying28 hi hz0 hz1' hz2' rfl va3 (((1 + 2) + 2) + 1) _ rfl ot4 wc4.heap.size .u8 Ap (2 * nr) cp (twosI regs) rfl spwc4 (by unfold maxLen; omega) (by omega) Zwc4 ?_; intro va5 wa5 oa5 hgr hlies; have spwa5 := spwc4.grown hgr fpwc4; have fpwa5 := fpwc4.next spwc4 (by omega) hlies; have Bwa5 : Below wd.heap.size wd wa5 := Bwc4.grown hgr Zwc4 (fun j hj => (ot4.lt j hj).1); have Zwa5 := Bwa5.size; have hPwa5 := hP0.below Bwa5 hP0.lt; have lhPwa5 := hPwa5.lt; have hPwa50 : wa5.cell? ⟨w.heap.size, 0, none⟩ = some (.int .i64 16) := hPwa5.cell 0; have hPwa51 : wa5.cell? ⟨w.heap.size, 1, none⟩ = some (.int .i64 addr) := hPwa5.cell 1; have hPwa52 : wa5.cell? ⟨w.heap.size, 2, none⟩ = some (.int .i64 count) := hPwa5.cell 2; have hPwa53 : wa5.cell? ⟨w.heap.size, 3, none⟩ = some (.int .i64 to) := hPwa5.cell 3; have hPwa54 : wa5.cell? ⟨w.heap.size, 4, none⟩ = some (.slice A nb cb) := hPwa5.cell 4; have hPwa55 : wa5.cell? ⟨w.heap.size, 5, none⟩ = some (.slice R nr cr) := hPwa5.cell 5; rw [← List.map_append] at oa5; have Ooa5 := Lib.hid oa5; clear hgr hlies)
    go_ret2
    exact bytes_post HM.out (by unfold bytesP; simp only; rw [if_neg (by omega), if_neg (by omega), if_neg (by omega), if_pos trivial, HLR.out]; simp) oa5 (hbdw.trans (Bwa5.mono hbdw.size))
  · skip
    go_simp
    refine (two_any addr ha _).mono ?_
    rintro e wt0 ⟨rfl, hwt⟩
    have hbt : Below wd.heap.size wd wt0 := by rw [hwt]; exact (Below.refl _ _).alloc (Nat.le_refl _) _
    have hst : SlI wt0 wt0.heap.size .u8 (some ⟨wd.heap.size, 0, none⟩) 2 2 (twoI addr) := by rw [hwt]; exact two_sl addr _
    have hSt := hS.trans (hbt.mono hS.size)
    have hzt := hSt.size
    clear hwt
    go_simp
    refine hK'.out _ _ hSt (fun hS => ?_)
    clear hK' K'
    refine wpAnyH_ready (rs := [3]) (by kernel_rfl) (by simp) ?_
    refine AllReadyH.cons rfl (fun K' hK' => ?_) AllReadyH.nil
    go_simp
    have hown := lit_own wd.heap.size wt0 16 hzt
    have hsl := hst.alloc (.cells #[.int .u8 16] 5)
    have hSt := hS.alloc hzt (.cells #[.int .u8 16] 5)
    refine hK'.out _ _ hSt (fun hS => ?_)
    clear hK' K'
    refine wpAnyH_ready (rs := [7]) (by kernel_rfl) (by simp) ?_
    refine AllReadyH.cons rfl (fun K' hK' => ?_) AllReadyH.nil
    refine step_append_lies _ (by rfl) _ _ _ (by rfl) wd.heap.size 5 i0 (.int .u8 0) 1 1 Tryd.underlying28 hi hz0 hz1' hz2' rfl (by decide) _ 1 _ (by rfl) hown ⟨wd.heap.size, 0, none⟩ 2 2 ((twoI addr).map (Value.int .u8)) (by rfl) (by rfl) (news_of hsl.2.2.2.2) (ints_oneCell _ _) (by omega) (by unfold maxLen; omega) (by omega) hSt.size _ rfl ?_
    intro g0 c0 wa0 oa0 hgr _ _
    have hSa := hSt.grown hgr hSt.size (fun j hj => (hown.lt j hj).1)
    clear hgr hS
    refine hK'.out _ _ hSa (fun hS => ?_)
    clear hK' K'
    refine wpAnyH_take (i := 8) (v := ?v8_7) rfl (by kernel_rfl) (by kernel_rfl) (by kernel_rfl) (fun _ _ _ h => h) (Or.inl ⟨by rfl, ?y8_7⟩) hS ?r8_7
    case y8_7 =>
      rintro W hH
      have hPW := hPd.below hH hPd.lt
      have q0 : W.cell? ⟨w.heap.size, 0, none⟩ = some (.int .i64 16) := hPW.cell 0
      have q1 : W.cell? ⟨w.heap.size, 1, none⟩ = some (.int .i64 addr) := hPW.cell 1
      clear hPW
      go_simp
      with_reducible rfl
    simp only [Act.put]
    try simp only [List.getElem_toArray, List.getElem_cons_succ, List.getElem_cons_zero]
    try simp only [List.setIfInBounds_toArray, List.set_cons_succ, List.set_cons_zero]
    refine wpAnyH_done (by kernel_rfl) ?_ _
    have hP0 := hPd
    have Bwa0 : Below wd.heap.size wd wa0 := hS
    have Zwa0 := Bwa0.size
    have hPwa0 := hPd.below Bwa0 hPd.lt
    have lhPwa0 := hPwa0.lt
    have oa0' : wa0.ownsRow wd.heap.size 5 1 (.slice (some ⟨g0, 0, none⟩) (1 + 2) c0) (1 + 2) ((16 :: twoI addr).map (Value.int .u8)) := oa0
    clear oa0 hown hsl hst
    have hPwa00 : wa0.cell? ⟨w.heap.size, 0, none⟩ = some (.int .i64 16) := hPwa0.cell 0
    have hPwa01 : wa0.cell? ⟨w.heap.size, 1, none⟩ = some (.int .i64 addr) := hPwa0.cell 1
    have hPwa02 : wa0.cell? ⟨w.heap.size, 2, none⟩ = some (.int .i64 count) := hPwa0.cell 2
    have hPwa03 : wa0.cell? ⟨w.heap.size, 3, none⟩ = some (.int .i64 to) := hPwa0.cell 3
    have hPwa04 : wa0.cell? ⟨w.heap.size, 4, none⟩ = some (.slice A nb cb) := hPwa0.cell 4
    have hPwa05 : wa0.cell? ⟨w.heap.size, 5, none⟩ = some (.slice R nr cr) := hPwa0.cell 5
    have HT1 := Lib.hid (two_any (nr : Int) (by omega) wa0)
    go_wp2_with fail
    refine HT1.out.mono ?_
    rintro e wt1 ⟨rfl, hwt⟩
    have hbwt1 : Below wa0.heap.size wa0 wt1 := by rw [hwt]; exact (Below.refl _ wa0).alloc (Nat.le_refl _) _
    have st1 : SlI wt1 wt1.heap.size .u8 (some ⟨wa0.heap.size, 0, none⟩) 2 2 (twoI (nr : Int)) := by rw [hwt]; exact two_sl (nr : Int) wa0
    have ot1 := own_up oa0' hbwt1
    clear hwt
    have hzwt1 : wa0.heap.size ≤ wt1.heap.size := hbwt1.size
    have Bwt1 : Below wd.heap.size wd wt1 := Bwa0.trans (hbwt1.mono Bwa0.size)
    have Zwt1 := Bwt1.size
    have hPwt1 := hPwa0.below hbwt1 hPwa0.lt
    have lhPwt1 := hPwt1.lt
    have hPwt10 : wt1.cell? ⟨w.heap.size, 0, none⟩ = some (.int .i64 16) := hPwt1.cell 0
    have hPwt11 : wt1.cell? ⟨w.heap.size, 1, none⟩ = some (.int .i64 addr) := hPwt1.cell 1
    have hPwt12 : wt1.cell? ⟨w.heap.size, 2, none⟩ = some (.int .i64 count) := hPwt1.cell 2
    have hPwt13 : wt1.cell? ⟨w.heap.size, 3, none⟩ = some (.int .i64 to) := hPwt1.cell 3
    have hPwt14 : wt1.cell? ⟨w.heap.size, 4, none⟩ = some (.slice A nb cb) := hPwt1.cell 4
    have hPwt15 : wt1.cell? ⟨w.heap.size, 5, none⟩ = some (.slice R nr cr) := hPwt1.cell 5
    go_wp2_with (first
      | ((with_reducible refine at_append ?_); refine wpList_append_sl wt1 rfl _ _ 28 rfl wd.heap.size 5 i0 (.int .u8 0) 1 Tryd.underlying28 hi hz0 hz1' hz2' rfl (.slice (some ⟨g0, 0, none⟩) (1 + 2) c0) (1 + 2) _ rfl ot1 wt1.heap.size .u8 (some ⟨wa0.heap.size, 0, none⟩) 2 2 (twoI (nr : Int)) rfl st1 (by unfold maxLen; omega) (by omega) Zwt1 ?_; intro va2 wa2 oa2 hgr hlies; have Bwa2 : Below wd.heap.size wd wa2 := Bwt1.grown hgr Zwt1 (fun j hj => (ot1.lt j hj).1); have Zwa2 := Bwa2.size; have hPwa2 := hP0.below Bwa2 hP0.lt; have lhPwa2 := hPwa2.lt; have hPwa20 : wa2.cell? ⟨w.heap.size, 0, none⟩ = some (.int .i64 16) := hPwa2.cell 0; have hPwa21 : wa2.cell? ⟨w.heap.size, 1, none⟩ = some (.int .i64 addr) := hPwa2.cell 1; have hPwa22 : wa2.cell? ⟨w.heap.size, 2, none⟩ = some (.int .i64 count) := hPwa2.cell 2; have hPwa23 : wa2.cell? ⟨w.heap.size, 3, none⟩ = some (.int .i64 to) := hPwa2.cell 3; have hPwa24 : wa2.cell? ⟨w.heap.size, 4, none⟩ = some (.slice A nb cb) := hPwa2.cell 4; have hPwa25 : wa2.cell? ⟨w.heap.size, 5, none⟩ = some (.slice R nr cr) := hPwa2.cell 5; rw [← List.map_append] at oa2; have Ooa2 := Lib.hid oa2; clear hgr hlies)
      | ((with_reducible refine at_append ?_); refine wpList_append_sl (wa2.alloc (.cells #[.int .u8 (2 * (nr : Int))] 5)) rfl _ _ 28 rfl wd.heap.size 5 i0 (.int .u8 0) 1 Tryd.underlying28 hi hz0 hz1' hz2' rfl va2 ((1 + 2) + 2) _ rfl (oa2.alloc (.cells #[.int .u8 (2 * (nr : Int))] 5)) (wa2.alloc (.cells #[.int .u8 (2 * (nr : Int))] 5)).heap.size .u8 (some ⟨wa2.heap.size, 0, none⟩) 1 1 [(2 * (nr : Int))] rfl (SlI.of_lit (w := wa2) (T := 5) (cs := #[.int .u8 (2 * (nr : Int))]) rfl rfl (by omega)) (by unfold maxLen; omega) (by omega) (by rw [World.size_alloc]; omega) ?_; intro va3 wa3 oa3 hgr hlies; have Bwa3 : Below wd.heap.size wd wa3 := (Bwa2.alloc Zwa2 (.cells #[.int .u8 (2 * (nr : Int))] 5)).grown hgr (by rw [World.size_alloc]; omega) (fun j hj => (oa2.lt j hj).1); have Zwa3 := Bwa3.size; have hPwa3 := hP0.below Bwa3 hP0.lt; have lhPwa3 := hPwa3.lt; have hPwa30 : wa3.cell? ⟨w.heap.size, 0, none⟩ = some (.int .i64 16) := hPwa3.cell 0; have hPwa31 : wa3.cell? ⟨w.heap.size, 1, none⟩ = some (.int .i64 addr) := hPwa3.cell 1; have hPwa32 : wa3.cell? ⟨w.heap.size, 2, none⟩ = some (.int .i64 count) := hPwa3.cell 2; have hPwa33 : wa3.cell? ⟨w.heap.size, 3, none⟩ = some (.int .i64 to) := hPwa3.cell 3; have hPwa34 : wa3.cell? ⟨w.heap.size, 4, none⟩ = some (.slice A nb cb) := hPwa3.cell 4; have hPwa35 : wa3.cell? ⟨w.heap.size, 5, none⟩ = some (.slice R nr cr) := hPwa3.cell 5; rw [← List.map_append] at oa3; have Ooa3 := Lib.hid oa3; clear hgr hlies))
    have HC4 := Lib.hid (rwords_any R nr cr regs (by omega) wa3 (HR.out wa3 (hbdw.trans (Bwa3.mono hbdw.size))) hy)
    refine HC4.out.mono ?_
    rintro e wc4 ⟨vp, rfl, op, hbwc4⟩
    have gp := fun g h => (op.lt g h).1
    obtain ⟨Ap, cp, rfl, sp0⟩ := SlI.of_own op
    have fp0 : OffRow va3 Ap := fun g hg a ha e => by { subst ha; have h1 := gp a.block rfl; have h2 := (oa3.lt g hg).2; omega }
    have ot4 := own_up oa3 hbwc4
    clear op gp
    have hzwc4 : wa3.heap.size ≤ wc4.heap.size := hbwc4.size
    have Bwc4 : Below wd.heap.size wd wc4 := Bwa3.trans (hbwc4.mono Bwa3.size)
    have Zwc4 := Bwc4.size
    have hPwc4 := hPwa3.below hbwc4 hPwa3.lt
    have lhPwc4 := hPwc4.lt
    have hPwc40 : wc4.cell? ⟨w.heap.size, 0, none⟩ = some (.int .i64 16) := hPwc4.cell 0
    have hPwc41 : wc4.cell? ⟨w.heap.size, 1, none⟩ = some (.int .i64 addr) := hPwc4.cell 1
    have hPwc42 : wc4.cell? ⟨w.heap.size, 2, none⟩ = some (.int .i64 count) := hPwc4.cell 2
    have hPwc43 : wc4.cell? ⟨w.heap.size, 3, none⟩ = some (.int .i64 to) := hPwc4.cell 3
    have hPwc44 : wc4.cell? ⟨w.heap.size, 4, none⟩ = some (.slice A nb cb) := hPwc4.cell 4
    have hPwc45 : wc4.cell? ⟨w.heap.size, 5, none⟩ = some (.slice R nr cr) := hPwc4.cell 5
    have spwc4 := sp0
    have fpwc4 := fp0
    go_wp2_with ((with_reducible refine at_append ?_); refine wpList_append_sl wc4 rfl _ _ 28 rfl wd.heap.size 5 i0 (.int .u8 0) 1 Tryd.underlying28 hi hz0 hz1' hz2' rfl va3 (((1 + 2) + 2) + 1) _ rfl ot4 wc4.heap.size .u8 Ap (2 * nr) cp (twosI regs) rfl spwc4 (by unfold maxLen; omega) (by omega) Zwc4 ?_; intro va5 wa5 oa5 hgr hlies; have spwa5 := spwc4.grown hgr fpwc4; have fpwa5 := fpwc4.next spwc4 (by omega) hlies; have Bwa5 : Below wd.heap.size wd wa5 := Bwc4.grown hgr Zwc4 (fun j hj => (ot4.lt j hj).1); have Zwa5 := Bwa5.size; have hPwa5 := hP0.below Bwa5 hP0.lt; have lhPwa5 := hPwa5.lt; have hPwa50 : wa5.cell? ⟨w.heap.size, 0, none⟩ = some (.int .i64 16) := hPwa5.cell 0; have hPwa51 : wa5.cell? ⟨w.heap.size, 1, none⟩ = some (.int .i64 addr) := hPwa5.cell 1; have hPwa52 : wa5.cell? ⟨w.heap.size, 2, none⟩ = some (.int .i64 count) := hPwa5.cell 2; have hPwa53 : wa5.cell? ⟨w.heap.size, 3, none⟩ = some (.int .i64 to) := hPwa5.cell 3; have hPwa54 : wa5.cell? ⟨w.heap.size, 4, none⟩ = some (.slice A nb cb) := hPwa5.cell 4; have hPwa55 : wa5.cell? ⟨w.heap.size, 5, none⟩ = some (.slice R nr cr) := hPwa5.cell 5; rw [← List.map_append] at oa5; have Ooa5 := Lib.hid oa5; clear hgr hlies)
    go_ret2
    exact bytes_post HM.out (by unfold bytesP; simp only; rw [if_neg (by omega), if_neg (by omega), if_neg (by omega), if_pos trivial, HLR.out]; simp) oa5 (hbdw.trans (Bwa5.mono hbdw.size))

end Go.Proofs.YtflbiichdjhaeaaDoor
