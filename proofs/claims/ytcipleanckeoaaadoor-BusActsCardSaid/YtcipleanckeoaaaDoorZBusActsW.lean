/- The law BusActs: its walk. Printed by busactsw.py. -/
import Derived.Test.YtcipleanckeoaaaDoorZTk
import Derived.Test.YtcipleanckeoaaaDoorZBusLineR
import Derived.Test.YtcipleanckeoaaaDoorZBusRefE
import Derived.Test.YtcipleanckeoaaaDoorZBusPiecesW
import Derived.Test.YtcipleanckeoaaaDoorZStr
open List renaming getElem_toArray → zA, getElem_cons_zero → zB, setIfInBounds_toArray → zC, set_cons_succ → zD, set_cons_zero → zE, getElem_cons_succ → zF
namespace Go.Proofs.YtcipleanckeoaaaDoor
open Go.RowKit Go.Shelf Go.Sort
attribute [local go_sem] Oper.semAt_some
set_option linter.unusedVariables false
set_option linter.unusedSimpArgs false
set_option maxRecDepth 100000
set_option maxHeartbeats 4000000 in
theorem acts_any (A : Option Addr) (n c : Nat) (req : List Int) (Ar : Option Addr) (nr cr : Nat) (D : Option Addr) (nd cd : Nat) (k wait gap : Int) (regs : List Int) (code na unit wth : Int) (data : List Int) (kd : Int) (w : World) (hT : LimT w) (hN : NamesT w) (hP : P10 w) (hS : SlI w w.heap.size .u8 A n c req) (h8 : Byte8 req) (h1 : SlI w w.heap.size .u16 Ar nr cr regs) (h2 : SlI w w.heap.size .u8 D nd cd data) (hok : ActP.ok ⟨k, wait, gap, regs, code, na, unit, wth, data⟩) :
  Calls Tryd.prog 6 #[.slice A n c, .agg #[.int .i64 k, .int .i64 wait, .int .i64 gap, .slice Ar nr cr, .int .i64 code, .int .i64 na, .int .i64 unit, .int .u8 wth, .slice D nd cd], .int .i64 kd] w fun e w' => e = .returned (.bool true) ∧ Below w.heap.size w w' := by
 obtain ⟨w1, hw1⟩ : ∃ W, w.alloc (.cells #[.int .i64 k, .int .i64 wait, .int .i64 gap, .slice Ar nr cr, .int .i64 code, .int .i64 na, .int .i64 unit, .int .u8 wth, .slice D nd cd] 29) = W := ⟨_, rfl⟩
 have b1 : Below w.heap.size w w1 := by rw [← hw1]; exact (Below.refl _ w).alloc (Nat.le_refl _) _
 have hX1 : Held w1 w.heap.size 29 #[.int .i64 k, .int .i64 wait, .int .i64 gap, .slice Ar nr cr, .int .i64 code, .int .i64 na, .int .i64 unit, .int .u8 wth, .slice D nd cd] := by rw [← hw1]; exact Held.new w _ _
 have hz1 : w1.heap.size = w.heap.size + 1 := by rw [← hw1]; simp
 obtain ⟨w2, hw2⟩ : ∃ W, w1.alloc (.cells #[.int .i64 k, .int .i64 wait, .int .i64 gap, .slice Ar nr cr, .int .i64 code, .int .i64 na, .int .i64 unit, .int .u8 wth, .slice D nd cd] 29) = W := ⟨_, rfl⟩
 have b2 : Below w.heap.size w w2 := by rw [← hw2]; exact b1.alloc b1.size _
 have hX2 : Held w2 w.heap.size 29 #[.int .i64 k, .int .i64 wait, .int .i64 gap, .slice Ar nr cr, .int .i64 code, .int .i64 na, .int .i64 unit, .int .u8 wth, .slice D nd cd] := by rw [← hw2]; exact hX1.alloc _
 have hY2 : Held w2 w1.heap.size 29 #[.int .i64 k, .int .i64 wait, .int .i64 gap, .slice Ar nr cr, .int .i64 code, .int .i64 na, .int .i64 unit, .int .u8 wth, .slice D nd cd] := by rw [← hw2]; exact Held.new w1 _ _
 have hA2 : ActsI w2 (some ⟨w1.heap.size, 0, none⟩) 1 1 [⟨k, wait, gap, regs, code, na, unit, wth, data⟩] := ⟨rfl, by omega, by unfold maxLen; omega, (fun e => by cases e), fun _ => ⟨w1.heap.size, 0, rfl, hY2.lt, fun i a ha => by
  match i, ha with
  | 0, ha =>
   obtain rfl := (Option.some.inj ha).symm
   refine ⟨Ar, nr, cr, D, nd, cd, fun j v hv => ?_, h1.up b2, h2.up b2⟩
   have := hY2.cell j
   rw [Nat.zero_mul, Nat.zero_add, this]
   simpa [ActP.cells] using hv⟩⟩
 have HGR := Lib.hid (great22_any _ 1 1 [⟨k, wait, gap, regs, code, na, unit, wth, data⟩] w2 hA2)
 have HMY : Hid (∀ X, Below w.heap.size w X → Calls Tryd.prog 11 #[.agg #[.int .i64 k, .int .i64 wait, .int .i64 gap, .slice Ar nr cr, .int .i64 code, .int .i64 na, .int .i64 unit, .int .u8 wth, .slice D nd cd]] X fun e w' => e = .returned (.bool (mayA ⟨k, wait, gap, regs, code, na, unit, wth, data⟩)) ∧ Below X.heap.size X w') := Lib.hid (fun X h => rmay_any (.agg #[.int .i64 k, .int .i64 wait, .int .i64 gap, .slice Ar nr cr, .int .i64 code, .int .i64 na, .int .i64 unit, .int .u8 wth, .slice D nd cd]) ⟨k, wait, gap, regs, code, na, unit, wth, data⟩ X ⟨Ar, nr, cr, D, nd, cd, rfl, h1.up h, h2.up h⟩ hok)
 have HCK : Hid (∀ X, Below w.heap.size w X → Calls Tryd.prog 22 #[.agg #[.int .i64 k, .int .i64 wait, .int .i64 gap, .slice Ar nr cr, .int .i64 code, .int .i64 na, .int .i64 unit, .int .u8 wth, .slice D nd cd]] X fun e w' => e = .returned (.int .i64 (if mayA ⟨k, wait, gap, regs, code, na, unit, wth, data⟩ then 0 else 220)) ∧ Below X.heap.size X w') := Lib.hid (fun X h => bcheck_any (.agg #[.int .i64 k, .int .i64 wait, .int .i64 gap, .slice Ar nr cr, .int .i64 code, .int .i64 na, .int .i64 unit, .int .u8 wth, .slice D nd cd]) ⟨k, wait, gap, regs, code, na, unit, wth, data⟩ X (hN.up h) ⟨Ar, nr, cr, D, nd, cd, rfl, h1.up h, h2.up h⟩ hok)
 have HLO : Hid (∀ X, Below w.heap.size w X → Calls Tryd.prog 20 #[.agg #[.int .i64 k, .int .i64 wait, .int .i64 gap, .slice Ar nr cr, .int .i64 code, .int .i64 na, .int .i64 unit, .int .u8 wth, .slice D nd cd]] X fun e w' => e = .returned (.tuple #[.string (strB (if mayA ⟨k, wait, gap, regs, code, na, unit, wth, data⟩ then lineL ⟨k, wait, gap, regs, code, na, unit, wth, data⟩ else [])), .int .i64 (if mayA ⟨k, wait, gap, regs, code, na, unit, wth, data⟩ then 0 else 220)]) ∧ Below X.heap.size X w') := Lib.hid (fun X h => line_any (.agg #[.int .i64 k, .int .i64 wait, .int .i64 gap, .slice Ar nr cr, .int .i64 code, .int .i64 na, .int .i64 unit, .int .u8 wth, .slice D nd cd]) ⟨k, wait, gap, regs, code, na, unit, wth, data⟩ X (hN.up h) (tabIs_up hP h) ⟨Ar, nr, cr, D, nd, cd, rfl, h1.up h, h2.up h⟩ hok)
 have HLR : Hid (∀ X, Below w.heap.size w X → Calls Tryd.prog 23 #[.agg #[.int .i64 k, .int .i64 wait, .int .i64 gap, .slice Ar nr cr, .int .i64 code, .int .i64 na, .int .i64 unit, .int .u8 wth, .slice D nd cd]] X fun e w' => e = .returned (.tuple #[.string (strB (if mayA ⟨k, wait, gap, regs, code, na, unit, wth, data⟩ then lineL ⟨k, wait, gap, regs, code, na, unit, wth, data⟩ else [])), .int .i64 (if mayA ⟨k, wait, gap, regs, code, na, unit, wth, data⟩ then 0 else 220)]) ∧ Below X.heap.size X w') := Lib.hid (fun X h => rline_any (.agg #[.int .i64 k, .int .i64 wait, .int .i64 gap, .slice Ar nr cr, .int .i64 code, .int .i64 na, .int .i64 unit, .int .u8 wth, .slice D nd cd]) ⟨k, wait, gap, regs, code, na, unit, wth, data⟩ X ⟨Ar, nr, cr, D, nd, cd, rfl, h1.up h, h2.up h⟩ hok)
 have HBO : Hid (n ≤ 1000 → ∀ X, Below w.heap.size w X → Calls Tryd.prog 19 #[.slice A n c, .agg #[.int .i64 k, .int .i64 wait, .int .i64 gap, .slice Ar nr cr, .int .i64 code, .int .i64 na, .int .i64 unit, .int .u8 wth, .slice D nd cd]] X (SlPost X (bytesA req ⟨k, wait, gap, regs, code, na, unit, wth, data⟩))) := Lib.hid (fun hn X h => bbytes_any A n c req (.agg #[.int .i64 k, .int .i64 wait, .int .i64 gap, .slice Ar nr cr, .int .i64 code, .int .i64 na, .int .i64 unit, .int .u8 wth, .slice D nd cd]) ⟨k, wait, gap, regs, code, na, unit, wth, data⟩ X (hT.up h) (hN.up h) (hS.up h) hn h8 ⟨Ar, nr, cr, D, nd, cd, rfl, h1.up h, h2.up h⟩ hok)
 have HBR : Hid (n ≤ 1000 → ∀ X, Below w.heap.size w X → Calls Tryd.prog 24 #[.slice A n c, .agg #[.int .i64 k, .int .i64 wait, .int .i64 gap, .slice Ar nr cr, .int .i64 code, .int .i64 na, .int .i64 unit, .int .u8 wth, .slice D nd cd]] X (SlPost X (bytesA req ⟨k, wait, gap, regs, code, na, unit, wth, data⟩))) := Lib.hid (fun hn X h => docbytes_any A n c req (.agg #[.int .i64 k, .int .i64 wait, .int .i64 gap, .slice Ar nr cr, .int .i64 code, .int .i64 na, .int .i64 unit, .int .u8 wth, .slice D nd cd]) ⟨k, wait, gap, regs, code, na, unit, wth, data⟩ X (hS.up h) hn h8 ⟨Ar, nr, cr, D, nd, cd, rfl, h1.up h, h2.up h⟩ hok)
 have HNO : Hid (∀ X, Below w.heap.size w X → Calls Tryd.prog 25 #[.int .i64 kd] X fun e w' => e = .returned (.string (nameB kd)) ∧ X = w') := Lib.hid (fun X h => bname_any kd X (hN.up h))
 have HNR : Hid (∀ X, Below w.heap.size w X → Calls Tryd.prog 26 #[.int .i64 kd] X fun e w' => e = .returned (.string (nameB kd)) ∧ X = w') := Lib.hid (fun X h => rname_any kd X)
 obtain ⟨LB, hLB⟩ : ∃ b, strB (if mayA ⟨k, wait, gap, regs, code, na, unit, wth, data⟩ then lineL ⟨k, wait, gap, regs, code, na, unit, wth, data⟩ else []) = b := ⟨_, rfl⟩
 rw [hLB] at HLO HLR
 obtain ⟨BL, hBL⟩ : ∃ l, bytesA req ⟨k, wait, gap, regs, code, na, unit, wth, data⟩ = l := ⟨_, rfl⟩
 rw [hBL] at HBO HBR
 obtain ⟨T, hT⟩ : ∃ b, strOfNums BL = b := ⟨_, rfl⟩
 obtain ⟨NK, hNK⟩ : ∃ b, nameB kd = b := ⟨_, rfl⟩
 rw [hNK] at HNO HNR
 obtain ⟨m, hm⟩ : ∃ m, mayA ⟨k, wait, gap, regs, code, na, unit, wth, data⟩ = m := ⟨_, rfl⟩
 rw [hm] at HMY HCK HLO HLR
 obtain ⟨G, hG⟩ : ∃ q, greatB [⟨k, wait, gap, regs, code, na, unit, wth, data⟩] = q := ⟨_, rfl⟩
 rw [hG] at HGR
 have HT := Lib.hid hT
 have HB1 := Lib.hid b1
 have HX1 := Lib.hid hX1
 have HB2 := Lib.hid b2
 have HX2 := Lib.hid hX2
 obtain ⟨x0, x1, x2, x3, x4, x5, x6, x7, x8⟩ := zC9 hX1
 have hgl := hX1.lt
 have hnS := hS.1
 clear hLB hBL hNK hm hG b1 b2 hX1 hX2 hY2 hA2 hN hP hS h8 h1 h2 hok hz1
 go_in
 by_cases hn : 300 < n
 ·have d1 : decide ((300 : Int) < (n : Int)) = true := decide_eq_true (by omega)
  have d2 : decide (300 < n) = true := decide_eq_true hn
  go_wp2_with fail
  go_ret
  exact ⟨rfl, HB1.out⟩
 have d1 : decide ((300 : Int) < (n : Int)) = false := decide_eq_false (by omega)
 have d2 : decide (300 < n) = false := decide_eq_false hn
 replace HBO := Lib.hid (HBO.out (by omega))
 replace HBR := Lib.hid (HBR.out (by omega))
 cases G with
 | true =>
  rw [if_pos rfl] at HGR
  go_wp2_with (go_at_call 10; (with_reducible refine HGR.out.mono ?_); rintro e w' ⟨rfl, rfl⟩)
  go_ret
  exact ⟨rfl, HB2.out⟩
 | false =>
 rw [if_neg (by simp)] at HGR
 have hX := HX2.out
 obtain ⟨x0, x1, x2, x3, x4, x5, x6, x7, x8⟩ := zC9 hX
 clear hX
 go_wp2_with (go_at_call 10; (with_reducible refine HGR.out.mono ?_); rintro e w' ⟨rfl, rfl⟩)
 clear hw2
 cases m with
 | false =>
  simp only [Bool.false_eq_true, if_false] at HCK HLO HLR
  refine (HMY.out w2 HB2.out).mono ?_
  rintro e w3 ⟨rfl, b3⟩
  have hX := HX2.out.below b3 HX2.out.lt
  have HB3 := Lib.hid (HB2.out.trans (b3.mono HB2.out.size))
  clear x0 x1 x2 x3 x4 x5 x6 x7 x8 b3
  obtain ⟨x0, x1, x2, x3, x4, x5, x6, x7, x8⟩ := zC9 hX
  have HX3 := Lib.hid hX
  clear hX
  go_wp2_with fail
  refine (HCK.out w3 HB3.out).mono ?_
  rintro e w4 ⟨rfl, b4⟩
  have hX := HX3.out.below b4 HX3.out.lt
  have HB4 := Lib.hid (HB3.out.trans (b4.mono HB3.out.size))
  clear x0 x1 x2 x3 x4 x5 x6 x7 x8 b4
  obtain ⟨x0, x1, x2, x3, x4, x5, x6, x7, x8⟩ := zC9 hX
  have HX4 := Lib.hid hX
  clear hX
  go_wp2_with fail
  refine (HLO.out w4 HB4.out).mono ?_
  rintro e w5 ⟨rfl, b5⟩
  have hX := HX4.out.below b5 HX4.out.lt
  have HB5 := Lib.hid (HB4.out.trans (b5.mono HB4.out.size))
  clear x0 x1 x2 x3 x4 x5 x6 x7 x8 b5
  obtain ⟨x0, x1, x2, x3, x4, x5, x6, x7, x8⟩ := zC9 hX
  have HX5 := Lib.hid hX
  clear hX
  go_wp2_with fail
  refine (HLR.out w5 HB5.out).mono ?_
  rintro e w7 ⟨rfl, b7⟩
  have hX := HX5.out.below b7 HX5.out.lt
  have HB7 := Lib.hid (HB5.out.trans (b7.mono HB5.out.size))
  clear x0 x1 x2 x3 x4 x5 x6 x7 x8 b7
  obtain ⟨x0, x1, x2, x3, x4, x5, x6, x7, x8⟩ := zC9 hX
  have HX7 := Lib.hid hX
  clear hX
  have hgl := HX7.out.lt
  go_upto_region 7 with (fail)
  obtain ⟨wd7, hwd7⟩ : ∃ W : World, w7.drew = W := ⟨_, rfl⟩
  have hS : Below w7.heap.size w7 wd7 := by rw [← hwd7]; exact (Below.refl _ _).drew
  refine wp_region_held (S := Below w7.heap.size w7) (by kernel_rfl) ?_
  change wpAnyH _ _ _ _ _ _ _ _ w7.drew
  rw [hwd7]
  clear hwd7
  refine zT 0 rfl hS ?_
  simp only [Act.put, zA, zB, zC, zD, zE]
  refine zT 1 rfl hS ?_
  simp only [Act.put, zA, zF, zB, zC, zD, zE]
  refine zT 2 rfl hS ?_
  simp only [Act.put, zA, zF, zB, zC, zD, zE]
  refine zT 3 rfl hS ?_
  simp only [Act.put, zA, zF, zB, zC, zD, zE]
  refine zT 4 rfl hS ?_
  simp only [Act.put, zA, zF, zB, zC, zD, zE]
  refine zT 5 rfl hS ?_
  simp only [Act.put, zA, zF, zB, zC, zD, zE]
  refine zT 6 rfl hS ?_
  simp only [Act.put, zA, zF, zB, zC, zD, zE]
  refine zT 7 rfl hS ?_
  simp only [Act.put, zA, zF, zB, zC, zD, zE]
  refine zT 8 rfl hS ?_
  simp only [Act.put, zA, zF, zB, zC, zD, zE]
  refine zT 9 rfl hS ?_
  simp only [Act.put, zA, zF, zB, zC, zD, zE]
  refine zT 10 rfl hS ?_
  simp only [Act.put, zA, zF, zB, zC, zD, zE]
  refine zT 11 rfl hS ?_
  simp only [Act.put, zA, zF, zB, zC, zD, zE]
  refine zT 12 rfl hS ?_
  simp only [Act.put, zA, zF, zB, zC, zD, zE]
  refine zT 13 rfl hS ?_ (hy := fun W hH => by
   have q0 := (hH.cell (p := ⟨w.heap.size, 0, none⟩) hgl).trans x0
   have q1 := (hH.cell (p := ⟨w.heap.size, 1, none⟩) hgl).trans x1
   have q2 := (hH.cell (p := ⟨w.heap.size, 2, none⟩) hgl).trans x2
   have q3 := (hH.cell (p := ⟨w.heap.size, 3, none⟩) hgl).trans x3
   have q4 := (hH.cell (p := ⟨w.heap.size, 4, none⟩) hgl).trans x4
   have q5 := (hH.cell (p := ⟨w.heap.size, 5, none⟩) hgl).trans x5
   have q6 := (hH.cell (p := ⟨w.heap.size, 6, none⟩) hgl).trans x6
   have q7 := (hH.cell (p := ⟨w.heap.size, 7, none⟩) hgl).trans x7
   have q8 := (hH.cell (p := ⟨w.heap.size, 8, none⟩) hgl).trans x8
   go_simp
   with_reducible rfl)
  simp only [Act.put, zA, zF, zB, zC, zD, zE]
  refine zT 16 rfl hS ?_
  simp only [Act.put, zA, zF, zB, zC, zD, zE]
  refine zT 17 rfl hS ?_ (hy := fun W hH => by
   have q0 := (hH.cell (p := ⟨w.heap.size, 0, none⟩) hgl).trans x0
   have q1 := (hH.cell (p := ⟨w.heap.size, 1, none⟩) hgl).trans x1
   have q2 := (hH.cell (p := ⟨w.heap.size, 2, none⟩) hgl).trans x2
   have q3 := (hH.cell (p := ⟨w.heap.size, 3, none⟩) hgl).trans x3
   have q4 := (hH.cell (p := ⟨w.heap.size, 4, none⟩) hgl).trans x4
   have q5 := (hH.cell (p := ⟨w.heap.size, 5, none⟩) hgl).trans x5
   have q6 := (hH.cell (p := ⟨w.heap.size, 6, none⟩) hgl).trans x6
   have q7 := (hH.cell (p := ⟨w.heap.size, 7, none⟩) hgl).trans x7
   have q8 := (hH.cell (p := ⟨w.heap.size, 8, none⟩) hgl).trans x8
   go_simp
   with_reducible rfl)
  simp only [Act.put, zA, zF, zB, zC, zD, zE]
  refine zR 14 rfl (fun K' hK' => ?_)
  go_simp
  refine (HBO.out _ (HB7.out.trans (hS.mono HB7.out.size))).mono ?_
  rintro e V14 ⟨A4, n4, c4, rfl, s4, b4⟩
  dsimp only
  refine hK'.out _ _ (hS.trans (b4.mono hS.size)) (fun hS => ?_)
  clear hK' K'
  have h4 := hS
  refine wpAnyH_str (S' := fun W => Below V14.heap.size V14 W) (fun W h => h4.trans (h.mono h4.size)) _ _ _ _ ?_
  replace hS := Below.refl V14.heap.size V14
  have HV4 : Hid (∀ W, Below V14.heap.size V14 W → (convert 22 9 (.slice A4 n4 c4)).run Tryd.prog W = .ok (.string T) W) := Lib.hid (fun W h => by rw [← hT]; exact conv_sli (s4.up h))
  refine zT 15 rfl hS ?_ (hy := fun W hH => by
   have kp := HV4.out W hH
   go_simp
   with_reducible rfl)
  simp only [Act.put, zA, zF, zB, zC, zD, zE]
  refine zR 18 rfl (fun K' hK' => ?_)
  go_simp
  refine (HBR.out _ (HB7.out.trans ((h4.trans (hS.mono h4.size)).mono HB7.out.size))).mono ?_
  rintro e V18 ⟨A8, n8, c8, rfl, s8, b8⟩
  dsimp only
  refine hK'.out _ _ (hS.trans (b8.mono hS.size)) (fun hS => ?_)
  clear hK' K'
  have h8 := hS
  refine wpAnyH_str (S' := fun W => Below V18.heap.size V18 W) (fun W h => h8.trans (h.mono h8.size)) _ _ _ _ ?_
  replace hS := Below.refl V18.heap.size V18
  have HV8 : Hid (∀ W, Below V18.heap.size V18 W → (convert 22 9 (.slice A8 n8 c8)).run Tryd.prog W = .ok (.string T) W) := Lib.hid (fun W h => by rw [← hT]; exact conv_sli (s8.up h))
  have HEND := Lib.hid (HB7.out.trans ((h4.trans (h8.mono h4.size)).mono HB7.out.size))
  refine zT 19 rfl hS ?_ (hy := fun W hH => by
   have kp := HV8.out W hH
   go_simp
   with_reducible rfl)
  simp only [Act.put, zA, zF, zB, zC, zD, zE]
  refine zT 20 rfl hS ?_
  simp only [Act.put, zA, zF, zB, zC, zD, zE]
  refine zT 21 rfl hS ?_
  simp only [Act.put, zA, zF, zB, zC, zD, zE]
  refine zT 22 rfl hS ?_
  simp only [Act.put, zA, zF, zB, zC, zD, zE]
  refine zT 23 rfl hS ?_
  simp only [Act.put, zA, zF, zB, zC, zD, zE]
  refine zT 24 rfl hS ?_
  simp only [Act.put, zA, zF, zB, zC, zD, zE]
  refine zT 25 rfl hS ?_
  simp only [Act.put, zA, zF, zB, zC, zD, zE]
  refine zT 26 rfl hS ?_
  simp only [Act.put, zA, zF, zB, zC, zD, zE]
  refine zT 27 rfl hS ?_
  simp only [Act.put, zA, zF, zB, zC, zD, zE]
  refine zT 28 rfl hS ?_
  simp only [Act.put, zA, zF, zB, zC, zD, zE]
  refine zT 29 rfl hS ?_
  simp only [Act.put, zA, zF, zB, zC, zD, zE]
  refine zT 30 rfl hS ?_
  simp only [Act.put, zA, zF, zB, zC, zD, zE]
  refine zT 31 rfl hS ?_
  simp only [Act.put, zA, zF, zB, zC, zD, zE]
  refine zT 32 rfl hS ?_
  simp only [Act.put, zA, zF, zB, zC, zD, zE]
  refine zT 33 rfl hS ?_
  simp only [Act.put, zA, zF, zB, zC, zD, zE]
  refine zT 35 rfl hS ?_
  simp only [Act.put, zA, zF, zB, zC, zD, zE]
  refine zR 34 rfl (fun K' hK' => ?_)
  go_simp
  refine (HNO.out _ (HEND.out.trans (hS.mono HEND.out.size))).mono ?_
  rintro e V34 ⟨rfl, rfl⟩
  dsimp only
  refine hK'.out _ _ hS (fun hS => ?_)
  clear hK' K'
  refine zR 36 rfl (fun K' hK' => ?_)
  go_simp
  refine (HNR.out _ (HEND.out.trans (hS.mono HEND.out.size))).mono ?_
  rintro e V36 ⟨rfl, rfl⟩
  dsimp only
  refine hK'.out _ _ hS (fun hS => ?_)
  clear hK' K'
  refine zT 37 rfl hS ?_
  simp only [Act.put, zA, zF, zB, zC, zD, zE]
  refine zT 38 rfl hS ?_
  simp only [Act.put, zA, zF, zB, zC, zD, zE]
  refine zT 39 rfl hS ?_
  simp only [Act.put, zA, zF, zB, zC, zD, zE]
  refine wpAnyH_done (by kernel_rfl) ?_ _
  go_wp2_with fail
  go_ret
  exact ⟨retb (by simp), HEND.out.trans (hS.mono HEND.out.size)⟩
 | true =>
  simp only [if_true] at HCK HLO HLR
  refine (HMY.out w2 HB2.out).mono ?_
  rintro e w3 ⟨rfl, b3⟩
  have hX := HX2.out.below b3 HX2.out.lt
  have HB3 := Lib.hid (HB2.out.trans (b3.mono HB2.out.size))
  clear x0 x1 x2 x3 x4 x5 x6 x7 x8 b3
  obtain ⟨x0, x1, x2, x3, x4, x5, x6, x7, x8⟩ := zC9 hX
  have HX3 := Lib.hid hX
  clear hX
  go_wp2_with fail
  refine (HCK.out w3 HB3.out).mono ?_
  rintro e w4 ⟨rfl, b4⟩
  have hX := HX3.out.below b4 HX3.out.lt
  have HB4 := Lib.hid (HB3.out.trans (b4.mono HB3.out.size))
  clear x0 x1 x2 x3 x4 x5 x6 x7 x8 b4
  obtain ⟨x0, x1, x2, x3, x4, x5, x6, x7, x8⟩ := zC9 hX
  have HX4 := Lib.hid hX
  clear hX
  go_wp2_with fail
  refine (HLO.out w4 HB4.out).mono ?_
  rintro e w5 ⟨rfl, b5⟩
  have hX := HX4.out.below b5 HX4.out.lt
  have HB5 := Lib.hid (HB4.out.trans (b5.mono HB4.out.size))
  clear x0 x1 x2 x3 x4 x5 x6 x7 x8 b5
  obtain ⟨x0, x1, x2, x3, x4, x5, x6, x7, x8⟩ := zC9 hX
  have HX5 := Lib.hid hX
  clear hX
  go_wp2_with fail
  refine (HLR.out w5 HB5.out).mono ?_
  rintro e w7 ⟨rfl, b7⟩
  have hX := HX5.out.below b7 HX5.out.lt
  have HB7 := Lib.hid (HB5.out.trans (b7.mono HB5.out.size))
  clear x0 x1 x2 x3 x4 x5 x6 x7 x8 b7
  obtain ⟨x0, x1, x2, x3, x4, x5, x6, x7, x8⟩ := zC9 hX
  have HX7 := Lib.hid hX
  clear hX
  have hgl := HX7.out.lt
  go_upto_region 7 with (fail)
  obtain ⟨wd7, hwd7⟩ : ∃ W : World, w7.drew = W := ⟨_, rfl⟩
  have hS : Below w7.heap.size w7 wd7 := by rw [← hwd7]; exact (Below.refl _ _).drew
  refine wp_region_held (S := Below w7.heap.size w7) (by kernel_rfl) ?_
  change wpAnyH _ _ _ _ _ _ _ _ w7.drew
  rw [hwd7]
  clear hwd7
  refine zT 0 rfl hS ?_
  simp only [Act.put, zA, zB, zC, zD, zE]
  refine zT 1 rfl hS ?_
  simp only [Act.put, zA, zF, zB, zC, zD, zE]
  refine zT 2 rfl hS ?_
  simp only [Act.put, zA, zF, zB, zC, zD, zE]
  refine zT 3 rfl hS ?_
  simp only [Act.put, zA, zF, zB, zC, zD, zE]
  refine zT 4 rfl hS ?_
  simp only [Act.put, zA, zF, zB, zC, zD, zE]
  refine zT 5 rfl hS ?_
  simp only [Act.put, zA, zF, zB, zC, zD, zE]
  refine zT 6 rfl hS ?_
  simp only [Act.put, zA, zF, zB, zC, zD, zE]
  refine zN 7 rfl hS ?_
  simp only [Act.put, zA, zF, zB, zC, zD, zE]
  refine zN 8 rfl hS ?_
  simp only [Act.put, zA, zF, zB, zC, zD, zE]
  refine zT 9 rfl hS ?_
  simp only [Act.put, zA, zF, zB, zC, zD, zE]
  refine zT 10 rfl hS ?_
  simp only [Act.put, zA, zF, zB, zC, zD, zE]
  refine zT 11 rfl hS ?_
  simp only [Act.put, zA, zF, zB, zC, zD, zE]
  refine zT 12 rfl hS ?_
  simp only [Act.put, zA, zF, zB, zC, zD, zE]
  refine zT 13 rfl hS ?_ (hy := fun W hH => by
   have q0 := (hH.cell (p := ⟨w.heap.size, 0, none⟩) hgl).trans x0
   have q1 := (hH.cell (p := ⟨w.heap.size, 1, none⟩) hgl).trans x1
   have q2 := (hH.cell (p := ⟨w.heap.size, 2, none⟩) hgl).trans x2
   have q3 := (hH.cell (p := ⟨w.heap.size, 3, none⟩) hgl).trans x3
   have q4 := (hH.cell (p := ⟨w.heap.size, 4, none⟩) hgl).trans x4
   have q5 := (hH.cell (p := ⟨w.heap.size, 5, none⟩) hgl).trans x5
   have q6 := (hH.cell (p := ⟨w.heap.size, 6, none⟩) hgl).trans x6
   have q7 := (hH.cell (p := ⟨w.heap.size, 7, none⟩) hgl).trans x7
   have q8 := (hH.cell (p := ⟨w.heap.size, 8, none⟩) hgl).trans x8
   go_simp
   with_reducible rfl)
  simp only [Act.put, zA, zF, zB, zC, zD, zE]
  refine zT 16 rfl hS ?_
  simp only [Act.put, zA, zF, zB, zC, zD, zE]
  refine zT 17 rfl hS ?_ (hy := fun W hH => by
   have q0 := (hH.cell (p := ⟨w.heap.size, 0, none⟩) hgl).trans x0
   have q1 := (hH.cell (p := ⟨w.heap.size, 1, none⟩) hgl).trans x1
   have q2 := (hH.cell (p := ⟨w.heap.size, 2, none⟩) hgl).trans x2
   have q3 := (hH.cell (p := ⟨w.heap.size, 3, none⟩) hgl).trans x3
   have q4 := (hH.cell (p := ⟨w.heap.size, 4, none⟩) hgl).trans x4
   have q5 := (hH.cell (p := ⟨w.heap.size, 5, none⟩) hgl).trans x5
   have q6 := (hH.cell (p := ⟨w.heap.size, 6, none⟩) hgl).trans x6
   have q7 := (hH.cell (p := ⟨w.heap.size, 7, none⟩) hgl).trans x7
   have q8 := (hH.cell (p := ⟨w.heap.size, 8, none⟩) hgl).trans x8
   go_simp
   with_reducible rfl)
  simp only [Act.put, zA, zF, zB, zC, zD, zE]
  refine zR 14 rfl (fun K' hK' => ?_)
  go_simp
  refine (HBO.out _ (HB7.out.trans (hS.mono HB7.out.size))).mono ?_
  rintro e V14 ⟨A4, n4, c4, rfl, s4, b4⟩
  dsimp only
  refine hK'.out _ _ (hS.trans (b4.mono hS.size)) (fun hS => ?_)
  clear hK' K'
  have h4 := hS
  refine wpAnyH_str (S' := fun W => Below V14.heap.size V14 W) (fun W h => h4.trans (h.mono h4.size)) _ _ _ _ ?_
  replace hS := Below.refl V14.heap.size V14
  have HV4 : Hid (∀ W, Below V14.heap.size V14 W → (convert 22 9 (.slice A4 n4 c4)).run Tryd.prog W = .ok (.string T) W) := Lib.hid (fun W h => by rw [← hT]; exact conv_sli (s4.up h))
  refine zT 15 rfl hS ?_ (hy := fun W hH => by
   have kp := HV4.out W hH
   go_simp
   with_reducible rfl)
  simp only [Act.put, zA, zF, zB, zC, zD, zE]
  refine zR 18 rfl (fun K' hK' => ?_)
  go_simp
  refine (HBR.out _ (HB7.out.trans ((h4.trans (hS.mono h4.size)).mono HB7.out.size))).mono ?_
  rintro e V18 ⟨A8, n8, c8, rfl, s8, b8⟩
  dsimp only
  refine hK'.out _ _ (hS.trans (b8.mono hS.size)) (fun hS => ?_)
  clear hK' K'
  have h8 := hS
  refine wpAnyH_str (S' := fun W => Below V18.heap.size V18 W) (fun W h => h8.trans (h.mono h8.size)) _ _ _ _ ?_
  replace hS := Below.refl V18.heap.size V18
  have HV8 : Hid (∀ W, Below V18.heap.size V18 W → (convert 22 9 (.slice A8 n8 c8)).run Tryd.prog W = .ok (.string T) W) := Lib.hid (fun W h => by rw [← hT]; exact conv_sli (s8.up h))
  have HEND := Lib.hid (HB7.out.trans ((h4.trans (h8.mono h4.size)).mono HB7.out.size))
  refine zT 19 rfl hS ?_ (hy := fun W hH => by
   have kp := HV8.out W hH
   go_simp
   with_reducible rfl)
  simp only [Act.put, zA, zF, zB, zC, zD, zE]
  refine zT 20 rfl hS ?_
  simp only [Act.put, zA, zF, zB, zC, zD, zE]
  refine zT 21 rfl hS ?_
  simp only [Act.put, zA, zF, zB, zC, zD, zE]
  refine zT 22 rfl hS ?_
  simp only [Act.put, zA, zF, zB, zC, zD, zE]
  refine zT 23 rfl hS ?_
  simp only [Act.put, zA, zF, zB, zC, zD, zE]
  refine zT 24 rfl hS ?_
  simp only [Act.put, zA, zF, zB, zC, zD, zE]
  refine zT 25 rfl hS ?_
  simp only [Act.put, zA, zF, zB, zC, zD, zE]
  refine zT 26 rfl hS ?_
  simp only [Act.put, zA, zF, zB, zC, zD, zE]
  refine zT 27 rfl hS ?_
  simp only [Act.put, zA, zF, zB, zC, zD, zE]
  refine zT 28 rfl hS ?_
  simp only [Act.put, zA, zF, zB, zC, zD, zE]
  refine zT 29 rfl hS ?_
  simp only [Act.put, zA, zF, zB, zC, zD, zE]
  refine zT 30 rfl hS ?_
  simp only [Act.put, zA, zF, zB, zC, zD, zE]
  refine zT 31 rfl hS ?_
  simp only [Act.put, zA, zF, zB, zC, zD, zE]
  refine zT 32 rfl hS ?_
  simp only [Act.put, zA, zF, zB, zC, zD, zE]
  refine zT 33 rfl hS ?_
  simp only [Act.put, zA, zF, zB, zC, zD, zE]
  refine zT 35 rfl hS ?_
  simp only [Act.put, zA, zF, zB, zC, zD, zE]
  refine zR 34 rfl (fun K' hK' => ?_)
  go_simp
  refine (HNO.out _ (HEND.out.trans (hS.mono HEND.out.size))).mono ?_
  rintro e V34 ⟨rfl, rfl⟩
  dsimp only
  refine hK'.out _ _ hS (fun hS => ?_)
  clear hK' K'
  refine zR 36 rfl (fun K' hK' => ?_)
  go_simp
  refine (HNR.out _ (HEND.out.trans (hS.mono HEND.out.size))).mono ?_
  rintro e V36 ⟨rfl, rfl⟩
  dsimp only
  refine hK'.out _ _ hS (fun hS => ?_)
  clear hK' K'
  refine zT 37 rfl hS ?_
  simp only [Act.put, zA, zF, zB, zC, zD, zE]
  refine zT 38 rfl hS ?_
  simp only [Act.put, zA, zF, zB, zC, zD, zE]
  refine zT 39 rfl hS ?_
  simp only [Act.put, zA, zF, zB, zC, zD, zE]
  refine wpAnyH_done (by kernel_rfl) ?_ _
  go_wp2_with fail
  go_ret
  exact ⟨retb (by simp), HEND.out.trans (hS.mono HEND.out.size)⟩
end Go.Proofs.YtcipleanckeoaaaDoor
