/- bus.Bytes. -/
import Derived.Test.YtcipleanckeoaaaDoorYTk
import Derived.Test.YtcipleanckeoaaaDoorYBusRight
import Derived.Test.YtcipleanckeoaaaDoorYBusCheck
import Derived.Deep.Cut
set_option maxRecDepth 100000
set_option maxHeartbeats 40000000
namespace Go.Proofs.YtcipleanckeoaaaDoor
open Go.RowKit
attribute [local go_sem] Oper.semAt_some
set_option linter.unusedVariables false
set_option linter.unusedSimpArgs false
def spoilL (out : List Int) (n wth : Int) : List Int := out.set (n.toNat % out.length) (Go.bits BinOp.xor IntKind.u8 (out.getD (n.toNat % out.length) 0) wth)
def bytesA (req : List Int) (a : ActP) : List Int :=
 if mayA a = false then [] else
 if a.kind = 7 then a.data
 else if a.kind = 3 then []
 else if a.kind = 6 then rightP req a.regs a.unit
 else if a.kind = 2 then match readR req with
  | none => []
  | some (u, pdu) => if u = 0 then [] else (rtuB u [128 + pdu.getD 0 0 % 128, a.code]).getD []
 else if a.kind = 4 then (rightP req a.regs (-1)).take a.n.toNat
 else if a.kind = 5 then spoilL (rightP req a.regs (-1)) a.n a.wth
 else rightP req a.regs (-1)
theorem SlI.setAt {W : World} {k : IntKind} {g off n c : Nat} {xs : List Int} (h : SlI W W.heap.size k (some ⟨g, off, none⟩) n c xs) (i : Nat) (y : Int) (hi : i < xs.length) :
  SlI (W.setCell ⟨g, off + i, none⟩ (.int k y)) (W.setCell ⟨g, off + i, none⟩ (.int k y)).heap.size k (some ⟨g, off, none⟩) n c (xs.set i y) := by
 refine ⟨by rw [List.length_set]; exact h.1, h.2.1, h.2.2.1, h.2.2.2.1, fun hn => ?_⟩
 rw [List.length_set] at hn
 obtain ⟨gb, o, ea, hlt, hc⟩ := h.2.2.2.2 hn
 obtain ⟨rfl, rfl⟩ : g = gb ∧ off = o := by simpa using ea
 refine ⟨g, off, rfl, by simpa using hlt, fun j x hx => ?_⟩
 by_cases hj : i = j
 ·subst hj
  rw [List.getElem?_set_self (by omega)] at hx
  cases hx
  exact World.cell?_setCell_same _ _ _ (hc i _ (List.getElem?_eq_getElem hi))
 ·rw [List.getElem?_set_ne hj] at hx
  exact (World.cell?_setCell_other _ _ _ _ (by intro e; injection e with e1 e2; omega)).trans (hc j x hx)
theorem clone8_any (D : Option Addr) (n c : Nat) (xs : List Int) (w : World) (hS : SlI w w.heap.size .u8 D n c xs) (hn : n ≤ 100000) :
  Calls Tryd.prog 51 #[.slice D n c] w (SlPost w xs) := by
 obtain ⟨i0, hi, hz0, hz1, hz2⟩ := info_parts infoB
 cases D with
 | none =>
  obtain ⟨rfl, rfl⟩ := hS.2.2.2.1 rfl
  obtain rfl : xs = [] := List.length_eq_zero_iff.1 hS.1
  have heq := fun (W : World) => Lib.run_eql_slice_nil (P := Tryd.prog) W 22 5 none 0 0 0 0 Tryd.underlying22
  clear hS
  go_in
  go_wp2
  go_ret
  exact ⟨none, 0, 0, rfl, SlI.nil _ _ _, Below.refl _ _⟩
 | some p =>
  have heq := fun (W : World) => Lib.run_eql_slice_nil (P := Tryd.prog) W 22 5 (some p) n c 0 0 Tryd.underlying22
  obtain ⟨w1, hw1⟩ : ∃ Y : World, w.alloc (.cells #[] 5) = Y := ⟨_, rfl⟩
  have b1 := zB1 hw1
  have o1 : w1.ownsRow w.heap.size 5 1 (.slice (some ⟨w.heap.size, 0, none⟩) 0 0) 0 (([] : List Int).map (Value.int .u8)) := by
   rw [← hw1]; exact World.ownsRow_lit w #[] 0 (Nat.le_refl _) (by unfold maxLen; omega) rfl
  have s1 := hS.up b1
  have HA1 := Lib.hid (show 0 + n ≤ maxLen ∧ (0 + n) * 1 ≤ 140737488355328 by unfold maxLen; omega)
  have hz := b1.size
  clear hS
  go_in
  go_wp2_with ((with_reducible refine at_append ?_); refine wpList_append_sl w1 rfl (.tmp 5) (.tmp 6) 22 rfl w.heap.size 5 i0 (.int .u8 0) 1 Tryd.underlying22 hi hz0 hz1 hz2 rfl _ 0 _ rfl o1 w1.heap.size .u8 (some p) n c xs rfl s1 HA1.out.1 HA1.out.2 hz ?_; intro v2 w2 hO2 hg2 _; have hb2 := b1.grown hg2 hz (fun B hB => (o1.lt B hB).1); clear hg2)
  obtain ⟨A2, c2, rfl, hs2⟩ := SlI.of_own (xs := xs) (by simpa using hO2)
  go_ret
  exact ⟨A2, _, c2, rfl, hs2, hb2⟩
theorem refuse_up (fn code : Int) (w W : World) (h : Below w.heap.size w W) :
  Calls Tryd.prog 53 #[.int .i64 fn, .int .i64 code] W fun e w' => ∃ A, e = .returned (.slice A 2 2) ∧ SlI w' w'.heap.size .u8 A 2 2 [128 + fn % 128, code % 256] ∧ Below w.heap.size w w' := by
 refine (refuse_any fn code W).mono ?_
 rintro e w' ⟨rfl, rfl⟩
 exact ⟨_, rfl, SlI.of_lit rfl rfl (by omega), h.alloc h.size _⟩
theorem bbytes_any (A : Option Addr) (n c : Nat) (req : List Int) (v : Value) (a : ActP) (w : World) (hT : LimT w) (hN : NamesT w) (hS : SlI w w.heap.size .u8 A n c req) (hn : n ≤ 1000) (h8 : Byte8 req) (hA : ActAt w v a) (hok : a.ok) :
  Calls Tryd.prog 19 #[.slice A n c, v] w (SlPost w (bytesA req a)) := by
 obtain ⟨Ar, nr, cr, D, nd, cd, rfl, h1, h2⟩ := hA
 obtain ⟨w1, hw1⟩ : ∃ W, w.alloc (.cells (a.cells Ar nr cr D nd cd) 29) = W := ⟨_, rfl⟩
 have b1 := zB1 hw1
 have hX1 := zH1 hw1
 have HC := Lib.hid (bcheck_any (.agg (a.cells Ar nr cr D nd cd)) a w1 (hN.up b1) ⟨Ar, nr, cr, D, nd, cd, rfl, h1.up b1, h2.up b1⟩ hok)
 have HX1 := Lib.hid hX1
 have HB1 := Lib.hid b1
 have HT := Lib.hid (fun (V : World) (h : Below w.heap.size w V) => hT.up h)
 have HS := Lib.hid (fun (V : World) (h : Below w.heap.size w V) => hS.up h)
 have HRG := Lib.hid (fun (V : World) (h : Below w.heap.size w V) => h1.up h)
 have HD := Lib.hid (fun (V : World) (h : Below w.heap.size w V) => h2.up h)
 have HOK := Lib.hid hok
 have H8 := Lib.hid h8
 have hrl := h1.1
 have hdl := h2.1
 obtain ⟨kind, wait, gap, regs, code, na, unit, wth, data⟩ := a
 dsimp only at hrl hdl
 unfold ActP.cells at *
 dsimp only at *
 have x0 : w1.cell? ⟨w.heap.size, 0, none⟩ = some (.int .i64 kind) := hX1.cell 0
 have x1 : w1.cell? ⟨w.heap.size, 1, none⟩ = some (.int .i64 wait) := hX1.cell 1
 have x2 : w1.cell? ⟨w.heap.size, 2, none⟩ = some (.int .i64 gap) := hX1.cell 2
 have x3 : w1.cell? ⟨w.heap.size, 3, none⟩ = some (.slice Ar nr cr) := hX1.cell 3
 have x4 : w1.cell? ⟨w.heap.size, 4, none⟩ = some (.int .i64 code) := hX1.cell 4
 have x5 : w1.cell? ⟨w.heap.size, 5, none⟩ = some (.int .i64 na) := hX1.cell 5
 have x6 : w1.cell? ⟨w.heap.size, 6, none⟩ = some (.int .i64 unit) := hX1.cell 6
 have x7 : w1.cell? ⟨w.heap.size, 7, none⟩ = some (.int .u8 wth) := hX1.cell 7
 have x8 : w1.cell? ⟨w.heap.size, 8, none⟩ = some (.slice D nd cd) := hX1.cell 8
 clear hX1 b1 hT hN hS h1 h2 hok h8
 go_in
 go_wp2_with fail
 refine HC.out.mono ?_
 rintro e w2 ⟨rfl, b2⟩
 have hX2 := HX1.out.below b2 HX1.out.lt
 have HB2 := Lib.hid (HB1.out.trans (b2.mono HB1.out.size))
 have x0 : w2.cell? ⟨w.heap.size, 0, none⟩ = some (.int .i64 kind) := hX2.cell 0
 have x3 : w2.cell? ⟨w.heap.size, 3, none⟩ = some (.slice Ar nr cr) := hX2.cell 3
 have x4 : w2.cell? ⟨w.heap.size, 4, none⟩ = some (.int .i64 code) := hX2.cell 4
 have x5 : w2.cell? ⟨w.heap.size, 5, none⟩ = some (.int .i64 na) := hX2.cell 5
 have x6 : w2.cell? ⟨w.heap.size, 6, none⟩ = some (.int .i64 unit) := hX2.cell 6
 have x7 : w2.cell? ⟨w.heap.size, 7, none⟩ = some (.int .u8 wth) := hX2.cell 7
 have x8 : w2.cell? ⟨w.heap.size, 8, none⟩ = some (.slice D nd cd) := hX2.cell 8
 have HX2 := Lib.hid hX2
 clear b2 hX2
 obtain ⟨m, hm⟩ : ∃ m, mayA ⟨kind, wait, gap, regs, code, na, unit, wth, data⟩ = m := ⟨_, rfl⟩
 rw [hm]
 have HE := Lib.hid (show bytesA req ⟨kind, wait, gap, regs, code, na, unit, wth, data⟩ = _ from rfl)
 have hmq : m = true → mayQ ⟨kind, wait, gap, regs, code, na, unit, wth, data⟩ := fun h => by
  rw [h] at hm; exact of_decide_eq_true hm
 have HQ := Lib.hid hmq
 clear hmq
 have hbe : bytesA req ⟨kind, wait, gap, regs, code, na, unit, wth, data⟩ = if m = false then [] else
  if kind = 7 then data
  else if kind = 3 then []
  else if kind = 6 then rightP req regs unit
  else if kind = 2 then match readR req with
   | none => []
   | some (u, pdu) => if u = 0 then [] else (rtuB u [128 + pdu.getD 0 0 % 128, code]).getD []
  else if kind = 4 then (rightP req regs (-1)).take na.toNat
  else if kind = 5 then spoilL (rightP req regs (-1)) na wth
  else rightP req regs (-1) := by unfold bytesA; rw [hm]
 clear HE hm
 cases m with
 | false =>
  rw [if_pos rfl] at hbe
  have HE := Lib.hid hbe
  clear hbe
  go_wp2_with fail
  go_ret
  rw [HE.out]
  exact ⟨none, 0, 0, rfl, SlI.nil _ _ _, HB2.out⟩
 | true =>
  rw [if_neg (by simp)] at hbe
  have hq := HQ.out rfl
  have hk := hq.1
  have HQ2 := Lib.hid hq
  dsimp only at hk
  clear HQ hq
  rcases (show kind = 7 ∨ kind = 3 ∨ kind = 6 ∨ kind = 2 ∨ kind = 4 ∨ kind = 5 ∨ kind = 1 by omega) with rfl | rfl | rfl | rfl | rfl | rfl | rfl
  ·have HE := Lib.hid hbe
   have H7 := Lib.hid (clone8_any D nd cd data w2 (HD.out w2 HB2.out) (by have := HQ2.out.2.2.2.2.1; dsimp only at this; omega))
   clear hbe
   go_wp2_with fail
   refine H7.out.mono ?_
   rintro e w3 ⟨A3, n3, c3, rfl, s3, b3⟩
   have HO := Lib.hid (And.intro s3 b3)
   clear s3 b3
   go_wp2_with fail
   go_ret
   rw [HE.out]
   exact ⟨A3, n3, c3, rfl, HO.out.1, HB2.out.trans (HO.out.2.mono HB2.out.size)⟩
  ·have HE := Lib.hid hbe
   clear hbe
   go_wp2_with fail
   go_ret
   rw [HE.out]
   exact ⟨none, 0, 0, rfl, SlI.nil _ _ _, HB2.out⟩
  ·have HE := Lib.hid hbe
   have H7 := Lib.hid (right_any A n c req Ar nr cr regs unit w2 (HT.out w2 HB2.out) (HS.out w2 HB2.out) hn H8.out (HRG.out w2 HB2.out) HOK.out.2.2.2.1 (by have := HQ2.out.2.2.2.1; dsimp only at this; omega))
   clear hbe
   go_wp2_with fail
   refine H7.out.mono ?_
   rintro e w3 ⟨v3, n3, rfl, o3, b3⟩
   obtain ⟨A3, c3, rfl, s3⟩ := SlI.of_own o3
   have HO := Lib.hid (And.intro s3 b3)
   clear s3 b3 o3
   go_wp2_with fail
   go_ret
   rw [HE.out]
   exact ⟨A3, n3, c3, rfl, HO.out.1, HB2.out.trans (HO.out.2.mono HB2.out.size)⟩
  ·have H7 := Lib.hid (rread_any A n c req w2 (HS.out w2 HB2.out) (by omega) H8.out)
   have hcode : 1 ≤ code ∧ code ≤ 11 := HQ2.out.2.2.2.2.2.2.2.2.2.2.2.1 rfl
   have HBE := Lib.hid hbe
   clear hbe
   go_wp2_with fail
   refine H7.out.mono ?_
   rintro e w3 ⟨A3, n3, c3, rfl, s3, b3⟩
   have hbe := HBE.out
   cases hq : readR req with
   | none =>
    rw [hq] at hbe
    have HE := Lib.hid hbe
    have HO := Lib.hid (HB2.out.trans (b3.mono HB2.out.size))
    rw [hq] at s3
    clear hbe s3 b3 hq
    go_wp2_with fail
    go_ret
    rw [HE.out]
    exact ⟨none, 0, 0, rfl, SlI.nil _ _ _, HO.out.alloc HO.out.size _⟩
   | some q =>
    obtain ⟨u, pdu⟩ := q
    obtain ⟨hu, hp8, hp1, hp2⟩ := readR_facts H8.out hq
    rw [hq] at hbe s3
    have s3 : SlI w3 w3.heap.size .u8 A3 n3 c3 pdu := s3
    have hbe : bytesA req ⟨2, wait, gap, regs, code, na, unit, wth, data⟩ = if u = 0 then [] else (rtuB u [128 + pdu.getD 0 0 % 128, code]).getD [] := hbe
    obtain ⟨w4, hw4⟩ : ∃ Y : World, w3.alloc (.cells #[.int .i64 u, .slice A3 n3 c3] 64) = Y := ⟨_, rfl⟩
    have b34 := zB1 hw4
    have F4 := zH1 hw4
    have b24 := b3.trans (b34.mono b3.size)
    have bw4 := HB2.out.trans (b24.mono HB2.out.size)
    have k0 : w4.cell? ⟨w3.heap.size, 0, none⟩ = some (.int .i64 u) := F4.cell 0
    have k1 : w4.cell? ⟨w3.heap.size, 1, none⟩ = some (.slice A3 n3 c3) := F4.cell 1
    have x4 : w4.cell? ⟨w.heap.size, 4, none⟩ = some (.int .i64 code) := (HX2.out.below b24 HX2.out.lt).cell 4
    have HB4 := Lib.hid bw4
    by_cases hu0 : u = 0
    ·rw [if_pos hu0] at hbe
     have HE := Lib.hid hbe
     have hb : (u == 0) = true := by simp [hu0]
     clear hbe s3 b3 hq hu0
     go_wp2_with fail
     go_ret
     rw [HE.out]
     exact ⟨none, 0, 0, rfl, SlI.nil _ _ _, HB4.out⟩
    ·rw [if_neg hu0] at hbe
     have HE := Lib.hid hbe
     have hb : (u == 0) = false := by simp [hu0]
     obtain ⟨x, hx⟩ : ∃ x, pdu[0]? = some x := ⟨_, List.getElem?_eq_getElem (by omega)⟩
     have hgx : pdu.getD 0 0 = x := by rw [List.getD, hx]; rfl
     have hx8 := hp8 x (List.mem_of_getElem? hx)
     obtain ⟨g, off, rfl, hlt, hcc⟩ := (s3.up b34).2.2.2.2 (by omega)
     have hcx : w4.cell? ⟨g, off + 0, none⟩ = some (.int .u8 x) := hcc 0 x hx
     rw [Nat.add_zero] at hcx
     have hn3 : n3 = pdu.length := s3.1.symm
     have hn0 : (0 : Int) < (n3 : Int) := by omega
     have hn0' : 0 < n3 := by omega
     have hwx : IntKind.i64.wrap x = x := by simp only [IntKind.wrap_i64]; omega
     clear hbe s3 b3 hq hu0 hcc hx hn3
     have h8x : Byte8 [128 + x % 128, code % 256] := Byte8.mk (by omega) (Byte8.mk (by omega) Byte8.nil)
     have HRF := Lib.hid (fun (W : World) (h : Below w4.heap.size w4 W) => refuse_up x code w4 W h)
     have HBY := Lib.hid (fun (W : World) (B : Option Addr) (h : SlI W W.heap.size .u8 B 2 2 [128 + x % 128, code % 256]) => rtuf_any u B 2 2 [128 + x % 128, code % 256] W h h8x)
     have HF4 := Lib.hid F4
     have HFE := Lib.hid (show bytesA req ⟨2, wait, gap, regs, code, na, unit, wth, data⟩ = (rtuB u [128 + x % 128, code % 256]).getD [] by rw [HE.out, hgx, show code % 256 = code by omega])
     obtain ⟨er, her⟩ : ∃ z, (if (rtuB u [128 + x % 128, code % 256]).isSome then (0 : Int) else 200) = z := ⟨_, rfl⟩
     have HER := Lib.hid her
     clear HE her h8x hgx F4
     go_upto_region 14 with fail
     go_region_with (first
      | (go_at_call 53; refine (HRF.out _ (by repeat first | exact Below.refl _ _ | apply Below.drew | apply below_drewN)).mono ?_; rintro e wr ⟨Br, rfl, hsr, bwr⟩; have k0r : wr.cell? ⟨w3.heap.size, 0, none⟩ = some (.int .i64 u) := (HF4.out.below bwr HF4.out.lt).cell 0)
      | (go_at_call 28; refine (HBY.out _ _ (hsr.up (by repeat first | exact Below.refl _ _ | apply Below.drew | apply below_drewN))).mono ?_; rintro e wb ⟨B5, n5, c5, rfl, s5, bwb, _⟩; rw [HER.out]))
     all_goals (
      have bw5 : Below w4.heap.size w4 wb := by first | exact bwr.trans (bwb.mono bwr.size) | exact bwr.drew.trans (bwb.mono bwr.drew.size) | exact (below_drewN bwr _).trans (bwb.mono (below_drewN bwr _).size)
      have HO5 := Lib.hid (And.intro s5 (HB4.out.trans (bw5.mono HB4.out.size)))
      clear s5 bw5 bwb bwr hsr
      go_wp2_with fail
      go_ret
      rw [HFE.out]
      exact ⟨B5, n5, c5, rfl, HO5.out.1, HO5.out.2⟩)
  ·have HE := Lib.hid hbe
   have H7 := Lib.hid (right_any A n c req Ar nr cr regs (-1) w2 (HT.out w2 HB2.out) (HS.out w2 HB2.out) hn H8.out (HRG.out w2 HB2.out) HOK.out.2.2.2.1 (by have := HQ2.out.2.2.2.1; dsimp only at this; omega))
   clear hbe
   go_wp2_with fail
   refine H7.out.mono ?_
   rintro e w3 ⟨v3, n3, rfl, o3, b3⟩
   obtain ⟨A3, c3, rfl, s3⟩ := SlI.of_own o3
   have hX3 := HX2.out.below b3 HX2.out.lt
   have x0 : w3.cell? ⟨w.heap.size, 0, none⟩ = some (.int .i64 4) := hX3.cell 0
   have x5 : w3.cell? ⟨w.heap.size, 5, none⟩ = some (.int .i64 na) := hX3.cell 5
   have hl3 := s3.1
   have hc3 := s3.2.1
   have hna : 0 ≤ na ∧ na ≤ 1000 := HQ2.out.2.2.2.2.2.1
   obtain ⟨mm, rfl⟩ : ∃ mm : Nat, na = mm := ⟨na.toNat, by omega⟩
   have HO := Lib.hid (And.intro s3 b3)
   clear b3 o3 hX3 hna
   by_cases h0 : n3 = 0
   ·have hb0 : ((n3 : Int) == 0) = true := by simp [h0]
    have HF := Lib.hid (show (rightP req regs (-1)).take (mm : Int).toNat = rightP req regs (-1) from List.take_of_length_le (by omega))
    clear h0 s3 hl3
    go_wp2_with fail
    go_ret
    rw [HE.out, HF.out]
    exact ⟨A3, _, c3, rfl, HO.out.1, HB2.out.trans (HO.out.2.mono HB2.out.size)⟩
   ·have hb0 : ((n3 : Int) == 0) = false := by simp; omega
    by_cases hle : (mm : Int) ≤ (n3 : Int)
    ·have hmc : (mm : Int) ≤ (c3 : Int) := by omega
     have HF := Lib.hid (s3.take mm (by omega))
     have hmin : min (mm : Int) (n3 : Int) = (mm : Int) := by omega
     have hng : ¬ ((n3 : Int) < (mm : Int)) := by omega
     clear s3 hl3 h0
     go_wp2_with fail
     go_ret
     rw [HE.out]
     exact ⟨A3, mm, c3, rfl, HF.out, HB2.out.trans (HO.out.2.mono HB2.out.size)⟩
    ·have HF := Lib.hid (show (rightP req regs (-1)).take (mm : Int).toNat = rightP req regs (-1) from List.take_of_length_le (by simp; omega))
     have hmc : (n3 : Int) ≤ (c3 : Int) := by omega
     have hng : (n3 : Int) < (mm : Int) := by omega
     have hmin : min (mm : Int) (n3 : Int) = (n3 : Int) := by omega
     clear s3 hl3 h0
     go_wp2_with fail
     go_ret
     rw [HE.out, HF.out]
     exact ⟨A3, n3, c3, rfl, HO.out.1, HB2.out.trans (HO.out.2.mono HB2.out.size)⟩
  ·have HE := Lib.hid hbe
   have H7 := Lib.hid (right_any A n c req Ar nr cr regs (-1) w2 (HT.out w2 HB2.out) (HS.out w2 HB2.out) hn H8.out (HRG.out w2 HB2.out) HOK.out.2.2.2.1 (by have := HQ2.out.2.2.2.1; dsimp only at this; omega))
   clear hbe
   go_wp2_with fail
   refine H7.out.mono ?_
   rintro e w3 ⟨v3, n3, rfl, o3, b3⟩
   obtain ⟨A3, c3, e3, s3⟩ := SlI.of_own o3
   have hX3 := HX2.out.below b3 HX2.out.lt
   have x0 : w3.cell? ⟨w.heap.size, 0, none⟩ = some (.int .i64 5) := hX3.cell 0
   have x5 : w3.cell? ⟨w.heap.size, 5, none⟩ = some (.int .i64 na) := hX3.cell 5
   have x7 : w3.cell? ⟨w.heap.size, 7, none⟩ = some (.int .u8 wth) := hX3.cell 7
   have hl3 := s3.1
   have hc3 := s3.2.1
   have hna : 0 ≤ na ∧ na ≤ 1000 := HQ2.out.2.2.2.2.2.1
   by_cases h0 : n3 = 0
   ·have hb0 : ((n3 : Int) == 0) = true := by simp [h0]
    have HF := Lib.hid (show spoilL (rightP req regs (-1)) na wth = rightP req regs (-1) by
     have : rightP req regs (-1) = [] := List.length_eq_zero_iff.1 (by omega)
     rw [this]; rfl)
    have HO := Lib.hid (And.intro s3 b3)
    subst e3
    clear h0 s3 hl3 hX3 b3 o3
    go_wp2_with fail
    go_ret
    rw [HE.out, HF.out]
    exact ⟨A3, _, c3, rfl, HO.out.1, HB2.out.trans (HO.out.2.mono HB2.out.size)⟩
   ·have hb0 : ((n3 : Int) == 0) = false := by simp; omega
    obtain ⟨ol, oz | ⟨g, cap, cur, ov, og, oh, onc, ocm, ocs, ot⟩⟩ := o3
    ·exact absurd oz.2 h0
    ·rw [ov] at e3
     injection e3 with e31 e32 e33
     subst e31 e33
     subst ov
     have hG3 : Held w3 g 5 cur := oh
     obtain ⟨ix, hix⟩ : ∃ ix : Nat, na.toNat % n3 = ix := ⟨_, rfl⟩
     have hix2 : ix < n3 := by rw [← hix]; exact Nat.mod_lt _ (by omega)
     have hrem : na.tmod (n3 : Int) = (ix : Int) := by
      rw [Int.tmod_eq_emod_of_nonneg hna.1, ← hix]
      have : na = (na.toNat : Int) := by omega
      rw [this]; simp
     obtain ⟨x, hx⟩ : ∃ x, (rightP req regs (-1))[ix]? = some x := ⟨_, List.getElem?_eq_getElem (by omega)⟩
     obtain ⟨gb, off, ea, hlt, hcc⟩ := s3.2.2.2.2 (by omega)
     obtain ⟨rfl, rfl⟩ : g = gb ∧ 0 = off := by simpa using ea
     have hcx : w3.cell? ⟨g, 0 + ix, none⟩ = some (.int .u8 x) := hcc ix x hx
     have hfx := hG3.frozen (0 + ix)
     rw [Nat.zero_add] at hcx hfx
     obtain ⟨y, hy⟩ : ∃ y, Go.bits BinOp.xor IntKind.u8 x wth = y := ⟨_, rfl⟩
     have HF := Lib.hid (show spoilL (rightP req regs (-1)) na wth = (rightP req regs (-1)).set ix y by
      unfold spoilL
      rw [hl3, hix, ← hy, List.getD, hx]; rfl)
     have HS3 := Lib.hid (s3.setAt ix y (by omega))
     have hn0 : ¬ ((n3 : Int) = 0) := by omega
     have hixn : (ix : Int) < (n3 : Int) := by omega
     have hix0 : ¬ ((ix : Int) < 0) := by omega
     have HO := Lib.hid (show Below w.heap.size w (w3.setCell ⟨g, ix, none⟩ (.int .u8 y)) from (HB2.out.trans (b3.mono HB2.out.size)).setCell (p := ⟨g, ix, none⟩) (by show w.heap.size ≤ g; have := HB2.out.size; omega) _)
     rw [Nat.zero_add] at HS3
     have hgne : g ≠ w.heap.size := by have := HX2.out.lt; omega
     clear s3 hl3 hX3 b3 hcc ea hx hix ol oh ot hG3 onc ocm ocs h0
     go_upto_region 21 with fail
     go_region
     go_wp2
     go_ret
     rw [HE.out, HF.out]
     exact ⟨_, n3, cap, rfl, HS3.out.drewN 1, HO.out.drew⟩
  ·have HE := Lib.hid hbe
   have H7 := Lib.hid (right_any A n c req Ar nr cr regs (-1) w2 (HT.out w2 HB2.out) (HS.out w2 HB2.out) hn H8.out (HRG.out w2 HB2.out) HOK.out.2.2.2.1 (by have := HQ2.out.2.2.2.1; dsimp only at this; omega))
   clear hbe
   go_wp2_with fail
   refine H7.out.mono ?_
   rintro e w3 ⟨v3, n3, rfl, o3, b3⟩
   obtain ⟨A3, c3, rfl, s3⟩ := SlI.of_own o3
   have hX3 := HX2.out.below b3 HX2.out.lt
   have x0 : w3.cell? ⟨w.heap.size, 0, none⟩ = some (.int .i64 1) := hX3.cell 0
   have HO := Lib.hid (And.intro s3 b3)
   clear s3 b3 o3 hX3
   by_cases h0 : n3 = 0
   ·have hb0 : ((n3 : Int) == 0) = true := by simp [h0]
    clear h0
    go_wp2_with fail
    go_ret
    rw [HE.out]
    exact ⟨A3, _, c3, rfl, HO.out.1, HB2.out.trans (HO.out.2.mono HB2.out.size)⟩
   ·have hb0 : ((n3 : Int) == 0) = false := by simp; omega
    clear h0
    go_wp2_with fail
    go_ret
    rw [HE.out]
    exact ⟨A3, _, c3, rfl, HO.out.1, HB2.out.trans (HO.out.2.mono HB2.out.size)⟩
end Go.Proofs.YtcipleanckeoaaaDoor
