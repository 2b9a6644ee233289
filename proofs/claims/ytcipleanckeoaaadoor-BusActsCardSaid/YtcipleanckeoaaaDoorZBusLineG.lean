/- bus.Line. Printed by busline.py. -/
import Derived.Test.YtcipleanckeoaaaDoorZTk
import Derived.Test.YtcipleanckeoaaaDoorZBusCheck
import Derived.Test.YtcipleanckeoaaaDoorZBusStr
import Derived.Laws.OwnMore
import Derived.LoopN
import Derived.Lib.Hide
import Derived.Deep.Cut
open List renaming setIfInBounds_toArray → zC, set_cons_succ → zD, set_cons_zero → zE
namespace Go.Proofs.YtcipleanckeoaaaDoor
open Go.RowKit Go.Shelf Go.Sort
attribute [local go_sem] Oper.semAt_some
set_option linter.unusedVariables false
set_option linter.unusedSimpArgs false
set_option maxRecDepth 100000
def numsA (a : ActP) : List Int := [a.wait, a.gap] ++ (if a.kind = 2 then [a.code] else if a.kind = 4 then [a.n] else if a.kind = 5 then [a.n, a.wth] else if a.kind = 6 then [a.unit] else []) ++ a.regs
def flatN (l : List Int) : List UInt8 := l.flatMap fun n => 32 :: Lib.itoa n
def flatH (l : List Int) : List UInt8 := l.flatMap fun c => [hexB (c / 16), hexB (c % 16)]
def nmB (k : Int) : List UInt8 := (nameB k).data.toList
def lineL (a : ActP) : List UInt8 := nmB a.kind ++ flatN (numsA a) ++ (if a.kind = 7 then [32, 120] else []) ++ flatH a.data
theorem nmB_eq (k : Int) : nameB k = strB (nmB k) := by unfold strB nmB; rfl
theorem nmB_len (k : Int) : (nmB k).length ≤ 6 := by
 by_cases h : 1 ≤ k ∧ k ≤ 7
 ·rcases (show k = 1 ∨ k = 2 ∨ k = 3 ∨ k = 4 ∨ k = 5 ∨ k = 6 ∨ k = 7 by omega) with rfl | rfl | rfl | rfl | rfl | rfl | rfl <;> decide
 ·unfold nmB nameB
  rw [if_neg h]
  simp
theorem flatN_succ (l : List Int) (k : Nat) (x : Int) (hx : l[k]? = some x) : flatN (l.take (k + 1)) = flatN (l.take k) ++ (32 :: Lib.itoa x) := by
 unfold flatN
 rw [List.take_add_one, hx, Option.toList_some, List.flatMap_append]
 simp
theorem flatH_succ (l : List Int) (k : Nat) (x : Int) (hx : l[k]? = some x) : flatH (l.take (k + 1)) = flatH (l.take k) ++ [hexB (x / 16), hexB (x % 16)] := by
 unfold flatH
 rw [List.take_add_one, hx, Option.toList_some, List.flatMap_append]
 simp
theorem flatN_len (l : List Int) (h : ∀ x ∈ l, -9223372036854775808 ≤ x ∧ x ≤ 9223372036854775807) : (flatN l).length ≤ 22 * l.length := by
 induction l with
 | nil => simp [flatN]
 | cons x r ih =>
  have h1 := ih (fun y hy => h y (by simp [hy]))
  have h2 := Lib.itoa_length_le x (h x (by simp)).1 (h x (by simp)).2
  unfold flatN at h1 ⊢
  rw [List.flatMap_cons, List.length_append, List.length_cons, List.length_cons]
  omega
theorem flatH_len (l : List Int) : (flatH l).length = 2 * l.length := by
 induction l with
 | nil => simp [flatH]
 | cons x r ih =>
  unfold flatH at ih ⊢
  rw [List.flatMap_cons, List.length_append, List.length_cons, ih]
  simp; omega
theorem may_l {a : ActP} (h : mayA a = true) : mayQ a := of_decide_eq_true h
theorem info_G64 : (Tryd.prog.info? 2).map (fun i => (i.zero, i.size, i.bytes)) = some (some (.int .i64 0), 1, 8) := by kernel_rfl
theorem and_low (x : Int) (h : 0 ≤ x ∧ x < 256) : Go.bits BinOp.and IntKind.u8 x 15 = x % 16 := by
 have key : ∀ n : Fin 256, Go.bits BinOp.and IntKind.u8 ((n.val : Nat) : Int) 15 = ((n.val : Nat) : Int) % 16 := by decide +kernel
 obtain ⟨n, rfl⟩ : ∃ n : Nat, x = n := ⟨x.toNat, by omega⟩
 exact key ⟨n, by omega⟩
theorem hexV (i : Nat) (h : i < 16) (h' : i < ((⟨#[48, 49, 50, 51, 52, 53, 54, 55, 56, 57, 97, 98, 99, 100, 101, 102]⟩ : ByteArray)).size) : Utf8.encode ((((⟨#[48, 49, 50, 51, 52, 53, 54, 55, 56, 57, 97, 98, 99, 100, 101, 102]⟩ : ByteArray)[i]'h').toNat : Nat) : Int) = ⟨#[hexB (i : Int)]⟩ := by
 rcases (show i = 0 ∨ i = 1 ∨ i = 2 ∨ i = 3 ∨ i = 4 ∨ i = 5 ∨ i = 6 ∨ i = 7 ∨ i = 8 ∨ i = 9 ∨ i = 10 ∨ i = 11 ∨ i = 12 ∨ i = 13 ∨ i = 14 ∨ i = 15 by omega) with rfl | rfl | rfl | rfl | rfl | rfl | rfl | rfl | rfl | rfl | rfl | rfl | rfl | rfl | rfl | rfl <;> kernel_rfl
def LnPost (w : World) (l : List UInt8) (e : Ending) (w' : World) : Prop := e = .returned (.tuple #[.string (strB l), .int .i64 0]) ∧ Below w.heap.size w w'
theorem fmt_any (x : Int) (h : 0 ≤ x ∧ x ≤ 9223372036854775807) (w : World) (hP : P10 w) : Calls Tryd.prog 54 #[.int .i64 x, .int .i64 10] w fun e w' => e = .returned (.string (strB (Lib.itoa x))) ∧ Below w.heap.size w w' :=
 (Tryd.strconv_FormatInt_10 x (by omega) h.2 w hP).mono fun e w' ⟨h1, q, os, h2⟩ => ⟨h1, by rw [h2]; exact below_grown _ _ _⟩
set_option maxHeartbeats 4000000 in
theorem ol_1 (w : World) (hN : NamesT w) (hP : P10 w) (Ar : Option Addr) (nr cr : Nat) (D : Option Addr) (nd cd : Nat) (wait gap : Int) (regs : List Int) (code na unit wth : Int) (data : List Int) (h1 : SlI w w.heap.size .u16 Ar nr cr regs) (h2 : SlI w w.heap.size .u8 D nd cd data) (hok : ActP.ok ⟨1, wait, gap, regs, code, na, unit, wth, data⟩) (hm : mayA ⟨1, wait, gap, regs, code, na, unit, wth, data⟩ = true) :
  Calls Tryd.prog 20 #[.agg #[.int .i64 1, .int .i64 wait, .int .i64 gap, .slice Ar nr cr, .int .i64 code, .int .i64 na, .int .i64 unit, .int .u8 wth, .slice D nd cd]] w (LnPost w (lineL ⟨1, wait, gap, regs, code, na, unit, wth, data⟩)) := by
 obtain ⟨w1, hw1⟩ : ∃ W, w.alloc (.cells #[.int .i64 1, .int .i64 wait, .int .i64 gap, .slice Ar nr cr, .int .i64 code, .int .i64 na, .int .i64 unit, .int .u8 wth, .slice D nd cd] 29) = W := ⟨_, rfl⟩
 have b1 : Below w.heap.size w w1 := by rw [← hw1]; exact (Below.refl _ w).alloc (Nat.le_refl _) _
 have hX1 : Held w1 w.heap.size 29 #[.int .i64 1, .int .i64 wait, .int .i64 gap, .slice Ar nr cr, .int .i64 code, .int .i64 na, .int .i64 unit, .int .u8 wth, .slice D nd cd] := by rw [← hw1]; exact Held.new w _ _
 have hc := (bcheck_any (.agg #[.int .i64 1, .int .i64 wait, .int .i64 gap, .slice Ar nr cr, .int .i64 code, .int .i64 na, .int .i64 unit, .int .u8 wth, .slice D nd cd]) ⟨1, wait, gap, regs, code, na, unit, wth, data⟩ w1 (hN.up b1) ⟨Ar, nr, cr, D, nd, cd, rfl, h1.up b1, h2.up b1⟩ hok)
 rw [hm, if_pos rfl] at hc
 have HC := Lib.hid hc
 have hq := may_l hm
 unfold mayQ at hq
 dsimp only at hq
 have HQ : Hid ((0 ≤ wait ∧ wait ≤ 1073741824) ∧ (0 ≤ gap ∧ gap ≤ 1073741824) ∧ (0 ≤ na ∧ na ≤ 1000) ∧ (0 ≤ unit ∧ unit ≤ 247) ∧ (0 ≤ code ∧ code ≤ 11) ∧ (0 ≤ wth ∧ wth < 256) ∧ regs.length ≤ 125 ∧ data.length ≤ 300 ∧ data = []) := Lib.hid (by
  have hw := hok.2.2.1
  dsimp only at hw
  have h0 : data = [] := List.length_eq_zero_iff.1 (by omega)
  refine ⟨by omega, by omega, by omega, by omega, by omega, hw, by omega, by omega, h0⟩)
 have HR := Lib.hid (show ∀ x ∈ regs, 0 ≤ x ∧ x < 65536 from hok.2.2.2.1)
 have HR8 := Lib.hid (show ∀ x ∈ data, 0 ≤ x ∧ x < 256 from hok.2.2.2.2.1)
 have HX1 := Lib.hid hX1
 have HB1 := Lib.hid b1
 have HN := Lib.hid hN
 have HP := Lib.hid hP
 have HG := Lib.hid (fun (V : World) (h : Below w.heap.size w V) => h1.up h)
 have HS := Lib.hid (fun (V : World) (h : Below w.heap.size w V) => h2.up h)
 have hrl := h1.1
 have hdl := h2.1
 obtain ⟨x0, x1, x2, x3, x4, x5, x6, x7, x8⟩ := zC9 hX1
 clear hX1 b1 hN hP h1 h2 hc hq hok hm
 go_in
 go_wp2_with fail
 refine HC.out.mono ?_
 rintro e w2 ⟨rfl, b2⟩
 have hX2 := HX1.out.below b2 HX1.out.lt
 have HB2 := Lib.hid (HB1.out.trans (b2.mono HB1.out.size))
 have hz2 := (HB1.out.trans (b2.mono HB1.out.size)).size
 have lt2 := hX2.lt
 obtain ⟨x0, x1, x2, x3, x4, x5, x6, x7, x8⟩ := zC9 hX2
 have HX2 := Lib.hid hX2
 clear b2 hX2
 obtain ⟨w3, hw3⟩ : ∃ W, w2.alloc (.cells #[.int .i64 wait, .int .i64 gap] 2) = W := ⟨_, rfl⟩
 have o3 : w3.ownsRow (w.heap.size + 1) 2 1 (.slice (some ⟨w2.heap.size, 0, none⟩) 2 2) 2 ([wait, gap].map (Value.int .i64)) := by
  rw [← hw3]; exact World.ownsRow_lit w2 #[.int .i64 wait, .int .i64 gap] 2 (by omega) (by unfold maxLen; omega) (by simp)
 have hX3 : Held w3 w.heap.size 29 #[.int .i64 1, .int .i64 wait, .int .i64 gap, .slice Ar nr cr, .int .i64 code, .int .i64 na, .int .i64 unit, .int .u8 wth, .slice D nd cd] := by rw [← hw3]; exact HX2.out.alloc _
 have HB3 : Hid (Below w.heap.size w w3) := Lib.hid (by rw [← hw3]; exact HB2.out.alloc (by omega) _)
 have lt3 := HB3.out.size
 have hw13 : w.heap.size + 1 ≤ w3.heap.size := hX3.lt
 obtain ⟨x0, x1, x2, x3, x4, x5, x6, x7, x8⟩ := zC9 hX3
 skip
 obtain ⟨i0, hi, hz0, hz1, hzb⟩ := info_parts info_G64
 have HX3 := Lib.hid hX3
 have HW3 := Lib.hid hw3
 clear hX3 hw3
 go_upto_region 14 with (fail)
 rw [HW3.out]
 have HNA : Hid (numsA ⟨1, wait, gap, regs, code, na, unit, wth, data⟩ = [wait, gap] ++ regs) := Lib.hid rfl
 have HIN : Hid (∀ x ∈ [wait, gap], 0 ≤ x ∧ x ≤ 1073741824) := Lib.hid (by
  have q := HQ.out
  intro x hx
  simp at hx
  rcases hx with rfl | rfl <;> omega)
 have HO := Lib.hid o3
 clear o3
 go_wp2_with fail
 go_loopw [5, 59] (fun u5 u59 wr => ∃ k : Nat, k ≤ nr ∧ u59 = .int .i64 k ∧ wr.ownsRow (w.heap.size + 1) 2 1 u5 (2 + k) (([wait, gap] ++ regs.take k).map (Value.int .i64)) ∧ Below (w.heap.size + 1) w3 wr) (fun _ u59 _ => nr - (intOf u59).toNat)
 case atStart => exact ⟨0, by omega, rfl, by simpa using HO.out, Below.refl _ _⟩
 case round =>
  rename_i wr _
  obtain ⟨k, hk1, rfl, hown, hb⟩ := hrel
  have hX := HX3.out.below hb (by omega)
  have hbw := HB3.out.trans (hb.mono (by omega))
  have hsz := hb.size
  obtain ⟨x0, -, -, -, -, -, -, -, x8⟩ := zC9 hX
  by_cases hlt : k < nr
  ·obtain ⟨g, off, x, rfl, hg, hx, hcx⟩ := (HG.out wr hbw).2.2.2.2.at_ (i := k) (by omega)
   have HT := Lib.hid (show regs.take (k + 1) = regs.take k ++ [x] by rw [List.take_add_one, hx, Option.toList_some])
   have hw64 : wrap64 x = x := w64_in x (by have := HR.out x (List.mem_of_getElem? hx); omega) (by have := HR.out x (List.mem_of_getElem? hx); omega)
   have hkI : (k : Int) < (nr : Int) := by omega
   have h125 : nr ≤ 125 := by have := HQ.out.2.2.2.2.2.2.1; omega
   have hba := hb.alloc (by omega) (.cells #[.int .i64 x] 2)
   have hz := HB1.out.size
   have ha := hown.alloc (.cells #[.int .i64 x] 2)
   clear hX hx hown
   go_wp2_with ((with_reducible refine at_append ?_); refine wpList_append_own _ rfl _ _ 81 rfl (w.heap.size + 1) 2 i0 (.int .i64 0) 1 8 Tryd.underlying81 hi hz0 hz1 hzb rfl (by decide) _ _ _ rfl ha ⟨wr.heap.size, 0, none⟩ 1 1 [.int .i64 x] rfl rfl (World.news_of_block (cs := #[.int .i64 x]) (t := 2) (fr := (0, 0)) (heap_alloc_new wr _)) (by simp [Value.oneCell']) (by unfold maxLen; omega) (by omega) (by simp; omega) ?_; intro v6 w6 o6 g6 _)
   go_roundw
   case rel =>
    refine ⟨k + 1, by omega, by go_num, ?_, hba.grown g6 (by simp; omega) (fun j hj => (ha.lt j hj).1)⟩
    rw [HT.out]
    have e : ([wait, gap] ++ (regs.take k ++ [x])).map (Value.int .i64) = ([wait, gap] ++ regs.take k).map (Value.int .i64) ++ [.int .i64 x] := by simp
    rw [e]
    exact o6
   case measure => simp [intOf]; omega
  ·obtain rfl : k = nr := by omega
   have hkI : ¬ ((k : Int) < (k : Int)) := by omega
   have hT : regs.take k = regs := List.take_of_length_le (by omega)
   have h125 : k ≤ 125 := by have := HQ.out.2.2.2.2.2.2.1; omega
   rw [hT] at hown
   obtain ⟨N, hNe⟩ : ∃ N, [wait, gap] ++ regs = N := ⟨_, rfl⟩
   obtain ⟨M, hM⟩ : ∃ M : Nat, 2 + k = M := ⟨_, rfl⟩
   have hMl : M ≤ 130 := by omega
   have HI2 : Hid (∀ x ∈ N, 0 ≤ x ∧ x ≤ 1073741824) := Lib.hid (by
    intro x hx
    rw [← hNe] at hx
    rcases List.mem_append.1 hx with h | h
    ·exact HIN.out x h
    ·have := HR.out x h; omega)
   have HLN : Hid (lineL ⟨1, wait, gap, regs, code, na, unit, wth, data⟩ = nmB 1 ++ flatN N ++ [] ++ flatH data) := Lib.hid (by unfold lineL; rw [HNA.out, hNe]; rfl)
   rw [hNe, hM] at hown
   obtain ⟨A5, c5, rfl, s5⟩ := SlI.of_own hown
   have hNl := s5.1
   have HS5 := Lib.hid (fun (V : World) (h : Below wr.heap.size wr V) => s5.up h)
   have HNM := Lib.hid (bname_any 1 wr (HN.out.up hbw))
   have HBW := Lib.hid hbw
   have HXW := Lib.hid hX
   clear hown s5 hX hbw hT hM hNe hb HO
   go_wp2_with fail
   refine HNM.out.mono ?_
   rintro e w7 ⟨rfl, rfl⟩
   rw [nmB_eq]
   go_wp2_with fail
   go_loopw [8, 74] (fun u8 u74 V => ∃ (V0 : World) (j : Nat), V0 = V ∧ j ≤ M ∧ u74 = .int .i64 j ∧ u8 = .string (strB (nmB 1 ++ flatN (N.take j))) ∧ Below wr.heap.size wr V0) (fun _ u74 _ => M - (intOf u74).toNat)
   case atStart => exact ⟨_, 0, rfl, by omega, rfl, by simp [flatN], Below.refl _ _⟩
   case round =>
    obtain ⟨V, j, hVe, hj1, rfl, rfl, hv⟩ := hrel
    subst hVe
    have hvz := hv.size
    have hX := HXW.out.below hv HXW.out.lt
    obtain ⟨x0, -, -, -, -, -, -, -, x8⟩ := zC9 hX
    have HBV := Lib.hid (HBW.out.trans (hv.mono HBW.out.size))
    by_cases hlt : j < M
    ·obtain ⟨g, off, x, rfl, hg, hx, hcx⟩ := (HS5.out V hv).2.2.2.2.at_ (i := j) (by omega)
     have hxb := HI2.out x (List.mem_of_getElem? hx)
     have HFS := Lib.hid (flatN_succ N j x hx)
     have HF := Lib.hid (fmt_any x ⟨hxb.1, by omega⟩ V (tabIs_up HP.out HBV.out))
     have hil := Lib.itoa_length_le x (by omega) (by omega)
     have hfl := flatN_len (N.take j) (fun y hy => by have := HI2.out y (List.mem_of_mem_take hy); omega)
     have hnm6 := nmB_len 1
     have hjl : (N.take j).length ≤ 130 := by rw [List.length_take]; omega
     generalize flatN (N.take j) = S at *
     have hA1 : Hid (∀ v, (binOp .add 9 (.string (strB [32])) (.string (strB (Lib.itoa x)))).run Tryd.prog v = .ok (.string (strB ([32] ++ Lib.itoa x))) v) := Lib.hid (fun v => add_str _ _ (by simp; omega) v)
     have hA2 : Hid (∀ v, (binOp .add 9 (.string (strB (nmB 1 ++ S))) (.string (strB ([32] ++ Lib.itoa x)))).run Tryd.prog v = .ok (.string (strB ((nmB 1 ++ S) ++ ([32] ++ Lib.itoa x)))) v) := Lib.hid (fun v => add_str _ _ (by simp; omega) v)
     generalize Lib.itoa x = I at *
     clear hx hX hil hfl hnm6 hjl
     have hjI : (j : Int) < (M : Int) := by omega
     go_wp2_with fail
     refine HF.out.mono ?_
     rintro e V2 ⟨rfl, bv2⟩
     have hv2 := hv.trans (bv2.mono hvz)
     go_wp2_with (first
      | ((with_reducible refine wpList_bin_at (dst := some 81) .add 9 9 _ (.tmp 80) (.string (strB [32])) (.string (strB I)) _ (by kernel_rfl) (by kernel_rfl) (by kernel_rfl) (add_guard _ _ _ _ _) (hA1.out _) ?_); simp only [Act.put, zC, zD, zE])
      | ((with_reducible refine wpList_bin_at (dst := some 82) .add 9 9 (.tmp 78) (.tmp 81) (.string (strB (nmB 1 ++ S))) (.string (strB ([32] ++ I))) _ (by kernel_rfl) (by kernel_rfl) (by kernel_rfl) (add_guard _ _ _ _ _) (hA2.out _) ?_); simp only [Act.put, zC, zD, zE]))
     go_roundw
     case rel => exact ⟨_, j + 1, rfl, by omega, by go_num, by rw [HFS.out, List.append_assoc]; rfl, hv2⟩
     case measure => simp [intOf]; omega
    ·obtain rfl : j = M := by omega
     have hjI : ¬ ((j : Int) < (j : Int)) := by omega
     rw [show N.take j = N from List.take_of_length_le (by omega)]
     go_wp2_with fail
     go_ret2
     refine ⟨?_, HBV.out⟩
     have hd0 := HQ.out.2.2.2.2.2.2.2.2
     rw [HLN.out, hd0]
     simp [flatH]
set_option maxHeartbeats 4000000 in
theorem ol_2 (w : World) (hN : NamesT w) (hP : P10 w) (Ar : Option Addr) (nr cr : Nat) (D : Option Addr) (nd cd : Nat) (wait gap : Int) (regs : List Int) (code na unit wth : Int) (data : List Int) (h1 : SlI w w.heap.size .u16 Ar nr cr regs) (h2 : SlI w w.heap.size .u8 D nd cd data) (hok : ActP.ok ⟨2, wait, gap, regs, code, na, unit, wth, data⟩) (hm : mayA ⟨2, wait, gap, regs, code, na, unit, wth, data⟩ = true) :
  Calls Tryd.prog 20 #[.agg #[.int .i64 2, .int .i64 wait, .int .i64 gap, .slice Ar nr cr, .int .i64 code, .int .i64 na, .int .i64 unit, .int .u8 wth, .slice D nd cd]] w (LnPost w (lineL ⟨2, wait, gap, regs, code, na, unit, wth, data⟩)) := by
 obtain ⟨w1, hw1⟩ : ∃ W, w.alloc (.cells #[.int .i64 2, .int .i64 wait, .int .i64 gap, .slice Ar nr cr, .int .i64 code, .int .i64 na, .int .i64 unit, .int .u8 wth, .slice D nd cd] 29) = W := ⟨_, rfl⟩
 have b1 : Below w.heap.size w w1 := by rw [← hw1]; exact (Below.refl _ w).alloc (Nat.le_refl _) _
 have hX1 : Held w1 w.heap.size 29 #[.int .i64 2, .int .i64 wait, .int .i64 gap, .slice Ar nr cr, .int .i64 code, .int .i64 na, .int .i64 unit, .int .u8 wth, .slice D nd cd] := by rw [← hw1]; exact Held.new w _ _
 have hc := (bcheck_any (.agg #[.int .i64 2, .int .i64 wait, .int .i64 gap, .slice Ar nr cr, .int .i64 code, .int .i64 na, .int .i64 unit, .int .u8 wth, .slice D nd cd]) ⟨2, wait, gap, regs, code, na, unit, wth, data⟩ w1 (hN.up b1) ⟨Ar, nr, cr, D, nd, cd, rfl, h1.up b1, h2.up b1⟩ hok)
 rw [hm, if_pos rfl] at hc
 have HC := Lib.hid hc
 have hq := may_l hm
 unfold mayQ at hq
 dsimp only at hq
 have HQ : Hid ((0 ≤ wait ∧ wait ≤ 1073741824) ∧ (0 ≤ gap ∧ gap ≤ 1073741824) ∧ (0 ≤ na ∧ na ≤ 1000) ∧ (0 ≤ unit ∧ unit ≤ 247) ∧ (0 ≤ code ∧ code ≤ 11) ∧ (0 ≤ wth ∧ wth < 256) ∧ regs.length ≤ 125 ∧ data.length ≤ 300 ∧ data = []) := Lib.hid (by
  have hw := hok.2.2.1
  dsimp only at hw
  have h0 : data = [] := List.length_eq_zero_iff.1 (by omega)
  refine ⟨by omega, by omega, by omega, by omega, by omega, hw, by omega, by omega, h0⟩)
 have HR := Lib.hid (show ∀ x ∈ regs, 0 ≤ x ∧ x < 65536 from hok.2.2.2.1)
 have HR8 := Lib.hid (show ∀ x ∈ data, 0 ≤ x ∧ x < 256 from hok.2.2.2.2.1)
 have HX1 := Lib.hid hX1
 have HB1 := Lib.hid b1
 have HN := Lib.hid hN
 have HP := Lib.hid hP
 have HG := Lib.hid (fun (V : World) (h : Below w.heap.size w V) => h1.up h)
 have HS := Lib.hid (fun (V : World) (h : Below w.heap.size w V) => h2.up h)
 have hrl := h1.1
 have hdl := h2.1
 obtain ⟨x0, x1, x2, x3, x4, x5, x6, x7, x8⟩ := zC9 hX1
 clear hX1 b1 hN hP h1 h2 hc hq hok hm
 go_in
 go_wp2_with fail
 refine HC.out.mono ?_
 rintro e w2 ⟨rfl, b2⟩
 have hX2 := HX1.out.below b2 HX1.out.lt
 have HB2 := Lib.hid (HB1.out.trans (b2.mono HB1.out.size))
 have hz2 := (HB1.out.trans (b2.mono HB1.out.size)).size
 have lt2 := hX2.lt
 obtain ⟨x0, x1, x2, x3, x4, x5, x6, x7, x8⟩ := zC9 hX2
 have HX2 := Lib.hid hX2
 clear b2 hX2
 obtain ⟨w3, hw3⟩ : ∃ W, w2.alloc (.cells #[.int .i64 wait, .int .i64 gap] 2) = W := ⟨_, rfl⟩
 have o3 : w3.ownsRow (w.heap.size + 1) 2 1 (.slice (some ⟨w2.heap.size, 0, none⟩) 2 2) 2 ([wait, gap].map (Value.int .i64)) := by
  rw [← hw3]; exact World.ownsRow_lit w2 #[.int .i64 wait, .int .i64 gap] 2 (by omega) (by unfold maxLen; omega) (by simp)
 have hX3 : Held w3 w.heap.size 29 #[.int .i64 2, .int .i64 wait, .int .i64 gap, .slice Ar nr cr, .int .i64 code, .int .i64 na, .int .i64 unit, .int .u8 wth, .slice D nd cd] := by rw [← hw3]; exact HX2.out.alloc _
 have HB3 : Hid (Below w.heap.size w w3) := Lib.hid (by rw [← hw3]; exact HB2.out.alloc (by omega) _)
 have lt3 := HB3.out.size
 have hw13 : w.heap.size + 1 ≤ w3.heap.size := hX3.lt
 obtain ⟨x0, x1, x2, x3, x4, x5, x6, x7, x8⟩ := zC9 hX3
 skip
 obtain ⟨i0, hi, hz0, hz1, hzb⟩ := info_parts info_G64
 have HX3 := Lib.hid hX3
 have HW3 := Lib.hid hw3
 clear hX3 hw3
 go_upto_region 7 with (fail)
 rw [HW3.out]
 have hX3a := HX3.out.alloc (.cells #[.int .i64 code] 2)
 have HB3a := Lib.hid (HB3.out.alloc lt3 (.cells #[.int .i64 code] 2))
 have o3a := o3.alloc (.cells #[.int .i64 code] 2)
 have HX3a := Lib.hid hX3a
 clear hX3a
 go_upto_region 14 with ((with_reducible refine at_append ?_); refine wpList_append_own _ rfl _ _ 81 rfl (w.heap.size + 1) 2 i0 (.int .i64 0) 1 8 Tryd.underlying81 hi hz0 hz1 hzb rfl (by decide) _ _ _ rfl (o3.alloc _) ⟨w3.heap.size, 0, none⟩ 1 1 [.int .i64 code] rfl rfl (World.news_of_block (cs := #[.int .i64 code]) (t := 2) (fr := (0, 0)) (heap_alloc_new w3 _)) (by simp [Value.oneCell']) (by unfold maxLen; omega) (by omega) (by simp; omega) ?_; intro v4 w4 o4 g4 _)
 have b4 : Below (w.heap.size + 1) (w3.alloc (.cells #[.int .i64 code] 2)) w4 := (Below.refl _ _).grown g4 (by simp; omega) (fun j hj => (o3a.lt j hj).1)
 have hX4 := HX3a.out.below b4 (by omega)
 have HB4 := Lib.hid (HB3a.out.trans (b4.mono (by omega)))
 have lt4 := HB4.out.size
 have o4 : w4.ownsRow (w.heap.size + 1) 2 1 v4 3 ([wait, gap, code].map (Value.int .i64)) := o4
 have hw14 : w.heap.size + 1 ≤ w4.heap.size := hX4.lt
 obtain ⟨x0, -, -, x3, -, -, -, -, x8⟩ := zC9 hX4
 have HX4 := Lib.hid hX4
 clear g4 b4 hX4 o3 o3a
 have HNA : Hid (numsA ⟨2, wait, gap, regs, code, na, unit, wth, data⟩ = [wait, gap, code] ++ regs) := Lib.hid rfl
 have HIN : Hid (∀ x ∈ [wait, gap, code], 0 ≤ x ∧ x ≤ 1073741824) := Lib.hid (by
  have q := HQ.out
  intro x hx
  simp at hx
  rcases hx with rfl | rfl | rfl <;> omega)
 have HO := Lib.hid o4
 clear o4
 go_wp2_with fail
 go_loopw [5, 59] (fun u5 u59 wr => ∃ k : Nat, k ≤ nr ∧ u59 = .int .i64 k ∧ wr.ownsRow (w.heap.size + 1) 2 1 u5 (3 + k) (([wait, gap, code] ++ regs.take k).map (Value.int .i64)) ∧ Below (w.heap.size + 1) w4 wr) (fun _ u59 _ => nr - (intOf u59).toNat)
 case atStart => exact ⟨0, by omega, rfl, by simpa using HO.out, Below.refl _ _⟩
 case round =>
  rename_i wr _
  obtain ⟨k, hk1, rfl, hown, hb⟩ := hrel
  have hX := HX4.out.below hb (by omega)
  have hbw := HB4.out.trans (hb.mono (by omega))
  have hsz := hb.size
  obtain ⟨x0, -, -, -, -, -, -, -, x8⟩ := zC9 hX
  by_cases hlt : k < nr
  ·obtain ⟨g, off, x, rfl, hg, hx, hcx⟩ := (HG.out wr hbw).2.2.2.2.at_ (i := k) (by omega)
   have HT := Lib.hid (show regs.take (k + 1) = regs.take k ++ [x] by rw [List.take_add_one, hx, Option.toList_some])
   have hw64 : wrap64 x = x := w64_in x (by have := HR.out x (List.mem_of_getElem? hx); omega) (by have := HR.out x (List.mem_of_getElem? hx); omega)
   have hkI : (k : Int) < (nr : Int) := by omega
   have h125 : nr ≤ 125 := by have := HQ.out.2.2.2.2.2.2.1; omega
   have hba := hb.alloc (by omega) (.cells #[.int .i64 x] 2)
   have hz := HB1.out.size
   have ha := hown.alloc (.cells #[.int .i64 x] 2)
   clear hX hx hown
   go_wp2_with ((with_reducible refine at_append ?_); refine wpList_append_own _ rfl _ _ 81 rfl (w.heap.size + 1) 2 i0 (.int .i64 0) 1 8 Tryd.underlying81 hi hz0 hz1 hzb rfl (by decide) _ _ _ rfl ha ⟨wr.heap.size, 0, none⟩ 1 1 [.int .i64 x] rfl rfl (World.news_of_block (cs := #[.int .i64 x]) (t := 2) (fr := (0, 0)) (heap_alloc_new wr _)) (by simp [Value.oneCell']) (by unfold maxLen; omega) (by omega) (by simp; omega) ?_; intro v6 w6 o6 g6 _)
   go_roundw
   case rel =>
    refine ⟨k + 1, by omega, by go_num, ?_, hba.grown g6 (by simp; omega) (fun j hj => (ha.lt j hj).1)⟩
    rw [HT.out]
    have e : ([wait, gap, code] ++ (regs.take k ++ [x])).map (Value.int .i64) = ([wait, gap, code] ++ regs.take k).map (Value.int .i64) ++ [.int .i64 x] := by simp
    rw [e]
    exact o6
   case measure => simp [intOf]; omega
  ·obtain rfl : k = nr := by omega
   have hkI : ¬ ((k : Int) < (k : Int)) := by omega
   have hT : regs.take k = regs := List.take_of_length_le (by omega)
   have h125 : k ≤ 125 := by have := HQ.out.2.2.2.2.2.2.1; omega
   rw [hT] at hown
   obtain ⟨N, hNe⟩ : ∃ N, [wait, gap, code] ++ regs = N := ⟨_, rfl⟩
   obtain ⟨M, hM⟩ : ∃ M : Nat, 3 + k = M := ⟨_, rfl⟩
   have hMl : M ≤ 130 := by omega
   have HI2 : Hid (∀ x ∈ N, 0 ≤ x ∧ x ≤ 1073741824) := Lib.hid (by
    intro x hx
    rw [← hNe] at hx
    rcases List.mem_append.1 hx with h | h
    ·exact HIN.out x h
    ·have := HR.out x h; omega)
   have HLN : Hid (lineL ⟨2, wait, gap, regs, code, na, unit, wth, data⟩ = nmB 2 ++ flatN N ++ [] ++ flatH data) := Lib.hid (by unfold lineL; rw [HNA.out, hNe]; rfl)
   rw [hNe, hM] at hown
   obtain ⟨A5, c5, rfl, s5⟩ := SlI.of_own hown
   have hNl := s5.1
   have HS5 := Lib.hid (fun (V : World) (h : Below wr.heap.size wr V) => s5.up h)
   have HNM := Lib.hid (bname_any 2 wr (HN.out.up hbw))
   have HBW := Lib.hid hbw
   have HXW := Lib.hid hX
   clear hown s5 hX hbw hT hM hNe hb HO
   go_wp2_with fail
   refine HNM.out.mono ?_
   rintro e w7 ⟨rfl, rfl⟩
   rw [nmB_eq]
   go_wp2_with fail
   go_loopw [8, 74] (fun u8 u74 V => ∃ (V0 : World) (j : Nat), V0 = V ∧ j ≤ M ∧ u74 = .int .i64 j ∧ u8 = .string (strB (nmB 2 ++ flatN (N.take j))) ∧ Below wr.heap.size wr V0) (fun _ u74 _ => M - (intOf u74).toNat)
   case atStart => exact ⟨_, 0, rfl, by omega, rfl, by simp [flatN], Below.refl _ _⟩
   case round =>
    obtain ⟨V, j, hVe, hj1, rfl, rfl, hv⟩ := hrel
    subst hVe
    have hvz := hv.size
    have hX := HXW.out.below hv HXW.out.lt
    obtain ⟨x0, -, -, -, -, -, -, -, x8⟩ := zC9 hX
    have HBV := Lib.hid (HBW.out.trans (hv.mono HBW.out.size))
    by_cases hlt : j < M
    ·obtain ⟨g, off, x, rfl, hg, hx, hcx⟩ := (HS5.out V hv).2.2.2.2.at_ (i := j) (by omega)
     have hxb := HI2.out x (List.mem_of_getElem? hx)
     have HFS := Lib.hid (flatN_succ N j x hx)
     have HF := Lib.hid (fmt_any x ⟨hxb.1, by omega⟩ V (tabIs_up HP.out HBV.out))
     have hil := Lib.itoa_length_le x (by omega) (by omega)
     have hfl := flatN_len (N.take j) (fun y hy => by have := HI2.out y (List.mem_of_mem_take hy); omega)
     have hnm6 := nmB_len 2
     have hjl : (N.take j).length ≤ 130 := by rw [List.length_take]; omega
     generalize flatN (N.take j) = S at *
     have hA1 : Hid (∀ v, (binOp .add 9 (.string (strB [32])) (.string (strB (Lib.itoa x)))).run Tryd.prog v = .ok (.string (strB ([32] ++ Lib.itoa x))) v) := Lib.hid (fun v => add_str _ _ (by simp; omega) v)
     have hA2 : Hid (∀ v, (binOp .add 9 (.string (strB (nmB 2 ++ S))) (.string (strB ([32] ++ Lib.itoa x)))).run Tryd.prog v = .ok (.string (strB ((nmB 2 ++ S) ++ ([32] ++ Lib.itoa x)))) v) := Lib.hid (fun v => add_str _ _ (by simp; omega) v)
     generalize Lib.itoa x = I at *
     clear hx hX hil hfl hnm6 hjl
     have hjI : (j : Int) < (M : Int) := by omega
     go_wp2_with fail
     refine HF.out.mono ?_
     rintro e V2 ⟨rfl, bv2⟩
     have hv2 := hv.trans (bv2.mono hvz)
     go_wp2_with (first
      | ((with_reducible refine wpList_bin_at (dst := some 81) .add 9 9 _ (.tmp 80) (.string (strB [32])) (.string (strB I)) _ (by kernel_rfl) (by kernel_rfl) (by kernel_rfl) (add_guard _ _ _ _ _) (hA1.out _) ?_); simp only [Act.put, zC, zD, zE])
      | ((with_reducible refine wpList_bin_at (dst := some 82) .add 9 9 (.tmp 78) (.tmp 81) (.string (strB (nmB 2 ++ S))) (.string (strB ([32] ++ I))) _ (by kernel_rfl) (by kernel_rfl) (by kernel_rfl) (add_guard _ _ _ _ _) (hA2.out _) ?_); simp only [Act.put, zC, zD, zE]))
     go_roundw
     case rel => exact ⟨_, j + 1, rfl, by omega, by go_num, by rw [HFS.out, List.append_assoc]; rfl, hv2⟩
     case measure => simp [intOf]; omega
    ·obtain rfl : j = M := by omega
     have hjI : ¬ ((j : Int) < (j : Int)) := by omega
     rw [show N.take j = N from List.take_of_length_le (by omega)]
     go_wp2_with fail
     go_ret2
     refine ⟨?_, HBV.out⟩
     have hd0 := HQ.out.2.2.2.2.2.2.2.2
     rw [HLN.out, hd0]
     simp [flatH]
set_option maxHeartbeats 4000000 in
theorem ol_3 (w : World) (hN : NamesT w) (hP : P10 w) (Ar : Option Addr) (nr cr : Nat) (D : Option Addr) (nd cd : Nat) (wait gap : Int) (regs : List Int) (code na unit wth : Int) (data : List Int) (h1 : SlI w w.heap.size .u16 Ar nr cr regs) (h2 : SlI w w.heap.size .u8 D nd cd data) (hok : ActP.ok ⟨3, wait, gap, regs, code, na, unit, wth, data⟩) (hm : mayA ⟨3, wait, gap, regs, code, na, unit, wth, data⟩ = true) :
  Calls Tryd.prog 20 #[.agg #[.int .i64 3, .int .i64 wait, .int .i64 gap, .slice Ar nr cr, .int .i64 code, .int .i64 na, .int .i64 unit, .int .u8 wth, .slice D nd cd]] w (LnPost w (lineL ⟨3, wait, gap, regs, code, na, unit, wth, data⟩)) := by
 obtain ⟨w1, hw1⟩ : ∃ W, w.alloc (.cells #[.int .i64 3, .int .i64 wait, .int .i64 gap, .slice Ar nr cr, .int .i64 code, .int .i64 na, .int .i64 unit, .int .u8 wth, .slice D nd cd] 29) = W := ⟨_, rfl⟩
 have b1 : Below w.heap.size w w1 := by rw [← hw1]; exact (Below.refl _ w).alloc (Nat.le_refl _) _
 have hX1 : Held w1 w.heap.size 29 #[.int .i64 3, .int .i64 wait, .int .i64 gap, .slice Ar nr cr, .int .i64 code, .int .i64 na, .int .i64 unit, .int .u8 wth, .slice D nd cd] := by rw [← hw1]; exact Held.new w _ _
 have hc := (bcheck_any (.agg #[.int .i64 3, .int .i64 wait, .int .i64 gap, .slice Ar nr cr, .int .i64 code, .int .i64 na, .int .i64 unit, .int .u8 wth, .slice D nd cd]) ⟨3, wait, gap, regs, code, na, unit, wth, data⟩ w1 (hN.up b1) ⟨Ar, nr, cr, D, nd, cd, rfl, h1.up b1, h2.up b1⟩ hok)
 rw [hm, if_pos rfl] at hc
 have HC := Lib.hid hc
 have hq := may_l hm
 unfold mayQ at hq
 dsimp only at hq
 have HQ : Hid ((0 ≤ wait ∧ wait ≤ 1073741824) ∧ (0 ≤ gap ∧ gap ≤ 1073741824) ∧ (0 ≤ na ∧ na ≤ 1000) ∧ (0 ≤ unit ∧ unit ≤ 247) ∧ (0 ≤ code ∧ code ≤ 11) ∧ (0 ≤ wth ∧ wth < 256) ∧ regs.length ≤ 125 ∧ data.length ≤ 300 ∧ data = []) := Lib.hid (by
  have hw := hok.2.2.1
  dsimp only at hw
  have h0 : data = [] := List.length_eq_zero_iff.1 (by omega)
  refine ⟨by omega, by omega, by omega, by omega, by omega, hw, by omega, by omega, h0⟩)
 have HR := Lib.hid (show ∀ x ∈ regs, 0 ≤ x ∧ x < 65536 from hok.2.2.2.1)
 have HR8 := Lib.hid (show ∀ x ∈ data, 0 ≤ x ∧ x < 256 from hok.2.2.2.2.1)
 have HX1 := Lib.hid hX1
 have HB1 := Lib.hid b1
 have HN := Lib.hid hN
 have HP := Lib.hid hP
 have HG := Lib.hid (fun (V : World) (h : Below w.heap.size w V) => h1.up h)
 have HS := Lib.hid (fun (V : World) (h : Below w.heap.size w V) => h2.up h)
 have hrl := h1.1
 have hdl := h2.1
 obtain ⟨x0, x1, x2, x3, x4, x5, x6, x7, x8⟩ := zC9 hX1
 clear hX1 b1 hN hP h1 h2 hc hq hok hm
 go_in
 go_wp2_with fail
 refine HC.out.mono ?_
 rintro e w2 ⟨rfl, b2⟩
 have hX2 := HX1.out.below b2 HX1.out.lt
 have HB2 := Lib.hid (HB1.out.trans (b2.mono HB1.out.size))
 have hz2 := (HB1.out.trans (b2.mono HB1.out.size)).size
 have lt2 := hX2.lt
 obtain ⟨x0, x1, x2, x3, x4, x5, x6, x7, x8⟩ := zC9 hX2
 have HX2 := Lib.hid hX2
 clear b2 hX2
 obtain ⟨w3, hw3⟩ : ∃ W, w2.alloc (.cells #[.int .i64 wait, .int .i64 gap] 2) = W := ⟨_, rfl⟩
 have o3 : w3.ownsRow (w.heap.size + 1) 2 1 (.slice (some ⟨w2.heap.size, 0, none⟩) 2 2) 2 ([wait, gap].map (Value.int .i64)) := by
  rw [← hw3]; exact World.ownsRow_lit w2 #[.int .i64 wait, .int .i64 gap] 2 (by omega) (by unfold maxLen; omega) (by simp)
 have hX3 : Held w3 w.heap.size 29 #[.int .i64 3, .int .i64 wait, .int .i64 gap, .slice Ar nr cr, .int .i64 code, .int .i64 na, .int .i64 unit, .int .u8 wth, .slice D nd cd] := by rw [← hw3]; exact HX2.out.alloc _
 have HB3 : Hid (Below w.heap.size w w3) := Lib.hid (by rw [← hw3]; exact HB2.out.alloc (by omega) _)
 have lt3 := HB3.out.size
 have hw13 : w.heap.size + 1 ≤ w3.heap.size := hX3.lt
 obtain ⟨x0, x1, x2, x3, x4, x5, x6, x7, x8⟩ := zC9 hX3
 skip
 obtain ⟨i0, hi, hz0, hz1, hzb⟩ := info_parts info_G64
 have HX3 := Lib.hid hX3
 have HW3 := Lib.hid hw3
 clear hX3 hw3
 go_upto_region 14 with (fail)
 rw [HW3.out]
 have HNA : Hid (numsA ⟨3, wait, gap, regs, code, na, unit, wth, data⟩ = [wait, gap] ++ regs) := Lib.hid rfl
 have HIN : Hid (∀ x ∈ [wait, gap], 0 ≤ x ∧ x ≤ 1073741824) := Lib.hid (by
  have q := HQ.out
  intro x hx
  simp at hx
  rcases hx with rfl | rfl <;> omega)
 have HO := Lib.hid o3
 clear o3
 go_wp2_with fail
 go_loopw [5, 59] (fun u5 u59 wr => ∃ k : Nat, k ≤ nr ∧ u59 = .int .i64 k ∧ wr.ownsRow (w.heap.size + 1) 2 1 u5 (2 + k) (([wait, gap] ++ regs.take k).map (Value.int .i64)) ∧ Below (w.heap.size + 1) w3 wr) (fun _ u59 _ => nr - (intOf u59).toNat)
 case atStart => exact ⟨0, by omega, rfl, by simpa using HO.out, Below.refl _ _⟩
 case round =>
  rename_i wr _
  obtain ⟨k, hk1, rfl, hown, hb⟩ := hrel
  have hX := HX3.out.below hb (by omega)
  have hbw := HB3.out.trans (hb.mono (by omega))
  have hsz := hb.size
  obtain ⟨x0, -, -, -, -, -, -, -, x8⟩ := zC9 hX
  by_cases hlt : k < nr
  ·obtain ⟨g, off, x, rfl, hg, hx, hcx⟩ := (HG.out wr hbw).2.2.2.2.at_ (i := k) (by omega)
   have HT := Lib.hid (show regs.take (k + 1) = regs.take k ++ [x] by rw [List.take_add_one, hx, Option.toList_some])
   have hw64 : wrap64 x = x := w64_in x (by have := HR.out x (List.mem_of_getElem? hx); omega) (by have := HR.out x (List.mem_of_getElem? hx); omega)
   have hkI : (k : Int) < (nr : Int) := by omega
   have h125 : nr ≤ 125 := by have := HQ.out.2.2.2.2.2.2.1; omega
   have hba := hb.alloc (by omega) (.cells #[.int .i64 x] 2)
   have hz := HB1.out.size
   have ha := hown.alloc (.cells #[.int .i64 x] 2)
   clear hX hx hown
   go_wp2_with ((with_reducible refine at_append ?_); refine wpList_append_own _ rfl _ _ 81 rfl (w.heap.size + 1) 2 i0 (.int .i64 0) 1 8 Tryd.underlying81 hi hz0 hz1 hzb rfl (by decide) _ _ _ rfl ha ⟨wr.heap.size, 0, none⟩ 1 1 [.int .i64 x] rfl rfl (World.news_of_block (cs := #[.int .i64 x]) (t := 2) (fr := (0, 0)) (heap_alloc_new wr _)) (by simp [Value.oneCell']) (by unfold maxLen; omega) (by omega) (by simp; omega) ?_; intro v6 w6 o6 g6 _)
   go_roundw
   case rel =>
    refine ⟨k + 1, by omega, by go_num, ?_, hba.grown g6 (by simp; omega) (fun j hj => (ha.lt j hj).1)⟩
    rw [HT.out]
    have e : ([wait, gap] ++ (regs.take k ++ [x])).map (Value.int .i64) = ([wait, gap] ++ regs.take k).map (Value.int .i64) ++ [.int .i64 x] := by simp
    rw [e]
    exact o6
   case measure => simp [intOf]; omega
  ·obtain rfl : k = nr := by omega
   have hkI : ¬ ((k : Int) < (k : Int)) := by omega
   have hT : regs.take k = regs := List.take_of_length_le (by omega)
   have h125 : k ≤ 125 := by have := HQ.out.2.2.2.2.2.2.1; omega
   rw [hT] at hown
   obtain ⟨N, hNe⟩ : ∃ N, [wait, gap] ++ regs = N := ⟨_, rfl⟩
   obtain ⟨M, hM⟩ : ∃ M : Nat, 2 + k = M := ⟨_, rfl⟩
   have hMl : M ≤ 130 := by omega
   have HI2 : Hid (∀ x ∈ N, 0 ≤ x ∧ x ≤ 1073741824) := Lib.hid (by
    intro x hx
    rw [← hNe] at hx
    rcases List.mem_append.1 hx with h | h
    ·exact HIN.out x h
    ·have := HR.out x h; omega)
   have HLN : Hid (lineL ⟨3, wait, gap, regs, code, na, unit, wth, data⟩ = nmB 3 ++ flatN N ++ [] ++ flatH data) := Lib.hid (by unfold lineL; rw [HNA.out, hNe]; rfl)
   rw [hNe, hM] at hown
   obtain ⟨A5, c5, rfl, s5⟩ := SlI.of_own hown
   have hNl := s5.1
   have HS5 := Lib.hid (fun (V : World) (h : Below wr.heap.size wr V) => s5.up h)
   have HNM := Lib.hid (bname_any 3 wr (HN.out.up hbw))
   have HBW := Lib.hid hbw
   have HXW := Lib.hid hX
   clear hown s5 hX hbw hT hM hNe hb HO
   go_wp2_with fail
   refine HNM.out.mono ?_
   rintro e w7 ⟨rfl, rfl⟩
   rw [nmB_eq]
   go_wp2_with fail
   go_loopw [8, 74] (fun u8 u74 V => ∃ (V0 : World) (j : Nat), V0 = V ∧ j ≤ M ∧ u74 = .int .i64 j ∧ u8 = .string (strB (nmB 3 ++ flatN (N.take j))) ∧ Below wr.heap.size wr V0) (fun _ u74 _ => M - (intOf u74).toNat)
   case atStart => exact ⟨_, 0, rfl, by omega, rfl, by simp [flatN], Below.refl _ _⟩
   case round =>
    obtain ⟨V, j, hVe, hj1, rfl, rfl, hv⟩ := hrel
    subst hVe
    have hvz := hv.size
    have hX := HXW.out.below hv HXW.out.lt
    obtain ⟨x0, -, -, -, -, -, -, -, x8⟩ := zC9 hX
    have HBV := Lib.hid (HBW.out.trans (hv.mono HBW.out.size))
    by_cases hlt : j < M
    ·obtain ⟨g, off, x, rfl, hg, hx, hcx⟩ := (HS5.out V hv).2.2.2.2.at_ (i := j) (by omega)
     have hxb := HI2.out x (List.mem_of_getElem? hx)
     have HFS := Lib.hid (flatN_succ N j x hx)
     have HF := Lib.hid (fmt_any x ⟨hxb.1, by omega⟩ V (tabIs_up HP.out HBV.out))
     have hil := Lib.itoa_length_le x (by omega) (by omega)
     have hfl := flatN_len (N.take j) (fun y hy => by have := HI2.out y (List.mem_of_mem_take hy); omega)
     have hnm6 := nmB_len 3
     have hjl : (N.take j).length ≤ 130 := by rw [List.length_take]; omega
     generalize flatN (N.take j) = S at *
     have hA1 : Hid (∀ v, (binOp .add 9 (.string (strB [32])) (.string (strB (Lib.itoa x)))).run Tryd.prog v = .ok (.string (strB ([32] ++ Lib.itoa x))) v) := Lib.hid (fun v => add_str _ _ (by simp; omega) v)
     have hA2 : Hid (∀ v, (binOp .add 9 (.string (strB (nmB 3 ++ S))) (.string (strB ([32] ++ Lib.itoa x)))).run Tryd.prog v = .ok (.string (strB ((nmB 3 ++ S) ++ ([32] ++ Lib.itoa x)))) v) := Lib.hid (fun v => add_str _ _ (by simp; omega) v)
     generalize Lib.itoa x = I at *
     clear hx hX hil hfl hnm6 hjl
     have hjI : (j : Int) < (M : Int) := by omega
     go_wp2_with fail
     refine HF.out.mono ?_
     rintro e V2 ⟨rfl, bv2⟩
     have hv2 := hv.trans (bv2.mono hvz)
     go_wp2_with (first
      | ((with_reducible refine wpList_bin_at (dst := some 81) .add 9 9 _ (.tmp 80) (.string (strB [32])) (.string (strB I)) _ (by kernel_rfl) (by kernel_rfl) (by kernel_rfl) (add_guard _ _ _ _ _) (hA1.out _) ?_); simp only [Act.put, zC, zD, zE])
      | ((with_reducible refine wpList_bin_at (dst := some 82) .add 9 9 (.tmp 78) (.tmp 81) (.string (strB (nmB 3 ++ S))) (.string (strB ([32] ++ I))) _ (by kernel_rfl) (by kernel_rfl) (by kernel_rfl) (add_guard _ _ _ _ _) (hA2.out _) ?_); simp only [Act.put, zC, zD, zE]))
     go_roundw
     case rel => exact ⟨_, j + 1, rfl, by omega, by go_num, by rw [HFS.out, List.append_assoc]; rfl, hv2⟩
     case measure => simp [intOf]; omega
    ·obtain rfl : j = M := by omega
     have hjI : ¬ ((j : Int) < (j : Int)) := by omega
     rw [show N.take j = N from List.take_of_length_le (by omega)]
     go_wp2_with fail
     go_ret2
     refine ⟨?_, HBV.out⟩
     have hd0 := HQ.out.2.2.2.2.2.2.2.2
     rw [HLN.out, hd0]
     simp [flatH]
set_option maxHeartbeats 4000000 in
theorem ol_4 (w : World) (hN : NamesT w) (hP : P10 w) (Ar : Option Addr) (nr cr : Nat) (D : Option Addr) (nd cd : Nat) (wait gap : Int) (regs : List Int) (code na unit wth : Int) (data : List Int) (h1 : SlI w w.heap.size .u16 Ar nr cr regs) (h2 : SlI w w.heap.size .u8 D nd cd data) (hok : ActP.ok ⟨4, wait, gap, regs, code, na, unit, wth, data⟩) (hm : mayA ⟨4, wait, gap, regs, code, na, unit, wth, data⟩ = true) :
  Calls Tryd.prog 20 #[.agg #[.int .i64 4, .int .i64 wait, .int .i64 gap, .slice Ar nr cr, .int .i64 code, .int .i64 na, .int .i64 unit, .int .u8 wth, .slice D nd cd]] w (LnPost w (lineL ⟨4, wait, gap, regs, code, na, unit, wth, data⟩)) := by
 obtain ⟨w1, hw1⟩ : ∃ W, w.alloc (.cells #[.int .i64 4, .int .i64 wait, .int .i64 gap, .slice Ar nr cr, .int .i64 code, .int .i64 na, .int .i64 unit, .int .u8 wth, .slice D nd cd] 29) = W := ⟨_, rfl⟩
 have b1 : Below w.heap.size w w1 := by rw [← hw1]; exact (Below.refl _ w).alloc (Nat.le_refl _) _
 have hX1 : Held w1 w.heap.size 29 #[.int .i64 4, .int .i64 wait, .int .i64 gap, .slice Ar nr cr, .int .i64 code, .int .i64 na, .int .i64 unit, .int .u8 wth, .slice D nd cd] := by rw [← hw1]; exact Held.new w _ _
 have hc := (bcheck_any (.agg #[.int .i64 4, .int .i64 wait, .int .i64 gap, .slice Ar nr cr, .int .i64 code, .int .i64 na, .int .i64 unit, .int .u8 wth, .slice D nd cd]) ⟨4, wait, gap, regs, code, na, unit, wth, data⟩ w1 (hN.up b1) ⟨Ar, nr, cr, D, nd, cd, rfl, h1.up b1, h2.up b1⟩ hok)
 rw [hm, if_pos rfl] at hc
 have HC := Lib.hid hc
 have hq := may_l hm
 unfold mayQ at hq
 dsimp only at hq
 have HQ : Hid ((0 ≤ wait ∧ wait ≤ 1073741824) ∧ (0 ≤ gap ∧ gap ≤ 1073741824) ∧ (0 ≤ na ∧ na ≤ 1000) ∧ (0 ≤ unit ∧ unit ≤ 247) ∧ (0 ≤ code ∧ code ≤ 11) ∧ (0 ≤ wth ∧ wth < 256) ∧ regs.length ≤ 125 ∧ data.length ≤ 300 ∧ data = []) := Lib.hid (by
  have hw := hok.2.2.1
  dsimp only at hw
  have h0 : data = [] := List.length_eq_zero_iff.1 (by omega)
  refine ⟨by omega, by omega, by omega, by omega, by omega, hw, by omega, by omega, h0⟩)
 have HR := Lib.hid (show ∀ x ∈ regs, 0 ≤ x ∧ x < 65536 from hok.2.2.2.1)
 have HR8 := Lib.hid (show ∀ x ∈ data, 0 ≤ x ∧ x < 256 from hok.2.2.2.2.1)
 have HX1 := Lib.hid hX1
 have HB1 := Lib.hid b1
 have HN := Lib.hid hN
 have HP := Lib.hid hP
 have HG := Lib.hid (fun (V : World) (h : Below w.heap.size w V) => h1.up h)
 have HS := Lib.hid (fun (V : World) (h : Below w.heap.size w V) => h2.up h)
 have hrl := h1.1
 have hdl := h2.1
 obtain ⟨x0, x1, x2, x3, x4, x5, x6, x7, x8⟩ := zC9 hX1
 clear hX1 b1 hN hP h1 h2 hc hq hok hm
 go_in
 go_wp2_with fail
 refine HC.out.mono ?_
 rintro e w2 ⟨rfl, b2⟩
 have hX2 := HX1.out.below b2 HX1.out.lt
 have HB2 := Lib.hid (HB1.out.trans (b2.mono HB1.out.size))
 have hz2 := (HB1.out.trans (b2.mono HB1.out.size)).size
 have lt2 := hX2.lt
 obtain ⟨x0, x1, x2, x3, x4, x5, x6, x7, x8⟩ := zC9 hX2
 have HX2 := Lib.hid hX2
 clear b2 hX2
 obtain ⟨w3, hw3⟩ : ∃ W, w2.alloc (.cells #[.int .i64 wait, .int .i64 gap] 2) = W := ⟨_, rfl⟩
 have o3 : w3.ownsRow (w.heap.size + 1) 2 1 (.slice (some ⟨w2.heap.size, 0, none⟩) 2 2) 2 ([wait, gap].map (Value.int .i64)) := by
  rw [← hw3]; exact World.ownsRow_lit w2 #[.int .i64 wait, .int .i64 gap] 2 (by omega) (by unfold maxLen; omega) (by simp)
 have hX3 : Held w3 w.heap.size 29 #[.int .i64 4, .int .i64 wait, .int .i64 gap, .slice Ar nr cr, .int .i64 code, .int .i64 na, .int .i64 unit, .int .u8 wth, .slice D nd cd] := by rw [← hw3]; exact HX2.out.alloc _
 have HB3 : Hid (Below w.heap.size w w3) := Lib.hid (by rw [← hw3]; exact HB2.out.alloc (by omega) _)
 have lt3 := HB3.out.size
 have hw13 : w.heap.size + 1 ≤ w3.heap.size := hX3.lt
 obtain ⟨x0, x1, x2, x3, x4, x5, x6, x7, x8⟩ := zC9 hX3
 skip
 obtain ⟨i0, hi, hz0, hz1, hzb⟩ := info_parts info_G64
 have HX3 := Lib.hid hX3
 have HW3 := Lib.hid hw3
 clear hX3 hw3
 go_upto_region 9 with (fail)
 rw [HW3.out]
 have hX3a := HX3.out.alloc (.cells #[.int .i64 na] 2)
 have HB3a := Lib.hid (HB3.out.alloc lt3 (.cells #[.int .i64 na] 2))
 have o3a := o3.alloc (.cells #[.int .i64 na] 2)
 have HX3a := Lib.hid hX3a
 clear hX3a
 go_upto_region 14 with ((with_reducible refine at_append ?_); refine wpList_append_own _ rfl _ _ 81 rfl (w.heap.size + 1) 2 i0 (.int .i64 0) 1 8 Tryd.underlying81 hi hz0 hz1 hzb rfl (by decide) _ _ _ rfl (o3.alloc _) ⟨w3.heap.size, 0, none⟩ 1 1 [.int .i64 na] rfl rfl (World.news_of_block (cs := #[.int .i64 na]) (t := 2) (fr := (0, 0)) (heap_alloc_new w3 _)) (by simp [Value.oneCell']) (by unfold maxLen; omega) (by omega) (by simp; omega) ?_; intro v4 w4 o4 g4 _)
 have b4 : Below (w.heap.size + 1) (w3.alloc (.cells #[.int .i64 na] 2)) w4 := (Below.refl _ _).grown g4 (by simp; omega) (fun j hj => (o3a.lt j hj).1)
 have hX4 := HX3a.out.below b4 (by omega)
 have HB4 := Lib.hid (HB3a.out.trans (b4.mono (by omega)))
 have lt4 := HB4.out.size
 have o4 : w4.ownsRow (w.heap.size + 1) 2 1 v4 3 ([wait, gap, na].map (Value.int .i64)) := o4
 have hw14 : w.heap.size + 1 ≤ w4.heap.size := hX4.lt
 obtain ⟨x0, -, -, x3, -, -, -, -, x8⟩ := zC9 hX4
 have HX4 := Lib.hid hX4
 clear g4 b4 hX4 o3 o3a
 have HNA : Hid (numsA ⟨4, wait, gap, regs, code, na, unit, wth, data⟩ = [wait, gap, na] ++ regs) := Lib.hid rfl
 have HIN : Hid (∀ x ∈ [wait, gap, na], 0 ≤ x ∧ x ≤ 1073741824) := Lib.hid (by
  have q := HQ.out
  intro x hx
  simp at hx
  rcases hx with rfl | rfl | rfl <;> omega)
 have HO := Lib.hid o4
 clear o4
 go_wp2_with fail
 go_loopw [5, 59] (fun u5 u59 wr => ∃ k : Nat, k ≤ nr ∧ u59 = .int .i64 k ∧ wr.ownsRow (w.heap.size + 1) 2 1 u5 (3 + k) (([wait, gap, na] ++ regs.take k).map (Value.int .i64)) ∧ Below (w.heap.size + 1) w4 wr) (fun _ u59 _ => nr - (intOf u59).toNat)
 case atStart => exact ⟨0, by omega, rfl, by simpa using HO.out, Below.refl _ _⟩
 case round =>
  rename_i wr _
  obtain ⟨k, hk1, rfl, hown, hb⟩ := hrel
  have hX := HX4.out.below hb (by omega)
  have hbw := HB4.out.trans (hb.mono (by omega))
  have hsz := hb.size
  obtain ⟨x0, -, -, -, -, -, -, -, x8⟩ := zC9 hX
  by_cases hlt : k < nr
  ·obtain ⟨g, off, x, rfl, hg, hx, hcx⟩ := (HG.out wr hbw).2.2.2.2.at_ (i := k) (by omega)
   have HT := Lib.hid (show regs.take (k + 1) = regs.take k ++ [x] by rw [List.take_add_one, hx, Option.toList_some])
   have hw64 : wrap64 x = x := w64_in x (by have := HR.out x (List.mem_of_getElem? hx); omega) (by have := HR.out x (List.mem_of_getElem? hx); omega)
   have hkI : (k : Int) < (nr : Int) := by omega
   have h125 : nr ≤ 125 := by have := HQ.out.2.2.2.2.2.2.1; omega
   have hba := hb.alloc (by omega) (.cells #[.int .i64 x] 2)
   have hz := HB1.out.size
   have ha := hown.alloc (.cells #[.int .i64 x] 2)
   clear hX hx hown
   go_wp2_with ((with_reducible refine at_append ?_); refine wpList_append_own _ rfl _ _ 81 rfl (w.heap.size + 1) 2 i0 (.int .i64 0) 1 8 Tryd.underlying81 hi hz0 hz1 hzb rfl (by decide) _ _ _ rfl ha ⟨wr.heap.size, 0, none⟩ 1 1 [.int .i64 x] rfl rfl (World.news_of_block (cs := #[.int .i64 x]) (t := 2) (fr := (0, 0)) (heap_alloc_new wr _)) (by simp [Value.oneCell']) (by unfold maxLen; omega) (by omega) (by simp; omega) ?_; intro v6 w6 o6 g6 _)
   go_roundw
   case rel =>
    refine ⟨k + 1, by omega, by go_num, ?_, hba.grown g6 (by simp; omega) (fun j hj => (ha.lt j hj).1)⟩
    rw [HT.out]
    have e : ([wait, gap, na] ++ (regs.take k ++ [x])).map (Value.int .i64) = ([wait, gap, na] ++ regs.take k).map (Value.int .i64) ++ [.int .i64 x] := by simp
    rw [e]
    exact o6
   case measure => simp [intOf]; omega
  ·obtain rfl : k = nr := by omega
   have hkI : ¬ ((k : Int) < (k : Int)) := by omega
   have hT : regs.take k = regs := List.take_of_length_le (by omega)
   have h125 : k ≤ 125 := by have := HQ.out.2.2.2.2.2.2.1; omega
   rw [hT] at hown
   obtain ⟨N, hNe⟩ : ∃ N, [wait, gap, na] ++ regs = N := ⟨_, rfl⟩
   obtain ⟨M, hM⟩ : ∃ M : Nat, 3 + k = M := ⟨_, rfl⟩
   have hMl : M ≤ 130 := by omega
   have HI2 : Hid (∀ x ∈ N, 0 ≤ x ∧ x ≤ 1073741824) := Lib.hid (by
    intro x hx
    rw [← hNe] at hx
    rcases List.mem_append.1 hx with h | h
    ·exact HIN.out x h
    ·have := HR.out x h; omega)
   have HLN : Hid (lineL ⟨4, wait, gap, regs, code, na, unit, wth, data⟩ = nmB 4 ++ flatN N ++ [] ++ flatH data) := Lib.hid (by unfold lineL; rw [HNA.out, hNe]; rfl)
   rw [hNe, hM] at hown
   obtain ⟨A5, c5, rfl, s5⟩ := SlI.of_own hown
   have hNl := s5.1
   have HS5 := Lib.hid (fun (V : World) (h : Below wr.heap.size wr V) => s5.up h)
   have HNM := Lib.hid (bname_any 4 wr (HN.out.up hbw))
   have HBW := Lib.hid hbw
   have HXW := Lib.hid hX
   clear hown s5 hX hbw hT hM hNe hb HO
   go_wp2_with fail
   refine HNM.out.mono ?_
   rintro e w7 ⟨rfl, rfl⟩
   rw [nmB_eq]
   go_wp2_with fail
   go_loopw [8, 74] (fun u8 u74 V => ∃ (V0 : World) (j : Nat), V0 = V ∧ j ≤ M ∧ u74 = .int .i64 j ∧ u8 = .string (strB (nmB 4 ++ flatN (N.take j))) ∧ Below wr.heap.size wr V0) (fun _ u74 _ => M - (intOf u74).toNat)
   case atStart => exact ⟨_, 0, rfl, by omega, rfl, by simp [flatN], Below.refl _ _⟩
   case round =>
    obtain ⟨V, j, hVe, hj1, rfl, rfl, hv⟩ := hrel
    subst hVe
    have hvz := hv.size
    have hX := HXW.out.below hv HXW.out.lt
    obtain ⟨x0, -, -, -, -, -, -, -, x8⟩ := zC9 hX
    have HBV := Lib.hid (HBW.out.trans (hv.mono HBW.out.size))
    by_cases hlt : j < M
    ·obtain ⟨g, off, x, rfl, hg, hx, hcx⟩ := (HS5.out V hv).2.2.2.2.at_ (i := j) (by omega)
     have hxb := HI2.out x (List.mem_of_getElem? hx)
     have HFS := Lib.hid (flatN_succ N j x hx)
     have HF := Lib.hid (fmt_any x ⟨hxb.1, by omega⟩ V (tabIs_up HP.out HBV.out))
     have hil := Lib.itoa_length_le x (by omega) (by omega)
     have hfl := flatN_len (N.take j) (fun y hy => by have := HI2.out y (List.mem_of_mem_take hy); omega)
     have hnm6 := nmB_len 4
     have hjl : (N.take j).length ≤ 130 := by rw [List.length_take]; omega
     generalize flatN (N.take j) = S at *
     have hA1 : Hid (∀ v, (binOp .add 9 (.string (strB [32])) (.string (strB (Lib.itoa x)))).run Tryd.prog v = .ok (.string (strB ([32] ++ Lib.itoa x))) v) := Lib.hid (fun v => add_str _ _ (by simp; omega) v)
     have hA2 : Hid (∀ v, (binOp .add 9 (.string (strB (nmB 4 ++ S))) (.string (strB ([32] ++ Lib.itoa x)))).run Tryd.prog v = .ok (.string (strB ((nmB 4 ++ S) ++ ([32] ++ Lib.itoa x)))) v) := Lib.hid (fun v => add_str _ _ (by simp; omega) v)
     generalize Lib.itoa x = I at *
     clear hx hX hil hfl hnm6 hjl
     have hjI : (j : Int) < (M : Int) := by omega
     go_wp2_with fail
     refine HF.out.mono ?_
     rintro e V2 ⟨rfl, bv2⟩
     have hv2 := hv.trans (bv2.mono hvz)
     go_wp2_with (first
      | ((with_reducible refine wpList_bin_at (dst := some 81) .add 9 9 _ (.tmp 80) (.string (strB [32])) (.string (strB I)) _ (by kernel_rfl) (by kernel_rfl) (by kernel_rfl) (add_guard _ _ _ _ _) (hA1.out _) ?_); simp only [Act.put, zC, zD, zE])
      | ((with_reducible refine wpList_bin_at (dst := some 82) .add 9 9 (.tmp 78) (.tmp 81) (.string (strB (nmB 4 ++ S))) (.string (strB ([32] ++ I))) _ (by kernel_rfl) (by kernel_rfl) (by kernel_rfl) (add_guard _ _ _ _ _) (hA2.out _) ?_); simp only [Act.put, zC, zD, zE]))
     go_roundw
     case rel => exact ⟨_, j + 1, rfl, by omega, by go_num, by rw [HFS.out, List.append_assoc]; rfl, hv2⟩
     case measure => simp [intOf]; omega
    ·obtain rfl : j = M := by omega
     have hjI : ¬ ((j : Int) < (j : Int)) := by omega
     rw [show N.take j = N from List.take_of_length_le (by omega)]
     go_wp2_with fail
     go_ret2
     refine ⟨?_, HBV.out⟩
     have hd0 := HQ.out.2.2.2.2.2.2.2.2
     rw [HLN.out, hd0]
     simp [flatH]
set_option maxHeartbeats 4000000 in
theorem ol_5 (w : World) (hN : NamesT w) (hP : P10 w) (Ar : Option Addr) (nr cr : Nat) (D : Option Addr) (nd cd : Nat) (wait gap : Int) (regs : List Int) (code na unit wth : Int) (data : List Int) (h1 : SlI w w.heap.size .u16 Ar nr cr regs) (h2 : SlI w w.heap.size .u8 D nd cd data) (hok : ActP.ok ⟨5, wait, gap, regs, code, na, unit, wth, data⟩) (hm : mayA ⟨5, wait, gap, regs, code, na, unit, wth, data⟩ = true) :
  Calls Tryd.prog 20 #[.agg #[.int .i64 5, .int .i64 wait, .int .i64 gap, .slice Ar nr cr, .int .i64 code, .int .i64 na, .int .i64 unit, .int .u8 wth, .slice D nd cd]] w (LnPost w (lineL ⟨5, wait, gap, regs, code, na, unit, wth, data⟩)) := by
 obtain ⟨w1, hw1⟩ : ∃ W, w.alloc (.cells #[.int .i64 5, .int .i64 wait, .int .i64 gap, .slice Ar nr cr, .int .i64 code, .int .i64 na, .int .i64 unit, .int .u8 wth, .slice D nd cd] 29) = W := ⟨_, rfl⟩
 have b1 : Below w.heap.size w w1 := by rw [← hw1]; exact (Below.refl _ w).alloc (Nat.le_refl _) _
 have hX1 : Held w1 w.heap.size 29 #[.int .i64 5, .int .i64 wait, .int .i64 gap, .slice Ar nr cr, .int .i64 code, .int .i64 na, .int .i64 unit, .int .u8 wth, .slice D nd cd] := by rw [← hw1]; exact Held.new w _ _
 have hc := (bcheck_any (.agg #[.int .i64 5, .int .i64 wait, .int .i64 gap, .slice Ar nr cr, .int .i64 code, .int .i64 na, .int .i64 unit, .int .u8 wth, .slice D nd cd]) ⟨5, wait, gap, regs, code, na, unit, wth, data⟩ w1 (hN.up b1) ⟨Ar, nr, cr, D, nd, cd, rfl, h1.up b1, h2.up b1⟩ hok)
 rw [hm, if_pos rfl] at hc
 have HC := Lib.hid hc
 have hq := may_l hm
 unfold mayQ at hq
 dsimp only at hq
 have HQ : Hid ((0 ≤ wait ∧ wait ≤ 1073741824) ∧ (0 ≤ gap ∧ gap ≤ 1073741824) ∧ (0 ≤ na ∧ na ≤ 1000) ∧ (0 ≤ unit ∧ unit ≤ 247) ∧ (0 ≤ code ∧ code ≤ 11) ∧ (0 ≤ wth ∧ wth < 256) ∧ regs.length ≤ 125 ∧ data.length ≤ 300 ∧ data = []) := Lib.hid (by
  have hw := hok.2.2.1
  dsimp only at hw
  have h0 : data = [] := List.length_eq_zero_iff.1 (by omega)
  refine ⟨by omega, by omega, by omega, by omega, by omega, hw, by omega, by omega, h0⟩)
 have HR := Lib.hid (show ∀ x ∈ regs, 0 ≤ x ∧ x < 65536 from hok.2.2.2.1)
 have HR8 := Lib.hid (show ∀ x ∈ data, 0 ≤ x ∧ x < 256 from hok.2.2.2.2.1)
 have HX1 := Lib.hid hX1
 have HB1 := Lib.hid b1
 have HN := Lib.hid hN
 have HP := Lib.hid hP
 have HG := Lib.hid (fun (V : World) (h : Below w.heap.size w V) => h1.up h)
 have HS := Lib.hid (fun (V : World) (h : Below w.heap.size w V) => h2.up h)
 have hrl := h1.1
 have hdl := h2.1
 obtain ⟨x0, x1, x2, x3, x4, x5, x6, x7, x8⟩ := zC9 hX1
 clear hX1 b1 hN hP h1 h2 hc hq hok hm
 go_in
 go_wp2_with fail
 refine HC.out.mono ?_
 rintro e w2 ⟨rfl, b2⟩
 have hX2 := HX1.out.below b2 HX1.out.lt
 have HB2 := Lib.hid (HB1.out.trans (b2.mono HB1.out.size))
 have hz2 := (HB1.out.trans (b2.mono HB1.out.size)).size
 have lt2 := hX2.lt
 obtain ⟨x0, x1, x2, x3, x4, x5, x6, x7, x8⟩ := zC9 hX2
 have HX2 := Lib.hid hX2
 clear b2 hX2
 obtain ⟨w3, hw3⟩ : ∃ W, w2.alloc (.cells #[.int .i64 wait, .int .i64 gap] 2) = W := ⟨_, rfl⟩
 have o3 : w3.ownsRow (w.heap.size + 1) 2 1 (.slice (some ⟨w2.heap.size, 0, none⟩) 2 2) 2 ([wait, gap].map (Value.int .i64)) := by
  rw [← hw3]; exact World.ownsRow_lit w2 #[.int .i64 wait, .int .i64 gap] 2 (by omega) (by unfold maxLen; omega) (by simp)
 have hX3 : Held w3 w.heap.size 29 #[.int .i64 5, .int .i64 wait, .int .i64 gap, .slice Ar nr cr, .int .i64 code, .int .i64 na, .int .i64 unit, .int .u8 wth, .slice D nd cd] := by rw [← hw3]; exact HX2.out.alloc _
 have HB3 : Hid (Below w.heap.size w w3) := Lib.hid (by rw [← hw3]; exact HB2.out.alloc (by omega) _)
 have lt3 := HB3.out.size
 have hw13 : w.heap.size + 1 ≤ w3.heap.size := hX3.lt
 obtain ⟨x0, x1, x2, x3, x4, x5, x6, x7, x8⟩ := zC9 hX3
 have hww : wrap64 wth = wth := w64_in wth (by have := HQ.out.2.2.2.2.2.1; omega) (by have := HQ.out.2.2.2.2.2.1; omega)
 obtain ⟨i0, hi, hz0, hz1, hzb⟩ := info_parts info_G64
 have HX3 := Lib.hid hX3
 have HW3 := Lib.hid hw3
 clear hX3 hw3
 go_upto_region 11 with (fail)
 rw [HW3.out]
 have hX3a := HX3.out.alloc (.cells #[.int .i64 na, .int .i64 wth] 2)
 have HB3a := Lib.hid (HB3.out.alloc lt3 (.cells #[.int .i64 na, .int .i64 wth] 2))
 have o3a := o3.alloc (.cells #[.int .i64 na, .int .i64 wth] 2)
 have HX3a := Lib.hid hX3a
 clear hX3a
 go_upto_region 14 with ((with_reducible refine at_append ?_); refine wpList_append_own _ rfl _ _ 81 rfl (w.heap.size + 1) 2 i0 (.int .i64 0) 1 8 Tryd.underlying81 hi hz0 hz1 hzb rfl (by decide) _ _ _ rfl (o3.alloc _) ⟨w3.heap.size, 0, none⟩ 2 2 [.int .i64 na, .int .i64 wth] rfl rfl (World.news_of_block (cs := #[.int .i64 na, .int .i64 wth]) (t := 2) (fr := (0, 0)) (heap_alloc_new w3 _)) (by simp [Value.oneCell']) (by unfold maxLen; omega) (by omega) (by simp; omega) ?_; intro v4 w4 o4 g4 _)
 have b4 : Below (w.heap.size + 1) (w3.alloc (.cells #[.int .i64 na, .int .i64 wth] 2)) w4 := (Below.refl _ _).grown g4 (by simp; omega) (fun j hj => (o3a.lt j hj).1)
 have hX4 := HX3a.out.below b4 (by omega)
 have HB4 := Lib.hid (HB3a.out.trans (b4.mono (by omega)))
 have lt4 := HB4.out.size
 have o4 : w4.ownsRow (w.heap.size + 1) 2 1 v4 4 ([wait, gap, na, wth].map (Value.int .i64)) := o4
 have hw14 : w.heap.size + 1 ≤ w4.heap.size := hX4.lt
 obtain ⟨x0, -, -, x3, -, -, -, -, x8⟩ := zC9 hX4
 have HX4 := Lib.hid hX4
 clear g4 b4 hX4 o3 o3a
 have HNA : Hid (numsA ⟨5, wait, gap, regs, code, na, unit, wth, data⟩ = [wait, gap, na, wth] ++ regs) := Lib.hid rfl
 have HIN : Hid (∀ x ∈ [wait, gap, na, wth], 0 ≤ x ∧ x ≤ 1073741824) := Lib.hid (by
  have q := HQ.out
  intro x hx
  simp at hx
  rcases hx with rfl | rfl | rfl | rfl <;> omega)
 have HO := Lib.hid o4
 clear o4
 go_wp2_with fail
 go_loopw [5, 59] (fun u5 u59 wr => ∃ k : Nat, k ≤ nr ∧ u59 = .int .i64 k ∧ wr.ownsRow (w.heap.size + 1) 2 1 u5 (4 + k) (([wait, gap, na, wth] ++ regs.take k).map (Value.int .i64)) ∧ Below (w.heap.size + 1) w4 wr) (fun _ u59 _ => nr - (intOf u59).toNat)
 case atStart => exact ⟨0, by omega, rfl, by simpa using HO.out, Below.refl _ _⟩
 case round =>
  rename_i wr _
  obtain ⟨k, hk1, rfl, hown, hb⟩ := hrel
  have hX := HX4.out.below hb (by omega)
  have hbw := HB4.out.trans (hb.mono (by omega))
  have hsz := hb.size
  obtain ⟨x0, -, -, -, -, -, -, -, x8⟩ := zC9 hX
  by_cases hlt : k < nr
  ·obtain ⟨g, off, x, rfl, hg, hx, hcx⟩ := (HG.out wr hbw).2.2.2.2.at_ (i := k) (by omega)
   have HT := Lib.hid (show regs.take (k + 1) = regs.take k ++ [x] by rw [List.take_add_one, hx, Option.toList_some])
   have hw64 : wrap64 x = x := w64_in x (by have := HR.out x (List.mem_of_getElem? hx); omega) (by have := HR.out x (List.mem_of_getElem? hx); omega)
   have hkI : (k : Int) < (nr : Int) := by omega
   have h125 : nr ≤ 125 := by have := HQ.out.2.2.2.2.2.2.1; omega
   have hba := hb.alloc (by omega) (.cells #[.int .i64 x] 2)
   have hz := HB1.out.size
   have ha := hown.alloc (.cells #[.int .i64 x] 2)
   clear hX hx hown
   go_wp2_with ((with_reducible refine at_append ?_); refine wpList_append_own _ rfl _ _ 81 rfl (w.heap.size + 1) 2 i0 (.int .i64 0) 1 8 Tryd.underlying81 hi hz0 hz1 hzb rfl (by decide) _ _ _ rfl ha ⟨wr.heap.size, 0, none⟩ 1 1 [.int .i64 x] rfl rfl (World.news_of_block (cs := #[.int .i64 x]) (t := 2) (fr := (0, 0)) (heap_alloc_new wr _)) (by simp [Value.oneCell']) (by unfold maxLen; omega) (by omega) (by simp; omega) ?_; intro v6 w6 o6 g6 _)
   go_roundw
   case rel =>
    refine ⟨k + 1, by omega, by go_num, ?_, hba.grown g6 (by simp; omega) (fun j hj => (ha.lt j hj).1)⟩
    rw [HT.out]
    have e : ([wait, gap, na, wth] ++ (regs.take k ++ [x])).map (Value.int .i64) = ([wait, gap, na, wth] ++ regs.take k).map (Value.int .i64) ++ [.int .i64 x] := by simp
    rw [e]
    exact o6
   case measure => simp [intOf]; omega
  ·obtain rfl : k = nr := by omega
   have hkI : ¬ ((k : Int) < (k : Int)) := by omega
   have hT : regs.take k = regs := List.take_of_length_le (by omega)
   have h125 : k ≤ 125 := by have := HQ.out.2.2.2.2.2.2.1; omega
   rw [hT] at hown
   obtain ⟨N, hNe⟩ : ∃ N, [wait, gap, na, wth] ++ regs = N := ⟨_, rfl⟩
   obtain ⟨M, hM⟩ : ∃ M : Nat, 4 + k = M := ⟨_, rfl⟩
   have hMl : M ≤ 130 := by omega
   have HI2 : Hid (∀ x ∈ N, 0 ≤ x ∧ x ≤ 1073741824) := Lib.hid (by
    intro x hx
    rw [← hNe] at hx
    rcases List.mem_append.1 hx with h | h
    ·exact HIN.out x h
    ·have := HR.out x h; omega)
   have HLN : Hid (lineL ⟨5, wait, gap, regs, code, na, unit, wth, data⟩ = nmB 5 ++ flatN N ++ [] ++ flatH data) := Lib.hid (by unfold lineL; rw [HNA.out, hNe]; rfl)
   rw [hNe, hM] at hown
   obtain ⟨A5, c5, rfl, s5⟩ := SlI.of_own hown
   have hNl := s5.1
   have HS5 := Lib.hid (fun (V : World) (h : Below wr.heap.size wr V) => s5.up h)
   have HNM := Lib.hid (bname_any 5 wr (HN.out.up hbw))
   have HBW := Lib.hid hbw
   have HXW := Lib.hid hX
   clear hown s5 hX hbw hT hM hNe hb HO
   go_wp2_with fail
   refine HNM.out.mono ?_
   rintro e w7 ⟨rfl, rfl⟩
   rw [nmB_eq]
   go_wp2_with fail
   go_loopw [8, 74] (fun u8 u74 V => ∃ (V0 : World) (j : Nat), V0 = V ∧ j ≤ M ∧ u74 = .int .i64 j ∧ u8 = .string (strB (nmB 5 ++ flatN (N.take j))) ∧ Below wr.heap.size wr V0) (fun _ u74 _ => M - (intOf u74).toNat)
   case atStart => exact ⟨_, 0, rfl, by omega, rfl, by simp [flatN], Below.refl _ _⟩
   case round =>
    obtain ⟨V, j, hVe, hj1, rfl, rfl, hv⟩ := hrel
    subst hVe
    have hvz := hv.size
    have hX := HXW.out.below hv HXW.out.lt
    obtain ⟨x0, -, -, -, -, -, -, -, x8⟩ := zC9 hX
    have HBV := Lib.hid (HBW.out.trans (hv.mono HBW.out.size))
    by_cases hlt : j < M
    ·obtain ⟨g, off, x, rfl, hg, hx, hcx⟩ := (HS5.out V hv).2.2.2.2.at_ (i := j) (by omega)
     have hxb := HI2.out x (List.mem_of_getElem? hx)
     have HFS := Lib.hid (flatN_succ N j x hx)
     have HF := Lib.hid (fmt_any x ⟨hxb.1, by omega⟩ V (tabIs_up HP.out HBV.out))
     have hil := Lib.itoa_length_le x (by omega) (by omega)
     have hfl := flatN_len (N.take j) (fun y hy => by have := HI2.out y (List.mem_of_mem_take hy); omega)
     have hnm6 := nmB_len 5
     have hjl : (N.take j).length ≤ 130 := by rw [List.length_take]; omega
     generalize flatN (N.take j) = S at *
     have hA1 : Hid (∀ v, (binOp .add 9 (.string (strB [32])) (.string (strB (Lib.itoa x)))).run Tryd.prog v = .ok (.string (strB ([32] ++ Lib.itoa x))) v) := Lib.hid (fun v => add_str _ _ (by simp; omega) v)
     have hA2 : Hid (∀ v, (binOp .add 9 (.string (strB (nmB 5 ++ S))) (.string (strB ([32] ++ Lib.itoa x)))).run Tryd.prog v = .ok (.string (strB ((nmB 5 ++ S) ++ ([32] ++ Lib.itoa x)))) v) := Lib.hid (fun v => add_str _ _ (by simp; omega) v)
     generalize Lib.itoa x = I at *
     clear hx hX hil hfl hnm6 hjl
     have hjI : (j : Int) < (M : Int) := by omega
     go_wp2_with fail
     refine HF.out.mono ?_
     rintro e V2 ⟨rfl, bv2⟩
     have hv2 := hv.trans (bv2.mono hvz)
     go_wp2_with (first
      | ((with_reducible refine wpList_bin_at (dst := some 81) .add 9 9 _ (.tmp 80) (.string (strB [32])) (.string (strB I)) _ (by kernel_rfl) (by kernel_rfl) (by kernel_rfl) (add_guard _ _ _ _ _) (hA1.out _) ?_); simp only [Act.put, zC, zD, zE])
      | ((with_reducible refine wpList_bin_at (dst := some 82) .add 9 9 (.tmp 78) (.tmp 81) (.string (strB (nmB 5 ++ S))) (.string (strB ([32] ++ I))) _ (by kernel_rfl) (by kernel_rfl) (by kernel_rfl) (add_guard _ _ _ _ _) (hA2.out _) ?_); simp only [Act.put, zC, zD, zE]))
     go_roundw
     case rel => exact ⟨_, j + 1, rfl, by omega, by go_num, by rw [HFS.out, List.append_assoc]; rfl, hv2⟩
     case measure => simp [intOf]; omega
    ·obtain rfl : j = M := by omega
     have hjI : ¬ ((j : Int) < (j : Int)) := by omega
     rw [show N.take j = N from List.take_of_length_le (by omega)]
     go_wp2_with fail
     go_ret2
     refine ⟨?_, HBV.out⟩
     have hd0 := HQ.out.2.2.2.2.2.2.2.2
     rw [HLN.out, hd0]
     simp [flatH]
set_option maxHeartbeats 4000000 in
theorem ol_6 (w : World) (hN : NamesT w) (hP : P10 w) (Ar : Option Addr) (nr cr : Nat) (D : Option Addr) (nd cd : Nat) (wait gap : Int) (regs : List Int) (code na unit wth : Int) (data : List Int) (h1 : SlI w w.heap.size .u16 Ar nr cr regs) (h2 : SlI w w.heap.size .u8 D nd cd data) (hok : ActP.ok ⟨6, wait, gap, regs, code, na, unit, wth, data⟩) (hm : mayA ⟨6, wait, gap, regs, code, na, unit, wth, data⟩ = true) :
  Calls Tryd.prog 20 #[.agg #[.int .i64 6, .int .i64 wait, .int .i64 gap, .slice Ar nr cr, .int .i64 code, .int .i64 na, .int .i64 unit, .int .u8 wth, .slice D nd cd]] w (LnPost w (lineL ⟨6, wait, gap, regs, code, na, unit, wth, data⟩)) := by
 obtain ⟨w1, hw1⟩ : ∃ W, w.alloc (.cells #[.int .i64 6, .int .i64 wait, .int .i64 gap, .slice Ar nr cr, .int .i64 code, .int .i64 na, .int .i64 unit, .int .u8 wth, .slice D nd cd] 29) = W := ⟨_, rfl⟩
 have b1 : Below w.heap.size w w1 := by rw [← hw1]; exact (Below.refl _ w).alloc (Nat.le_refl _) _
 have hX1 : Held w1 w.heap.size 29 #[.int .i64 6, .int .i64 wait, .int .i64 gap, .slice Ar nr cr, .int .i64 code, .int .i64 na, .int .i64 unit, .int .u8 wth, .slice D nd cd] := by rw [← hw1]; exact Held.new w _ _
 have hc := (bcheck_any (.agg #[.int .i64 6, .int .i64 wait, .int .i64 gap, .slice Ar nr cr, .int .i64 code, .int .i64 na, .int .i64 unit, .int .u8 wth, .slice D nd cd]) ⟨6, wait, gap, regs, code, na, unit, wth, data⟩ w1 (hN.up b1) ⟨Ar, nr, cr, D, nd, cd, rfl, h1.up b1, h2.up b1⟩ hok)
 rw [hm, if_pos rfl] at hc
 have HC := Lib.hid hc
 have hq := may_l hm
 unfold mayQ at hq
 dsimp only at hq
 have HQ : Hid ((0 ≤ wait ∧ wait ≤ 1073741824) ∧ (0 ≤ gap ∧ gap ≤ 1073741824) ∧ (0 ≤ na ∧ na ≤ 1000) ∧ (0 ≤ unit ∧ unit ≤ 247) ∧ (0 ≤ code ∧ code ≤ 11) ∧ (0 ≤ wth ∧ wth < 256) ∧ regs.length ≤ 125 ∧ data.length ≤ 300 ∧ data = []) := Lib.hid (by
  have hw := hok.2.2.1
  dsimp only at hw
  have h0 : data = [] := List.length_eq_zero_iff.1 (by omega)
  refine ⟨by omega, by omega, by omega, by omega, by omega, hw, by omega, by omega, h0⟩)
 have HR := Lib.hid (show ∀ x ∈ regs, 0 ≤ x ∧ x < 65536 from hok.2.2.2.1)
 have HR8 := Lib.hid (show ∀ x ∈ data, 0 ≤ x ∧ x < 256 from hok.2.2.2.2.1)
 have HX1 := Lib.hid hX1
 have HB1 := Lib.hid b1
 have HN := Lib.hid hN
 have HP := Lib.hid hP
 have HG := Lib.hid (fun (V : World) (h : Below w.heap.size w V) => h1.up h)
 have HS := Lib.hid (fun (V : World) (h : Below w.heap.size w V) => h2.up h)
 have hrl := h1.1
 have hdl := h2.1
 obtain ⟨x0, x1, x2, x3, x4, x5, x6, x7, x8⟩ := zC9 hX1
 clear hX1 b1 hN hP h1 h2 hc hq hok hm
 go_in
 go_wp2_with fail
 refine HC.out.mono ?_
 rintro e w2 ⟨rfl, b2⟩
 have hX2 := HX1.out.below b2 HX1.out.lt
 have HB2 := Lib.hid (HB1.out.trans (b2.mono HB1.out.size))
 have hz2 := (HB1.out.trans (b2.mono HB1.out.size)).size
 have lt2 := hX2.lt
 obtain ⟨x0, x1, x2, x3, x4, x5, x6, x7, x8⟩ := zC9 hX2
 have HX2 := Lib.hid hX2
 clear b2 hX2
 obtain ⟨w3, hw3⟩ : ∃ W, w2.alloc (.cells #[.int .i64 wait, .int .i64 gap] 2) = W := ⟨_, rfl⟩
 have o3 : w3.ownsRow (w.heap.size + 1) 2 1 (.slice (some ⟨w2.heap.size, 0, none⟩) 2 2) 2 ([wait, gap].map (Value.int .i64)) := by
  rw [← hw3]; exact World.ownsRow_lit w2 #[.int .i64 wait, .int .i64 gap] 2 (by omega) (by unfold maxLen; omega) (by simp)
 have hX3 : Held w3 w.heap.size 29 #[.int .i64 6, .int .i64 wait, .int .i64 gap, .slice Ar nr cr, .int .i64 code, .int .i64 na, .int .i64 unit, .int .u8 wth, .slice D nd cd] := by rw [← hw3]; exact HX2.out.alloc _
 have HB3 : Hid (Below w.heap.size w w3) := Lib.hid (by rw [← hw3]; exact HB2.out.alloc (by omega) _)
 have lt3 := HB3.out.size
 have hw13 : w.heap.size + 1 ≤ w3.heap.size := hX3.lt
 obtain ⟨x0, x1, x2, x3, x4, x5, x6, x7, x8⟩ := zC9 hX3
 skip
 obtain ⟨i0, hi, hz0, hz1, hzb⟩ := info_parts info_G64
 have HX3 := Lib.hid hX3
 have HW3 := Lib.hid hw3
 clear hX3 hw3
 go_upto_region 13 with (fail)
 rw [HW3.out]
 have hX3a := HX3.out.alloc (.cells #[.int .i64 unit] 2)
 have HB3a := Lib.hid (HB3.out.alloc lt3 (.cells #[.int .i64 unit] 2))
 have o3a := o3.alloc (.cells #[.int .i64 unit] 2)
 have HX3a := Lib.hid hX3a
 clear hX3a
 go_upto_region 14 with ((with_reducible refine at_append ?_); refine wpList_append_own _ rfl _ _ 81 rfl (w.heap.size + 1) 2 i0 (.int .i64 0) 1 8 Tryd.underlying81 hi hz0 hz1 hzb rfl (by decide) _ _ _ rfl (o3.alloc _) ⟨w3.heap.size, 0, none⟩ 1 1 [.int .i64 unit] rfl rfl (World.news_of_block (cs := #[.int .i64 unit]) (t := 2) (fr := (0, 0)) (heap_alloc_new w3 _)) (by simp [Value.oneCell']) (by unfold maxLen; omega) (by omega) (by simp; omega) ?_; intro v4 w4 o4 g4 _)
 have b4 : Below (w.heap.size + 1) (w3.alloc (.cells #[.int .i64 unit] 2)) w4 := (Below.refl _ _).grown g4 (by simp; omega) (fun j hj => (o3a.lt j hj).1)
 have hX4 := HX3a.out.below b4 (by omega)
 have HB4 := Lib.hid (HB3a.out.trans (b4.mono (by omega)))
 have lt4 := HB4.out.size
 have o4 : w4.ownsRow (w.heap.size + 1) 2 1 v4 3 ([wait, gap, unit].map (Value.int .i64)) := o4
 have hw14 : w.heap.size + 1 ≤ w4.heap.size := hX4.lt
 obtain ⟨x0, -, -, x3, -, -, -, -, x8⟩ := zC9 hX4
 have HX4 := Lib.hid hX4
 clear g4 b4 hX4 o3 o3a
 have HNA : Hid (numsA ⟨6, wait, gap, regs, code, na, unit, wth, data⟩ = [wait, gap, unit] ++ regs) := Lib.hid rfl
 have HIN : Hid (∀ x ∈ [wait, gap, unit], 0 ≤ x ∧ x ≤ 1073741824) := Lib.hid (by
  have q := HQ.out
  intro x hx
  simp at hx
  rcases hx with rfl | rfl | rfl <;> omega)
 have HO := Lib.hid o4
 clear o4
 go_wp2_with fail
 go_loopw [5, 59] (fun u5 u59 wr => ∃ k : Nat, k ≤ nr ∧ u59 = .int .i64 k ∧ wr.ownsRow (w.heap.size + 1) 2 1 u5 (3 + k) (([wait, gap, unit] ++ regs.take k).map (Value.int .i64)) ∧ Below (w.heap.size + 1) w4 wr) (fun _ u59 _ => nr - (intOf u59).toNat)
 case atStart => exact ⟨0, by omega, rfl, by simpa using HO.out, Below.refl _ _⟩
 case round =>
  rename_i wr _
  obtain ⟨k, hk1, rfl, hown, hb⟩ := hrel
  have hX := HX4.out.below hb (by omega)
  have hbw := HB4.out.trans (hb.mono (by omega))
  have hsz := hb.size
  obtain ⟨x0, -, -, -, -, -, -, -, x8⟩ := zC9 hX
  by_cases hlt : k < nr
  ·obtain ⟨g, off, x, rfl, hg, hx, hcx⟩ := (HG.out wr hbw).2.2.2.2.at_ (i := k) (by omega)
   have HT := Lib.hid (show regs.take (k + 1) = regs.take k ++ [x] by rw [List.take_add_one, hx, Option.toList_some])
   have hw64 : wrap64 x = x := w64_in x (by have := HR.out x (List.mem_of_getElem? hx); omega) (by have := HR.out x (List.mem_of_getElem? hx); omega)
   have hkI : (k : Int) < (nr : Int) := by omega
   have h125 : nr ≤ 125 := by have := HQ.out.2.2.2.2.2.2.1; omega
   have hba := hb.alloc (by omega) (.cells #[.int .i64 x] 2)
   have hz := HB1.out.size
   have ha := hown.alloc (.cells #[.int .i64 x] 2)
   clear hX hx hown
   go_wp2_with ((with_reducible refine at_append ?_); refine wpList_append_own _ rfl _ _ 81 rfl (w.heap.size + 1) 2 i0 (.int .i64 0) 1 8 Tryd.underlying81 hi hz0 hz1 hzb rfl (by decide) _ _ _ rfl ha ⟨wr.heap.size, 0, none⟩ 1 1 [.int .i64 x] rfl rfl (World.news_of_block (cs := #[.int .i64 x]) (t := 2) (fr := (0, 0)) (heap_alloc_new wr _)) (by simp [Value.oneCell']) (by unfold maxLen; omega) (by omega) (by simp; omega) ?_; intro v6 w6 o6 g6 _)
   go_roundw
   case rel =>
    refine ⟨k + 1, by omega, by go_num, ?_, hba.grown g6 (by simp; omega) (fun j hj => (ha.lt j hj).1)⟩
    rw [HT.out]
    have e : ([wait, gap, unit] ++ (regs.take k ++ [x])).map (Value.int .i64) = ([wait, gap, unit] ++ regs.take k).map (Value.int .i64) ++ [.int .i64 x] := by simp
    rw [e]
    exact o6
   case measure => simp [intOf]; omega
  ·obtain rfl : k = nr := by omega
   have hkI : ¬ ((k : Int) < (k : Int)) := by omega
   have hT : regs.take k = regs := List.take_of_length_le (by omega)
   have h125 : k ≤ 125 := by have := HQ.out.2.2.2.2.2.2.1; omega
   rw [hT] at hown
   obtain ⟨N, hNe⟩ : ∃ N, [wait, gap, unit] ++ regs = N := ⟨_, rfl⟩
   obtain ⟨M, hM⟩ : ∃ M : Nat, 3 + k = M := ⟨_, rfl⟩
   have hMl : M ≤ 130 := by omega
   have HI2 : Hid (∀ x ∈ N, 0 ≤ x ∧ x ≤ 1073741824) := Lib.hid (by
    intro x hx
    rw [← hNe] at hx
    rcases List.mem_append.1 hx with h | h
    ·exact HIN.out x h
    ·have := HR.out x h; omega)
   have HLN : Hid (lineL ⟨6, wait, gap, regs, code, na, unit, wth, data⟩ = nmB 6 ++ flatN N ++ [] ++ flatH data) := Lib.hid (by unfold lineL; rw [HNA.out, hNe]; rfl)
   rw [hNe, hM] at hown
   obtain ⟨A5, c5, rfl, s5⟩ := SlI.of_own hown
   have hNl := s5.1
   have HS5 := Lib.hid (fun (V : World) (h : Below wr.heap.size wr V) => s5.up h)
   have HNM := Lib.hid (bname_any 6 wr (HN.out.up hbw))
   have HBW := Lib.hid hbw
   have HXW := Lib.hid hX
   clear hown s5 hX hbw hT hM hNe hb HO
   go_wp2_with fail
   refine HNM.out.mono ?_
   rintro e w7 ⟨rfl, rfl⟩
   rw [nmB_eq]
   go_wp2_with fail
   go_loopw [8, 74] (fun u8 u74 V => ∃ (V0 : World) (j : Nat), V0 = V ∧ j ≤ M ∧ u74 = .int .i64 j ∧ u8 = .string (strB (nmB 6 ++ flatN (N.take j))) ∧ Below wr.heap.size wr V0) (fun _ u74 _ => M - (intOf u74).toNat)
   case atStart => exact ⟨_, 0, rfl, by omega, rfl, by simp [flatN], Below.refl _ _⟩
   case round =>
    obtain ⟨V, j, hVe, hj1, rfl, rfl, hv⟩ := hrel
    subst hVe
    have hvz := hv.size
    have hX := HXW.out.below hv HXW.out.lt
    obtain ⟨x0, -, -, -, -, -, -, -, x8⟩ := zC9 hX
    have HBV := Lib.hid (HBW.out.trans (hv.mono HBW.out.size))
    by_cases hlt : j < M
    ·obtain ⟨g, off, x, rfl, hg, hx, hcx⟩ := (HS5.out V hv).2.2.2.2.at_ (i := j) (by omega)
     have hxb := HI2.out x (List.mem_of_getElem? hx)
     have HFS := Lib.hid (flatN_succ N j x hx)
     have HF := Lib.hid (fmt_any x ⟨hxb.1, by omega⟩ V (tabIs_up HP.out HBV.out))
     have hil := Lib.itoa_length_le x (by omega) (by omega)
     have hfl := flatN_len (N.take j) (fun y hy => by have := HI2.out y (List.mem_of_mem_take hy); omega)
     have hnm6 := nmB_len 6
     have hjl : (N.take j).length ≤ 130 := by rw [List.length_take]; omega
     generalize flatN (N.take j) = S at *
     have hA1 : Hid (∀ v, (binOp .add 9 (.string (strB [32])) (.string (strB (Lib.itoa x)))).run Tryd.prog v = .ok (.string (strB ([32] ++ Lib.itoa x))) v) := Lib.hid (fun v => add_str _ _ (by simp; omega) v)
     have hA2 : Hid (∀ v, (binOp .add 9 (.string (strB (nmB 6 ++ S))) (.string (strB ([32] ++ Lib.itoa x)))).run Tryd.prog v = .ok (.string (strB ((nmB 6 ++ S) ++ ([32] ++ Lib.itoa x)))) v) := Lib.hid (fun v => add_str _ _ (by simp; omega) v)
     generalize Lib.itoa x = I at *
     clear hx hX hil hfl hnm6 hjl
     have hjI : (j : Int) < (M : Int) := by omega
     go_wp2_with fail
     refine HF.out.mono ?_
     rintro e V2 ⟨rfl, bv2⟩
     have hv2 := hv.trans (bv2.mono hvz)
     go_wp2_with (first
      | ((with_reducible refine wpList_bin_at (dst := some 81) .add 9 9 _ (.tmp 80) (.string (strB [32])) (.string (strB I)) _ (by kernel_rfl) (by kernel_rfl) (by kernel_rfl) (add_guard _ _ _ _ _) (hA1.out _) ?_); simp only [Act.put, zC, zD, zE])
      | ((with_reducible refine wpList_bin_at (dst := some 82) .add 9 9 (.tmp 78) (.tmp 81) (.string (strB (nmB 6 ++ S))) (.string (strB ([32] ++ I))) _ (by kernel_rfl) (by kernel_rfl) (by kernel_rfl) (add_guard _ _ _ _ _) (hA2.out _) ?_); simp only [Act.put, zC, zD, zE]))
     go_roundw
     case rel => exact ⟨_, j + 1, rfl, by omega, by go_num, by rw [HFS.out, List.append_assoc]; rfl, hv2⟩
     case measure => simp [intOf]; omega
    ·obtain rfl : j = M := by omega
     have hjI : ¬ ((j : Int) < (j : Int)) := by omega
     rw [show N.take j = N from List.take_of_length_le (by omega)]
     go_wp2_with fail
     go_ret2
     refine ⟨?_, HBV.out⟩
     have hd0 := HQ.out.2.2.2.2.2.2.2.2
     rw [HLN.out, hd0]
     simp [flatH]
set_option maxHeartbeats 4000000 in
theorem ol_7 (w : World) (hN : NamesT w) (hP : P10 w) (Ar : Option Addr) (nr cr : Nat) (D : Option Addr) (nd cd : Nat) (wait gap : Int) (regs : List Int) (code na unit wth : Int) (data : List Int) (h1 : SlI w w.heap.size .u16 Ar nr cr regs) (h2 : SlI w w.heap.size .u8 D nd cd data) (hok : ActP.ok ⟨7, wait, gap, regs, code, na, unit, wth, data⟩) (hm : mayA ⟨7, wait, gap, regs, code, na, unit, wth, data⟩ = true) :
  Calls Tryd.prog 20 #[.agg #[.int .i64 7, .int .i64 wait, .int .i64 gap, .slice Ar nr cr, .int .i64 code, .int .i64 na, .int .i64 unit, .int .u8 wth, .slice D nd cd]] w (LnPost w (lineL ⟨7, wait, gap, regs, code, na, unit, wth, data⟩)) := by
 obtain ⟨w1, hw1⟩ : ∃ W, w.alloc (.cells #[.int .i64 7, .int .i64 wait, .int .i64 gap, .slice Ar nr cr, .int .i64 code, .int .i64 na, .int .i64 unit, .int .u8 wth, .slice D nd cd] 29) = W := ⟨_, rfl⟩
 have b1 : Below w.heap.size w w1 := by rw [← hw1]; exact (Below.refl _ w).alloc (Nat.le_refl _) _
 have hX1 : Held w1 w.heap.size 29 #[.int .i64 7, .int .i64 wait, .int .i64 gap, .slice Ar nr cr, .int .i64 code, .int .i64 na, .int .i64 unit, .int .u8 wth, .slice D nd cd] := by rw [← hw1]; exact Held.new w _ _
 have hc := (bcheck_any (.agg #[.int .i64 7, .int .i64 wait, .int .i64 gap, .slice Ar nr cr, .int .i64 code, .int .i64 na, .int .i64 unit, .int .u8 wth, .slice D nd cd]) ⟨7, wait, gap, regs, code, na, unit, wth, data⟩ w1 (hN.up b1) ⟨Ar, nr, cr, D, nd, cd, rfl, h1.up b1, h2.up b1⟩ hok)
 rw [hm, if_pos rfl] at hc
 have HC := Lib.hid hc
 have hq := may_l hm
 unfold mayQ at hq
 dsimp only at hq
 have HQ : Hid ((0 ≤ wait ∧ wait ≤ 1073741824) ∧ (0 ≤ gap ∧ gap ≤ 1073741824) ∧ (0 ≤ na ∧ na ≤ 1000) ∧ (0 ≤ unit ∧ unit ≤ 247) ∧ (0 ≤ code ∧ code ≤ 11) ∧ (0 ≤ wth ∧ wth < 256) ∧ regs.length ≤ 125 ∧ data.length ≤ 300) := Lib.hid (by
  have hw := hok.2.2.1
  dsimp only at hw
  skip
  refine ⟨by omega, by omega, by omega, by omega, by omega, hw, by omega, by omega⟩)
 have HR := Lib.hid (show ∀ x ∈ regs, 0 ≤ x ∧ x < 65536 from hok.2.2.2.1)
 have HR8 := Lib.hid (show ∀ x ∈ data, 0 ≤ x ∧ x < 256 from hok.2.2.2.2.1)
 have HX1 := Lib.hid hX1
 have HB1 := Lib.hid b1
 have HN := Lib.hid hN
 have HP := Lib.hid hP
 have HG := Lib.hid (fun (V : World) (h : Below w.heap.size w V) => h1.up h)
 have HS := Lib.hid (fun (V : World) (h : Below w.heap.size w V) => h2.up h)
 have hrl := h1.1
 have hdl := h2.1
 obtain ⟨x0, x1, x2, x3, x4, x5, x6, x7, x8⟩ := zC9 hX1
 clear hX1 b1 hN hP h1 h2 hc hq hok hm
 go_in
 go_wp2_with fail
 refine HC.out.mono ?_
 rintro e w2 ⟨rfl, b2⟩
 have hX2 := HX1.out.below b2 HX1.out.lt
 have HB2 := Lib.hid (HB1.out.trans (b2.mono HB1.out.size))
 have hz2 := (HB1.out.trans (b2.mono HB1.out.size)).size
 have lt2 := hX2.lt
 obtain ⟨x0, x1, x2, x3, x4, x5, x6, x7, x8⟩ := zC9 hX2
 have HX2 := Lib.hid hX2
 clear b2 hX2
 obtain ⟨w3, hw3⟩ : ∃ W, w2.alloc (.cells #[.int .i64 wait, .int .i64 gap] 2) = W := ⟨_, rfl⟩
 have o3 : w3.ownsRow (w.heap.size + 1) 2 1 (.slice (some ⟨w2.heap.size, 0, none⟩) 2 2) 2 ([wait, gap].map (Value.int .i64)) := by
  rw [← hw3]; exact World.ownsRow_lit w2 #[.int .i64 wait, .int .i64 gap] 2 (by omega) (by unfold maxLen; omega) (by simp)
 have hX3 : Held w3 w.heap.size 29 #[.int .i64 7, .int .i64 wait, .int .i64 gap, .slice Ar nr cr, .int .i64 code, .int .i64 na, .int .i64 unit, .int .u8 wth, .slice D nd cd] := by rw [← hw3]; exact HX2.out.alloc _
 have HB3 : Hid (Below w.heap.size w w3) := Lib.hid (by rw [← hw3]; exact HB2.out.alloc (by omega) _)
 have lt3 := HB3.out.size
 have hw13 : w.heap.size + 1 ≤ w3.heap.size := hX3.lt
 obtain ⟨x0, x1, x2, x3, x4, x5, x6, x7, x8⟩ := zC9 hX3
 skip
 obtain ⟨i0, hi, hz0, hz1, hzb⟩ := info_parts info_G64
 have HX3 := Lib.hid hX3
 have HW3 := Lib.hid hw3
 clear hX3 hw3
 go_upto_region 14 with (fail)
 rw [HW3.out]
 have HNA : Hid (numsA ⟨7, wait, gap, regs, code, na, unit, wth, data⟩ = [wait, gap] ++ regs) := Lib.hid rfl
 have HIN : Hid (∀ x ∈ [wait, gap], 0 ≤ x ∧ x ≤ 1073741824) := Lib.hid (by
  have q := HQ.out
  intro x hx
  simp at hx
  rcases hx with rfl | rfl <;> omega)
 have HO := Lib.hid o3
 clear o3
 go_wp2_with fail
 go_loopw [5, 59] (fun u5 u59 wr => ∃ k : Nat, k ≤ nr ∧ u59 = .int .i64 k ∧ wr.ownsRow (w.heap.size + 1) 2 1 u5 (2 + k) (([wait, gap] ++ regs.take k).map (Value.int .i64)) ∧ Below (w.heap.size + 1) w3 wr) (fun _ u59 _ => nr - (intOf u59).toNat)
 case atStart => exact ⟨0, by omega, rfl, by simpa using HO.out, Below.refl _ _⟩
 case round =>
  rename_i wr _
  obtain ⟨k, hk1, rfl, hown, hb⟩ := hrel
  have hX := HX3.out.below hb (by omega)
  have hbw := HB3.out.trans (hb.mono (by omega))
  have hsz := hb.size
  obtain ⟨x0, -, -, -, -, -, -, -, x8⟩ := zC9 hX
  by_cases hlt : k < nr
  ·obtain ⟨g, off, x, rfl, hg, hx, hcx⟩ := (HG.out wr hbw).2.2.2.2.at_ (i := k) (by omega)
   have HT := Lib.hid (show regs.take (k + 1) = regs.take k ++ [x] by rw [List.take_add_one, hx, Option.toList_some])
   have hw64 : wrap64 x = x := w64_in x (by have := HR.out x (List.mem_of_getElem? hx); omega) (by have := HR.out x (List.mem_of_getElem? hx); omega)
   have hkI : (k : Int) < (nr : Int) := by omega
   have h125 : nr ≤ 125 := by have := HQ.out.2.2.2.2.2.2.1; omega
   have hba := hb.alloc (by omega) (.cells #[.int .i64 x] 2)
   have hz := HB1.out.size
   have ha := hown.alloc (.cells #[.int .i64 x] 2)
   clear hX hx hown
   go_wp2_with ((with_reducible refine at_append ?_); refine wpList_append_own _ rfl _ _ 81 rfl (w.heap.size + 1) 2 i0 (.int .i64 0) 1 8 Tryd.underlying81 hi hz0 hz1 hzb rfl (by decide) _ _ _ rfl ha ⟨wr.heap.size, 0, none⟩ 1 1 [.int .i64 x] rfl rfl (World.news_of_block (cs := #[.int .i64 x]) (t := 2) (fr := (0, 0)) (heap_alloc_new wr _)) (by simp [Value.oneCell']) (by unfold maxLen; omega) (by omega) (by simp; omega) ?_; intro v6 w6 o6 g6 _)
   go_roundw
   case rel =>
    refine ⟨k + 1, by omega, by go_num, ?_, hba.grown g6 (by simp; omega) (fun j hj => (ha.lt j hj).1)⟩
    rw [HT.out]
    have e : ([wait, gap] ++ (regs.take k ++ [x])).map (Value.int .i64) = ([wait, gap] ++ regs.take k).map (Value.int .i64) ++ [.int .i64 x] := by simp
    rw [e]
    exact o6
   case measure => simp [intOf]; omega
  ·obtain rfl : k = nr := by omega
   have hkI : ¬ ((k : Int) < (k : Int)) := by omega
   have hT : regs.take k = regs := List.take_of_length_le (by omega)
   have h125 : k ≤ 125 := by have := HQ.out.2.2.2.2.2.2.1; omega
   rw [hT] at hown
   obtain ⟨N, hNe⟩ : ∃ N, [wait, gap] ++ regs = N := ⟨_, rfl⟩
   obtain ⟨M, hM⟩ : ∃ M : Nat, 2 + k = M := ⟨_, rfl⟩
   have hMl : M ≤ 130 := by omega
   have HI2 : Hid (∀ x ∈ N, 0 ≤ x ∧ x ≤ 1073741824) := Lib.hid (by
    intro x hx
    rw [← hNe] at hx
    rcases List.mem_append.1 hx with h | h
    ·exact HIN.out x h
    ·have := HR.out x h; omega)
   have HLN : Hid (lineL ⟨7, wait, gap, regs, code, na, unit, wth, data⟩ = nmB 7 ++ flatN N ++ [32, 120] ++ flatH data) := Lib.hid (by unfold lineL; rw [HNA.out, hNe]; rfl)
   rw [hNe, hM] at hown
   obtain ⟨A5, c5, rfl, s5⟩ := SlI.of_own hown
   have hNl := s5.1
   have HS5 := Lib.hid (fun (V : World) (h : Below wr.heap.size wr V) => s5.up h)
   have HNM := Lib.hid (bname_any 7 wr (HN.out.up hbw))
   have HBW := Lib.hid hbw
   have HXW := Lib.hid hX
   clear hown s5 hX hbw hT hM hNe hb HO
   go_wp2_with fail
   refine HNM.out.mono ?_
   rintro e w7 ⟨rfl, rfl⟩
   rw [nmB_eq]
   go_wp2_with fail
   go_loopw [8, 74] (fun u8 u74 V => ∃ (V0 : World) (j : Nat), V0 = V ∧ j ≤ M ∧ u74 = .int .i64 j ∧ u8 = .string (strB (nmB 7 ++ flatN (N.take j))) ∧ Below wr.heap.size wr V0) (fun _ u74 _ => M - (intOf u74).toNat)
   case atStart => exact ⟨_, 0, rfl, by omega, rfl, by simp [flatN], Below.refl _ _⟩
   case round =>
    obtain ⟨V, j, hVe, hj1, rfl, rfl, hv⟩ := hrel
    subst hVe
    have hvz := hv.size
    have hX := HXW.out.below hv HXW.out.lt
    obtain ⟨x0, -, -, -, -, -, -, -, x8⟩ := zC9 hX
    have HBV := Lib.hid (HBW.out.trans (hv.mono HBW.out.size))
    by_cases hlt : j < M
    ·obtain ⟨g, off, x, rfl, hg, hx, hcx⟩ := (HS5.out V hv).2.2.2.2.at_ (i := j) (by omega)
     have hxb := HI2.out x (List.mem_of_getElem? hx)
     have HFS := Lib.hid (flatN_succ N j x hx)
     have HF := Lib.hid (fmt_any x ⟨hxb.1, by omega⟩ V (tabIs_up HP.out HBV.out))
     have hil := Lib.itoa_length_le x (by omega) (by omega)
     have hfl := flatN_len (N.take j) (fun y hy => by have := HI2.out y (List.mem_of_mem_take hy); omega)
     have hnm6 := nmB_len 7
     have hjl : (N.take j).length ≤ 130 := by rw [List.length_take]; omega
     generalize flatN (N.take j) = S at *
     have hA1 : Hid (∀ v, (binOp .add 9 (.string (strB [32])) (.string (strB (Lib.itoa x)))).run Tryd.prog v = .ok (.string (strB ([32] ++ Lib.itoa x))) v) := Lib.hid (fun v => add_str _ _ (by simp; omega) v)
     have hA2 : Hid (∀ v, (binOp .add 9 (.string (strB (nmB 7 ++ S))) (.string (strB ([32] ++ Lib.itoa x)))).run Tryd.prog v = .ok (.string (strB ((nmB 7 ++ S) ++ ([32] ++ Lib.itoa x)))) v) := Lib.hid (fun v => add_str _ _ (by simp; omega) v)
     generalize Lib.itoa x = I at *
     clear hx hX hil hfl hnm6 hjl
     have hjI : (j : Int) < (M : Int) := by omega
     go_wp2_with fail
     refine HF.out.mono ?_
     rintro e V2 ⟨rfl, bv2⟩
     have hv2 := hv.trans (bv2.mono hvz)
     go_wp2_with (first
      | ((with_reducible refine wpList_bin_at (dst := some 81) .add 9 9 _ (.tmp 80) (.string (strB [32])) (.string (strB I)) _ (by kernel_rfl) (by kernel_rfl) (by kernel_rfl) (add_guard _ _ _ _ _) (hA1.out _) ?_); simp only [Act.put, zC, zD, zE])
      | ((with_reducible refine wpList_bin_at (dst := some 82) .add 9 9 (.tmp 78) (.tmp 81) (.string (strB (nmB 7 ++ S))) (.string (strB ([32] ++ I))) _ (by kernel_rfl) (by kernel_rfl) (by kernel_rfl) (add_guard _ _ _ _ _) (hA2.out _) ?_); simp only [Act.put, zC, zD, zE]))
     go_roundw
     case rel => exact ⟨_, j + 1, rfl, by omega, by go_num, by rw [HFS.out, List.append_assoc]; rfl, hv2⟩
     case measure => simp [intOf]; omega
    ·obtain rfl : j = M := by omega
     have hjI : ¬ ((j : Int) < (j : Int)) := by omega
     rw [show N.take j = N from List.take_of_length_le (by omega)]
     have hA3 : Hid (∀ v, (binOp .add 9 (.string (strB (nmB 7 ++ flatN N))) (.string (strB [32, 120]))).run Tryd.prog v = .ok (.string (strB (nmB 7 ++ flatN N ++ [32, 120]))) v) := Lib.hid (fun v => add_str _ _ (by
      have hfl := flatN_len N (fun y hy => by have := HI2.out y hy; omega)
      have hnm6 := nmB_len 7
      simp; omega) v)
     have HPL : Hid ((nmB 7 ++ flatN N ++ [32, 120]).length ≤ 100000) := Lib.hid (by
      have hfl := flatN_len N (fun y hy => by have := HI2.out y hy; omega)
      have hnm6 := nmB_len 7
      simp; omega)
     obtain ⟨PR, hPR⟩ : ∃ l, nmB 7 ++ flatN N ++ [32, 120] = l := ⟨_, rfl⟩
     rw [hPR] at HPL hA3 HLN
     have HDV := Lib.hid (fun (X : World) (h : Below V.heap.size V X) => HS.out X (HBV.out.trans (h.mono HBV.out.size)))
     have HR8 := HR8
     have h300 : nd ≤ 300 := by have := HQ.out.2.2.2.2.2.2.2; omega
     have HXV := Lib.hid hX
     clear hPR hX
     go_wp2_with ((with_reducible refine wpList_bin_at (dst := some 88) .add 9 9 (.tmp 87) _ (.string (strB (nmB 7 ++ flatN N))) (.string (strB [32, 120])) _ (by kernel_rfl) (by kernel_rfl) (by kernel_rfl) (add_guard _ _ _ _ _) (hA3.out _) ?_); simp only [Act.put, zC, zD, zE])
     go_loopw [8, 92] (fun u8 u92 X => ∃ (X0 : World) (i : Nat), X0 = X ∧ i ≤ nd ∧ u92 = .int .i64 i ∧ u8 = .string (strB (PR ++ flatH (data.take i))) ∧ Below V.heap.size V X0) (fun _ u92 _ => nd - (intOf u92).toNat)
     case atStart => exact ⟨_, 0, rfl, by omega, rfl, by simp [flatH], Below.refl _ _⟩
     case round =>
      obtain ⟨X, i, hXe, hi1, rfl, rfl, hxb⟩ := hrel
      subst hXe
      have hxz := hxb.size
      by_cases hlt2 : i < nd
      ·obtain ⟨g, off, x, rfl, hg, hx, hcx⟩ := (HDV.out X hxb).2.2.2.2.at_ (i := i) (by omega)
       have HFS := Lib.hid (flatH_succ data i x hx)
       have hiI : (i : Int) < (nd : Int) := by omega
       have hx8 := HR8.out x (List.mem_of_getElem? hx)
       obtain ⟨p, hp⟩ : ∃ p : Nat, x / 16 = (p : Int) := ⟨(x / 16).toNat, by omega⟩
       obtain ⟨q, hq⟩ : ∃ q : Nat, x % 16 = (q : Int) := ⟨(x % 16).toNat, by omega⟩
       have hp16 : p < 16 := by omega
       have hq16 : q < 16 := by omega
       have hpI : (p : Int) < 16 := by omega
       have hqI : (q : Int) < 16 := by omega
       have hand : Go.bits BinOp.and IntKind.u8 x 15 = (q : Int) := by rw [and_low x hx8, hq]
       have hup := hexV p hp16
       have huq := hexV q hq16
       rw [hp, hq] at HFS
       obtain ⟨SB, hSB⟩ : ∃ b, strB (PR ++ flatH (data.take i)) = b := ⟨_, rfl⟩
       have hbz : SB.size ≤ 200000 := by
        rw [← hSB, strB_size, List.length_append, flatH_len, List.length_take]
        have := HPL.out
        omega
       have hg1 : ¬ 9223372036854775807 < SB.size + 2 := by omega
       have hg2 : ¬ 9223372036854775807 < SB.size + (1 + 1) := by omega
       have HCAT : Hid (strB (PR ++ flatH (data.take (i + 1))) = SB ++ (⟨#[hexB (p : Int)]⟩ ++ ⟨#[hexB (q : Int)]⟩)) := Lib.hid (by
        rw [HFS.out, ← hSB, ← List.append_assoc, ← strB_append]; rfl)
       rw [hSB]
       have hxr : Below V.heap.size V X.drew := hxb.drew
       have hi300 : i < 300 := by omega
       clear hx hSB hbz
       go_upto_region 30 with (fail)
       go_region
       go_wp2_with fail
       go_roundw
       case rel => exact ⟨_, i + 1, rfl, by omega, by go_num, by rw [HCAT.out], hxr⟩
       case measure => simp [intOf]; omega
      ·obtain rfl : i = nd := by omega
       have hiI : ¬ ((i : Int) < (i : Int)) := by omega
       rw [show data.take i = data from List.take_of_length_le (by omega)]
       have HO7 := Lib.hid (HBV.out.trans (hxb.mono HBV.out.size))
       go_wp2_with fail
       go_ret2
       refine ⟨?_, HO7.out⟩
       rw [HLN.out]
       rfl
set_option maxHeartbeats 4000000 in
theorem ol_0 (w : World) (hN : NamesT w) (Ar : Option Addr) (nr cr : Nat) (D : Option Addr) (nd cd : Nat) (kind wait gap : Int) (regs : List Int) (code na unit wth : Int) (data : List Int) (h1 : SlI w w.heap.size .u16 Ar nr cr regs) (h2 : SlI w w.heap.size .u8 D nd cd data) (hok : ActP.ok ⟨kind, wait, gap, regs, code, na, unit, wth, data⟩) (hm : mayA ⟨kind, wait, gap, regs, code, na, unit, wth, data⟩ = false) :
  Calls Tryd.prog 20 #[.agg #[.int .i64 kind, .int .i64 wait, .int .i64 gap, .slice Ar nr cr, .int .i64 code, .int .i64 na, .int .i64 unit, .int .u8 wth, .slice D nd cd]] w fun e w' => e = .returned (.tuple #[.string (strB []), .int .i64 220]) ∧ Below w.heap.size w w' := by
 obtain ⟨w1, hw1⟩ : ∃ W, w.alloc (.cells #[.int .i64 kind, .int .i64 wait, .int .i64 gap, .slice Ar nr cr, .int .i64 code, .int .i64 na, .int .i64 unit, .int .u8 wth, .slice D nd cd] 29) = W := ⟨_, rfl⟩
 have b1 : Below w.heap.size w w1 := by rw [← hw1]; exact (Below.refl _ w).alloc (Nat.le_refl _) _
 have hX1 : Held w1 w.heap.size 29 #[.int .i64 kind, .int .i64 wait, .int .i64 gap, .slice Ar nr cr, .int .i64 code, .int .i64 na, .int .i64 unit, .int .u8 wth, .slice D nd cd] := by rw [← hw1]; exact Held.new w _ _
 have hc := (bcheck_any (.agg #[.int .i64 kind, .int .i64 wait, .int .i64 gap, .slice Ar nr cr, .int .i64 code, .int .i64 na, .int .i64 unit, .int .u8 wth, .slice D nd cd]) ⟨kind, wait, gap, regs, code, na, unit, wth, data⟩ w1 (hN.up b1) ⟨Ar, nr, cr, D, nd, cd, rfl, h1.up b1, h2.up b1⟩ hok)
 rw [hm, if_neg (by simp)] at hc
 have HC := Lib.hid hc
 have HB1 := Lib.hid b1
 obtain ⟨x0, x1, x2, x3, x4, x5, x6, x7, x8⟩ := zC9 hX1
 clear hX1 b1 hN h1 h2 hc hok hm
 go_in
 go_wp2_with fail
 refine HC.out.mono ?_
 rintro e w2 ⟨rfl, b2⟩
 have HB2 := Lib.hid (HB1.out.trans (b2.mono HB1.out.size))
 clear b2
 go_wp2_with fail
 go_ret2
 exact ⟨rfl, HB2.out⟩
theorem line_any (v : Value) (a : ActP) (w : World) (hN : NamesT w) (hP : P10 w) (hA : ActAt w v a) (hok : a.ok) :
  Calls Tryd.prog 20 #[v] w fun e w' => e = .returned (.tuple #[.string (strB (if mayA a then lineL a else [])), .int .i64 (if mayA a then 0 else 220)]) ∧ Below w.heap.size w w' := by
 obtain ⟨Ar, nr, cr, D, nd, cd, rfl, h1, h2⟩ := hA
 obtain ⟨kind, wait, gap, regs, code, na, unit, wth, data⟩ := a
 cases hm : mayA ⟨kind, wait, gap, regs, code, na, unit, wth, data⟩ with
 | false => exact ol_0 w hN Ar nr cr D nd cd kind wait gap regs code na unit wth data h1 h2 hok hm
 | true =>
  have hk := (may_l hm).1
  dsimp only at hk
  rcases (show kind = 1 ∨ kind = 2 ∨ kind = 3 ∨ kind = 4 ∨ kind = 5 ∨ kind = 6 ∨ kind = 7 by omega) with rfl | rfl | rfl | rfl | rfl | rfl | rfl
  ·exact ol_1 w hN hP Ar nr cr D nd cd wait gap regs code na unit wth data h1 h2 hok hm
  ·exact ol_2 w hN hP Ar nr cr D nd cd wait gap regs code na unit wth data h1 h2 hok hm
  ·exact ol_3 w hN hP Ar nr cr D nd cd wait gap regs code na unit wth data h1 h2 hok hm
  ·exact ol_4 w hN hP Ar nr cr D nd cd wait gap regs code na unit wth data h1 h2 hok hm
  ·exact ol_5 w hN hP Ar nr cr D nd cd wait gap regs code na unit wth data h1 h2 hok hm
  ·exact ol_6 w hN hP Ar nr cr D nd cd wait gap regs code na unit wth data h1 h2 hok hm
  ·exact ol_7 w hN hP Ar nr cr D nd cd wait gap regs code na unit wth data h1 h2 hok hm
end Go.Proofs.YtcipleanckeoaaaDoor
