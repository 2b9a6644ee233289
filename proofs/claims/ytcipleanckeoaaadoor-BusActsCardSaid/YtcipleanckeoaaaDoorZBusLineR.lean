/- The document's Line: under way. -/
import Derived.Test.YtcipleanckeoaaaDoorZTk
import Derived.Test.YtcipleanckeoaaaDoorZBusLineG
import Derived.Test.YtcipleanckeoaaaDoorZBusMayR
import Derived.Deep.RegionWith
import Derived.Deep.Cut
import Derived.Deep.CutBlock
open List renaming getElem_toArray → zA, getElem_cons_zero → zB, setIfInBounds_toArray → zC, set_cons_succ → zD, set_cons_zero → zE, getElem_cons_succ → zF
namespace Go.Proofs.YtcipleanckeoaaaDoor
open Go.RowKit Go.Shelf Go.Sort
attribute [local go_sem] Oper.semAt_some
set_option linter.unusedVariables false
set_option linter.unusedSimpArgs false
set_option maxRecDepth 100000
set_option maxHeartbeats 2000000 in
theorem rname_any (k : Int) (w : World) : Calls Tryd.prog 26 #[.int .i64 k] w fun e w' => e = .returned (.string (nameB k)) ∧ w = w' := by
 by_cases h : 1 ≤ k ∧ k ≤ 7
 ·rcases (show k = 1 ∨ k = 2 ∨ k = 3 ∨ k = 4 ∨ k = 5 ∨ k = 6 ∨ k = 7 by omega) with rfl | rfl | rfl | rfl | rfl | rfl | rfl <;> (go_in; go_wp2_with fail; go_ret; exact ⟨rfl, rfl⟩)
 ·have e : nameB k = ⟨#[]⟩ := by unfold nameB; rw [if_neg h]
  rw [e]
  have h1 : (k == 1) = false := by simp; omega
  have h2 : (k == 2) = false := by simp; omega
  have h3 : (k == 3) = false := by simp; omega
  have h4 : (k == 4) = false := by simp; omega
  have h5 : (k == 5) = false := by simp; omega
  have h6 : (k == 6) = false := by simp; omega
  have h7 : (k == 7) = false := by simp; omega
  clear h e
  go_in
  go_wp2_with fail
  go_ret
  exact ⟨rfl, rfl⟩
def appK (k code na unit wth : Int) : List Int := if k = 2 then [code] else if k = 4 then [na] else if k = 5 then [na, wth] else if k = 6 then [unit] else []
set_option maxHeartbeats 40000000 in
theorem rl_1 (w : World) (Ar : Option Addr) (nr cr : Nat) (D : Option Addr) (nd cd : Nat) (k wait gap : Int) (regs : List Int) (code na unit wth : Int) (data : List Int) (h1 : SlI w w.heap.size .u16 Ar nr cr regs) (h2 : SlI w w.heap.size .u8 D nd cd data) (hok : ActP.ok ⟨k, wait, gap, regs, code, na, unit, wth, data⟩) (hm : mayA ⟨k, wait, gap, regs, code, na, unit, wth, data⟩ = true) :
  Calls Tryd.prog 23 #[.agg #[.int .i64 k, .int .i64 wait, .int .i64 gap, .slice Ar nr cr, .int .i64 code, .int .i64 na, .int .i64 unit, .int .u8 wth, .slice D nd cd]] w (LnPost w (lineL ⟨k, wait, gap, regs, code, na, unit, wth, data⟩)) := by
 obtain ⟨w1, hw1⟩ : ∃ W, w.alloc (.cells #[.int .i64 k, .int .i64 wait, .int .i64 gap, .slice Ar nr cr, .int .i64 code, .int .i64 na, .int .i64 unit, .int .u8 wth, .slice D nd cd] 29) = W := ⟨_, rfl⟩
 have b1 : Below w.heap.size w w1 := by rw [← hw1]; exact (Below.refl _ w).alloc (Nat.le_refl _) _
 have hX1 : Held w1 w.heap.size 29 #[.int .i64 k, .int .i64 wait, .int .i64 gap, .slice Ar nr cr, .int .i64 code, .int .i64 na, .int .i64 unit, .int .u8 wth, .slice D nd cd] := by rw [← hw1]; exact Held.new w _ _
 have hc := rmay_any (.agg #[.int .i64 k, .int .i64 wait, .int .i64 gap, .slice Ar nr cr, .int .i64 code, .int .i64 na, .int .i64 unit, .int .u8 wth, .slice D nd cd]) ⟨k, wait, gap, regs, code, na, unit, wth, data⟩ w1 ⟨Ar, nr, cr, D, nd, cd, rfl, h1.up b1, h2.up b1⟩ hok
 rw [hm] at hc
 have HC := Lib.hid hc
 have hq := may_l hm
 unfold mayQ at hq
 dsimp only at hq
 have HQ : Hid ((1 ≤ k ∧ k ≤ 7) ∧ (0 ≤ wait ∧ wait ≤ 1073741824) ∧ (0 ≤ gap ∧ gap ≤ 1073741824) ∧ (0 ≤ na ∧ na ≤ 1000) ∧ (0 ≤ unit ∧ unit ≤ 247) ∧ (0 ≤ code ∧ code ≤ 11) ∧ (0 ≤ wth ∧ wth < 256) ∧ regs.length ≤ 125 ∧ data.length ≤ 300 ∧ (k ≠ 7 ∨ regs = [])) := Lib.hid (by
  have hw := hok.2.2.1
  dsimp only at hw
  refine ⟨hq.1, by omega, by omega, by omega, by omega, by omega, hw, by omega, by omega, ?_⟩
  by_cases h7 : k = 7
  ·exact .inr (List.length_eq_zero_iff.1 (by omega))
  ·exact .inl h7)
 have HR := Lib.hid (show ∀ x ∈ regs, 0 ≤ x ∧ x < 65536 from hok.2.2.2.1)
 have HR8 := Lib.hid (show ∀ x ∈ data, 0 ≤ x ∧ x < 256 from hok.2.2.2.2.1)
 have HG := Lib.hid (fun (V : World) (h : Below w.heap.size w V) => h1.up h)
 have HS := Lib.hid (fun (V : World) (h : Below w.heap.size w V) => h2.up h)
 have hrl := h1.1
 have hdl := h2.1
 have HX1 := Lib.hid hX1
 have HB1 := Lib.hid b1
 obtain ⟨x0, x1, x2, x3, x4, x5, x6, x7, x8⟩ := zC9 hX1
 clear hX1 b1 h1 h2 hc hq hok hm
 go_in
 go_wp2_with fail
 refine HC.out.mono ?_
 rintro e w2 ⟨rfl, b2⟩
 have hX2 := HX1.out.below b2 HX1.out.lt
 have HB2 := Lib.hid (HB1.out.trans (b2.mono HB1.out.size))
 obtain ⟨x0, x1, x2, x3, x4, x5, x6, x7, x8⟩ := zC9 hX2
 have HX2 := Lib.hid hX2
 clear b2 hX2
 obtain ⟨NB, hNB⟩ : ∃ b, nameB k = b := ⟨_, rfl⟩
 obtain ⟨IW, hIW⟩ : ∃ b, strB (Lib.itoa wait) = b := ⟨_, rfl⟩
 obtain ⟨IG, hIG⟩ : ∃ b, strB (Lib.itoa gap) = b := ⟨_, rfl⟩
 have hsN : NB.size ≤ 6 := by rw [← hNB, nmB_eq, strB_size]; exact nmB_len k
 have hsIW : IW.size ≤ 21 := by rw [← hIW, strB_size]; exact Lib.itoa_length_le wait (by have := HQ.out; omega) (by have := HQ.out; omega)
 have hsIG : IG.size ≤ 21 := by rw [← hIG, strB_size]; exact Lib.itoa_length_le gap (by have := HQ.out; omega) (by have := HQ.out; omega)
 have hg1 : ¬ 9223372036854775807 < NB.size + 1 := by omega
 have hg2 : ¬ 9223372036854775807 < NB.size + 1 + IW.size := by omega
 have hg3 : ¬ 9223372036854775807 < NB.size + 1 + IW.size + 1 := by omega
 have hg4 : ¬ 9223372036854775807 < NB.size + 1 + IW.size + 1 + IG.size := by omega
 have HNM : Hid (∀ V, Calls Tryd.prog 26 #[.int .i64 k] V fun e w' => e = .returned (.string NB) ∧ V = w') := Lib.hid (fun V => by rw [← hNB]; exact rname_any k V)
 have HDW : Hid (∀ V, Calls Tryd.prog 56 #[.int .i64 wait] V fun e w' => e = .returned (.string IW) ∧ Below V.heap.size V w') := Lib.hid (fun V => by rw [← hIW]; exact digits_any wait (by have := HQ.out; omega) (by have := HQ.out; omega) V)
 have HDG : Hid (∀ V, Calls Tryd.prog 56 #[.int .i64 gap] V fun e w' => e = .returned (.string IG) ∧ Below V.heap.size V w') := Lib.hid (fun V => by rw [← hIG]; exact digits_any gap (by have := HQ.out; omega) (by have := HQ.out; omega) V)
 have HE4 : Hid (NB ++ ⟨#[32]⟩ ++ IW ++ ⟨#[32]⟩ ++ IG = strB (nmB k ++ flatN [wait, gap])) := Lib.hid (by
  rw [← hNB, ← hIW, ← hIG, nmB_eq]
  apply ByteArray.ext
  simp [strB, flatN])
 clear hNB hIW hIG
 have hgl := HX2.out.lt
 go_upto_region 4 with (fail)
 obtain ⟨wd4, hwd4⟩ : ∃ W : World, w2.drew = W := ⟨_, rfl⟩
 have hS : Below w2.heap.size w2 wd4 := by rw [← hwd4]; exact (Below.refl _ _).drew
 refine wp_region_held (S := Below w2.heap.size w2) (by kernel_rfl) ?_
 change wpAnyH _ _ _ _ _ _ _ _ w2.drew
 rw [hwd4]
 clear hwd4
 refine zT 0 rfl hS ?_
 simp only [Act.put, zA, zB, zC, zD, zE]
 refine zT 1 rfl hS ?_ (hy := fun W hH => by
  have q0 := (hH.cell (p := ⟨w.heap.size, 0, none⟩) hgl).trans x0
  have q1 := (hH.cell (p := ⟨w.heap.size, 1, none⟩) hgl).trans x1
  have q2 := (hH.cell (p := ⟨w.heap.size, 2, none⟩) hgl).trans x2
  go_simp
  with_reducible rfl)
 simp only [Act.put, zA, zF, zB, zC, zD, zE]
 refine zT 4 rfl hS ?_
 simp only [Act.put, zA, zF, zB, zC, zD, zE]
 refine zT 5 rfl hS ?_ (hy := fun W hH => by
  have q0 := (hH.cell (p := ⟨w.heap.size, 0, none⟩) hgl).trans x0
  have q1 := (hH.cell (p := ⟨w.heap.size, 1, none⟩) hgl).trans x1
  have q2 := (hH.cell (p := ⟨w.heap.size, 2, none⟩) hgl).trans x2
  go_simp
  with_reducible rfl)
 simp only [Act.put, zA, zF, zB, zC, zD, zE]
 refine zT 9 rfl hS ?_
 simp only [Act.put, zA, zF, zB, zC, zD, zE]
 refine zT 10 rfl hS ?_ (hy := fun W hH => by
  have q0 := (hH.cell (p := ⟨w.heap.size, 0, none⟩) hgl).trans x0
  have q1 := (hH.cell (p := ⟨w.heap.size, 1, none⟩) hgl).trans x1
  have q2 := (hH.cell (p := ⟨w.heap.size, 2, none⟩) hgl).trans x2
  go_simp
  with_reducible rfl)
 simp only [Act.put, zA, zF, zB, zC, zD, zE]
 refine zR 2 rfl (fun K' hK' => ?_)
 go_simp
 refine (HNM.out _).mono ?_
 rintro e V2 ⟨rfl, rfl⟩
 dsimp only
 refine hK'.out _ _ hS (fun hS => ?_)
 clear hK' K'
 refine zT 3 rfl hS ?_
 simp only [Act.put, zA, zF, zB, zC, zD, zE]
 refine zR 6 rfl (fun K' hK' => ?_)
 go_simp
 refine (HDW.out _).mono ?_
 rintro e V6 ⟨rfl, c6⟩
 dsimp only
 refine hK'.out _ _ (hS.trans (c6.mono hS.size)) (fun hS => ?_)
 clear hK' K'
 refine zT 7 rfl hS ?_
 simp only [Act.put, zA, zF, zB, zC, zD, zE]
 refine zT 8 rfl hS ?_
 simp only [Act.put, zA, zF, zB, zC, zD, zE]
 refine zR 11 rfl (fun K' hK' => ?_)
 go_simp
 refine (HDG.out _).mono ?_
 rintro e V11 ⟨rfl, c11⟩
 dsimp only
 refine hK'.out _ _ (hS.trans (c11.mono hS.size)) (fun hS => ?_)
 clear hK' K'
 refine zT 12 rfl hS ?_
 simp only [Act.put, zA, zF, zB, zC, zD, zE]
 refine zT 13 rfl hS ?_
 simp only [Act.put, zA, zF, zB, zC, zD, zE]
 refine wpAnyH_done (by kernel_rfl) ?_ _
 rw [HE4.out]
 have hX4 := HX2.out.below hS HX2.out.lt
 have HB4 := Lib.hid (HB2.out.trans (hS.mono HB2.out.size))
 clear x0 x1 x2 x3 x4 x5 x6 x7 x8
 obtain ⟨x0, x1, x2, x3, x4, x5, x6, x7, x8⟩ := zC9 hX4
 have HX4 := Lib.hid hX4
 have hgl := hX4.lt
 clear hX4 hS HX2 HB2 HE4 HDW HDG HNM HX1 HB1 HC
 obtain ⟨P0, hP0⟩ : ∃ l, nmB k ++ flatN [wait, gap] = l := ⟨_, rfl⟩
 have HP0 := Lib.hid hP0
 have hl0 : P0.length ≤ 60 := by
  rw [← hP0]
  have h1 := nmB_len k
  have h2 := flatN_len [wait, gap] (by
   have q := HQ.out
   intro x hx
   simp at hx
   rcases hx with rfl | rfl <;> omega)
  simp at h2 ⊢
  omega
 rw [hP0]
 clear hP0
 have hk17 := HQ.out.1
 obtain ⟨SB, hSB⟩ : ∃ b, strB P0 = b := ⟨_, rfl⟩
 have hsB : SB.size ≤ 60 := by rw [← hSB, strB_size]; exact hl0
 have hg5 : ¬ 9223372036854775807 < SB.size + 1 := by omega
 rw [hSB]
 have HSB := Lib.hid hSB
 have HL0 := Lib.hid hl0
 clear hSB hl0
 go_upto_block 0 with (fail)
 go_cut [5] from 27 (fun u5 wc => ∃ P1, u5 = .string (strB P1) ∧ P1 = P0 ++ flatN (appK k code na unit wth) ++ (if k = 7 then [32, 120] else []) ∧ P1.length ≤ 200 ∧ Below V11.heap.size V11 wc)
 case first =>
  by_cases k2 : k = 2
  ·skip
   have d2 : (k == 2) = true := by simp; omega
   have d4 : (k == 4) = false := by simp; omega
   have d5 : (k == 5) = false := by simp; omega
   have d6 : (k == 6) = false := by simp; omega
   have d7 : (k == 7) = false := by simp; omega
   have K2 := Lib.hid k2
   clear k2
   obtain ⟨IC, hIC⟩ : ∃ b, strB (Lib.itoa code) = b := ⟨_, rfl⟩
   have hsIC : IC.size ≤ 21 := by rw [← hIC, strB_size]; exact Lib.itoa_length_le code (by have := HQ.out; omega) (by have := HQ.out; omega)
   have hg6 : ¬ 9223372036854775807 < SB.size + 1 + IC.size := by omega
   have HDC : Hid (∀ V, Calls Tryd.prog 56 #[.int .i64 code] V fun e w' => e = .returned (.string IC) ∧ Below V.heap.size V w') := Lib.hid (fun V => by rw [← hIC]; exact digits_any code (by have := HQ.out; omega) (by have := HQ.out; omega) V)
   have HE5 : Hid (SB ++ ⟨#[32]⟩ ++ IC = strB (P0 ++ flatN [code])) := Lib.hid (by
    rw [← HSB.out, ← hIC]
    apply ByteArray.ext
    simp [strB, flatN])
   have HL5 : Hid ((P0 ++ flatN [code]).length ≤ 200) := Lib.hid (by
    have h1 := HL0.out
    rw [← strB_size, ← HE5.out]
    simp only [ByteArray.size_append]
    show SB.size + 1 + IC.size ≤ 200
    omega)
   clear hIC
   go_wp2_with fail
   refine (HDC.out _).mono ?_
   rintro e V5 ⟨rfl, c5⟩
   go_wp2_with fail
   go_meet
   case rel => exact ⟨_, by rw [HE5.out], by rw [show appK k code na unit wth = [code] by unfold appK; simp [K2.out], if_neg (by have := K2.out; omega), List.append_nil], HL5.out, c5⟩
  by_cases k4 : k = 4
  ·skip
   have d2 : (k == 2) = false := by simp; omega
   have d4 : (k == 4) = true := by simp; omega
   have d5 : (k == 5) = false := by simp; omega
   have d6 : (k == 6) = false := by simp; omega
   have d7 : (k == 7) = false := by simp; omega
   have K4 := Lib.hid k4
   clear k4
   obtain ⟨IC, hIC⟩ : ∃ b, strB (Lib.itoa na) = b := ⟨_, rfl⟩
   have hsIC : IC.size ≤ 21 := by rw [← hIC, strB_size]; exact Lib.itoa_length_le na (by have := HQ.out; omega) (by have := HQ.out; omega)
   have hg6 : ¬ 9223372036854775807 < SB.size + 1 + IC.size := by omega
   have HDC : Hid (∀ V, Calls Tryd.prog 56 #[.int .i64 na] V fun e w' => e = .returned (.string IC) ∧ Below V.heap.size V w') := Lib.hid (fun V => by rw [← hIC]; exact digits_any na (by have := HQ.out; omega) (by have := HQ.out; omega) V)
   have HE5 : Hid (SB ++ ⟨#[32]⟩ ++ IC = strB (P0 ++ flatN [na])) := Lib.hid (by
    rw [← HSB.out, ← hIC]
    apply ByteArray.ext
    simp [strB, flatN])
   have HL5 : Hid ((P0 ++ flatN [na]).length ≤ 200) := Lib.hid (by
    have h1 := HL0.out
    rw [← strB_size, ← HE5.out]
    simp only [ByteArray.size_append]
    show SB.size + 1 + IC.size ≤ 200
    omega)
   clear hIC
   go_wp2_with fail
   refine (HDC.out _).mono ?_
   rintro e V5 ⟨rfl, c5⟩
   go_wp2_with fail
   go_meet
   case rel => exact ⟨_, by rw [HE5.out], by rw [show appK k code na unit wth = [na] by unfold appK; simp [K4.out], if_neg (by have := K4.out; omega), List.append_nil], HL5.out, c5⟩
  by_cases k6 : k = 6
  ·skip
   have d2 : (k == 2) = false := by simp; omega
   have d4 : (k == 4) = false := by simp; omega
   have d5 : (k == 5) = false := by simp; omega
   have d6 : (k == 6) = true := by simp; omega
   have d7 : (k == 7) = false := by simp; omega
   have K6 := Lib.hid k6
   clear k6
   obtain ⟨IC, hIC⟩ : ∃ b, strB (Lib.itoa unit) = b := ⟨_, rfl⟩
   have hsIC : IC.size ≤ 21 := by rw [← hIC, strB_size]; exact Lib.itoa_length_le unit (by have := HQ.out; omega) (by have := HQ.out; omega)
   have hg6 : ¬ 9223372036854775807 < SB.size + 1 + IC.size := by omega
   have HDC : Hid (∀ V, Calls Tryd.prog 56 #[.int .i64 unit] V fun e w' => e = .returned (.string IC) ∧ Below V.heap.size V w') := Lib.hid (fun V => by rw [← hIC]; exact digits_any unit (by have := HQ.out; omega) (by have := HQ.out; omega) V)
   have HE5 : Hid (SB ++ ⟨#[32]⟩ ++ IC = strB (P0 ++ flatN [unit])) := Lib.hid (by
    rw [← HSB.out, ← hIC]
    apply ByteArray.ext
    simp [strB, flatN])
   have HL5 : Hid ((P0 ++ flatN [unit]).length ≤ 200) := Lib.hid (by
    have h1 := HL0.out
    rw [← strB_size, ← HE5.out]
    simp only [ByteArray.size_append]
    show SB.size + 1 + IC.size ≤ 200
    omega)
   clear hIC
   go_wp2_with fail
   refine (HDC.out _).mono ?_
   rintro e V5 ⟨rfl, c5⟩
   go_wp2_with fail
   go_meet
   case rel => exact ⟨_, by rw [HE5.out], by rw [show appK k code na unit wth = [unit] by unfold appK; simp [K6.out], if_neg (by have := K6.out; omega), List.append_nil], HL5.out, c5⟩
  by_cases k5 : k = 5
  ·skip
   have d2 : (k == 2) = false := by simp; omega
   have d4 : (k == 4) = false := by simp; omega
   have d5 : (k == 5) = true := by simp; omega
   have d6 : (k == 6) = false := by simp; omega
   have d7 : (k == 7) = false := by simp; omega
   have K5 := Lib.hid k5
   clear k5
   obtain ⟨IC, hIC⟩ : ∃ b, strB (Lib.itoa na) = b := ⟨_, rfl⟩
   obtain ⟨IE, hIE⟩ : ∃ b, strB (Lib.itoa wth) = b := ⟨_, rfl⟩
   have hsIC : IC.size ≤ 21 := by rw [← hIC, strB_size]; exact Lib.itoa_length_le na (by have := HQ.out; omega) (by have := HQ.out; omega)
   have hsIE : IE.size ≤ 21 := by rw [← hIE, strB_size]; exact Lib.itoa_length_le wth (by have := HQ.out; omega) (by have := HQ.out; omega)
   have hg6 : ¬ 9223372036854775807 < SB.size + 1 + IC.size := by omega
   have hg7 : ¬ 9223372036854775807 < SB.size + 1 + IC.size + 1 := by omega
   have hg8 : ¬ 9223372036854775807 < SB.size + 1 + IC.size + 1 + IE.size := by omega
   have hww : wrap64 wth = wth := w64_in wth (by have := HQ.out; omega) (by have := HQ.out; omega)
   have hww2 : IntKind.i64.wrap wth = wth := IntWalk.i64_in _ (by have := HQ.out; omega)
   have HDN : Hid (∀ V, Calls Tryd.prog 56 #[.int .i64 na] V fun e w' => e = .returned (.string IC) ∧ Below V.heap.size V w') := Lib.hid (fun V => by rw [← hIC]; exact digits_any na (by have := HQ.out; omega) (by have := HQ.out; omega) V)
   have HDX : Hid (∀ V, Calls Tryd.prog 56 #[.int .i64 wth] V fun e w' => e = .returned (.string IE) ∧ Below V.heap.size V w') := Lib.hid (fun V => by rw [← hIE]; exact digits_any wth (by have := HQ.out; omega) (by have := HQ.out; omega) V)
   have HE5 : Hid (SB ++ ⟨#[32]⟩ ++ IC ++ ⟨#[32]⟩ ++ IE = strB (P0 ++ flatN [na, wth])) := Lib.hid (by
    rw [← HSB.out, ← hIC, ← hIE]
    apply ByteArray.ext
    simp [strB, flatN])
   have HL5 : Hid ((P0 ++ flatN [na, wth]).length ≤ 200) := Lib.hid (by
    rw [← strB_size, ← HE5.out]
    simp only [ByteArray.size_append]
    show SB.size + 1 + IC.size + 1 + IE.size ≤ 200
    omega)
   clear hIC hIE
   go_upto_region 11 with (fail)
   obtain ⟨wd11, hwd11⟩ : ∃ W : World, V11.drew = W := ⟨_, rfl⟩
   have hS : Below V11.heap.size V11 wd11 := by rw [← hwd11]; exact (Below.refl _ _).drew
   refine wp_region_held (S := Below V11.heap.size V11) (by kernel_rfl) ?_
   change wpAnyH _ _ _ _ _ _ _ _ V11.drew
   rw [hwd11]
   clear hwd11
   refine zT 0 rfl hS ?_
   simp only [Act.put, zA, zB, zC, zD, zE]
   refine zT 1 rfl hS ?_
   simp only [Act.put, zA, zF, zB, zC, zD, zE]
   refine zT 2 rfl hS ?_
   simp only [Act.put, zA, zF, zB, zC, zD, zE]
   refine zT 3 rfl hS ?_ (hy := fun W hH => by
    have q5 := (hH.cell (p := ⟨w.heap.size, 5, none⟩) hgl).trans x5
    have q7 := (hH.cell (p := ⟨w.heap.size, 7, none⟩) hgl).trans x7
    go_simp
    with_reducible rfl)
   simp only [Act.put, zA, zF, zB, zC, zD, zE]
   refine zT 7 rfl hS ?_
   simp only [Act.put, zA, zF, zB, zC, zD, zE]
   refine zT 8 rfl hS ?_ (hy := fun W hH => by
    have q5 := (hH.cell (p := ⟨w.heap.size, 5, none⟩) hgl).trans x5
    have q7 := (hH.cell (p := ⟨w.heap.size, 7, none⟩) hgl).trans x7
    go_simp
    with_reducible rfl)
   simp only [Act.put, zA, zF, zB, zC, zD, zE]
   refine zT 9 rfl hS ?_
   simp only [Act.put, zA, zF, zB, zC, zD, zE]
   refine zR 4 rfl (fun K' hK' => ?_)
   go_simp
   refine (HDN.out _).mono ?_
   rintro e V4 ⟨rfl, c4⟩
   dsimp only
   refine hK'.out _ _ (hS.trans (c4.mono hS.size)) (fun hS => ?_)
   clear hK' K'
   refine zT 5 rfl hS ?_
   simp only [Act.put, zA, zF, zB, zC, zD, zE]
   refine zT 6 rfl hS ?_
   simp only [Act.put, zA, zF, zB, zC, zD, zE]
   refine zR 10 rfl (fun K' hK' => ?_)
   go_simp
   refine (HDX.out _).mono ?_
   rintro e V10 ⟨rfl, c10⟩
   dsimp only
   refine hK'.out _ _ (hS.trans (c10.mono hS.size)) (fun hS => ?_)
   clear hK' K'
   refine zT 11 rfl hS ?_
   simp only [Act.put, zA, zF, zB, zC, zD, zE]
   refine zT 12 rfl hS ?_
   simp only [Act.put, zA, zF, zB, zC, zD, zE]
   refine wpAnyH_done (by kernel_rfl) ?_ _
   go_wp2_with fail
   go_meet
   case rel => exact ⟨_, by rw [HE5.out], by rw [show appK k code na unit wth = [na, wth] by unfold appK; simp [K5.out], if_neg (by have := K5.out; omega), List.append_nil], HL5.out, hS⟩
  by_cases k7 : k = 7
  ·skip
   have d2 : (k == 2) = false := by simp; omega
   have d4 : (k == 4) = false := by simp; omega
   have d5 : (k == 5) = false := by simp; omega
   have d6 : (k == 6) = false := by simp; omega
   have d7 : (k == 7) = true := by simp; omega
   have K7 := Lib.hid k7
   clear k7
   have hg6 : ¬ 9223372036854775807 < SB.size + 2 := by omega
   have HE5 : Hid (SB ++ ⟨#[32, 120]⟩ = strB (P0 ++ [32, 120])) := Lib.hid (by
    rw [← HSB.out]
    apply ByteArray.ext
    simp [strB])
   go_wp2_with fail
   go_meet
   case rel => exact ⟨_, by rw [HE5.out], by rw [show appK k code na unit wth = [] by unfold appK; simp [K7.out], if_pos K7.out]; simp [flatN], by have := HL0.out; simp; omega, Below.refl _ _⟩
  ·skip
   have d2 : (k == 2) = false := by simp; omega
   have d4 : (k == 4) = false := by simp; omega
   have d5 : (k == 5) = false := by simp; omega
   have d6 : (k == 6) = false := by simp; omega
   have d7 : (k == 7) = false := by simp; omega
   go_wp2_with fail
   go_meet
   case rel => exact ⟨_, by rw [HSB.out], by rw [show appK k code na unit wth = [] by unfold appK; simp [k2, k4, k5, k6], if_neg k7]; simp [flatN], by have := HL0.out; omega, Below.refl _ _⟩
 case rest =>
  obtain ⟨P1, rfl, hP1, hl1, hb5⟩ := hcut
  have hX5 := HX4.out.below hb5 HX4.out.lt
  have HB5 := Lib.hid (HB4.out.trans (hb5.mono HB4.out.size))
  have HP1 := Lib.hid hP1
  have HL1 := Lib.hid hl1
  clear hP1 hl1 x0 x1 x2 x3 x4 x5 x6 x7 x8 hb5 hg5 hsB
  obtain ⟨-, -, -, x3, -, -, -, -, x8⟩ := zC9 hX5
  have HX5 := Lib.hid hX5
  clear hX5
  have h125 : nr ≤ 125 := by have := HQ.out; omega
  have h300 : nd ≤ 300 := by have := HQ.out; omega
  go_wp2_with fail
  go_loopw [5, 6] (fun u5 u6 wr => ∃ (X0 : World) (i : Nat), X0 = wr ∧ i ≤ nr ∧ u6 = .int .i64 i ∧ u5 = .string (strB (P1 ++ flatN (regs.take i))) ∧ Below wc.heap.size wc X0) (fun _ u6 _ => nr - (intOf u6).toNat)
  case atStart => exact ⟨_, 0, rfl, by omega, rfl, by simp [flatN], Below.refl _ _⟩
  case round =>
   obtain ⟨X, i, hXe, hi1, rfl, rfl, hxb⟩ := hrel
   subst hXe
   have hX := HX5.out.below hxb HX5.out.lt
   obtain ⟨-, -, -, x3, -, -, -, -, x8⟩ := zC9 hX
   have hbw := HB5.out.trans (hxb.mono HB5.out.size)
   have HLN : Hid ((P1 ++ flatN (regs.take i)).length ≤ 200 + 22 * 125) := Lib.hid (by
    have h1 := flatN_len (regs.take i) (fun y hy => by have := HR.out y (List.mem_of_mem_take hy); omega)
    have h2 := HL1.out
    rw [List.length_append]
    rw [List.length_take] at h1
    omega)
   by_cases hlt : i < nr
   ·obtain ⟨g, off, x, rfl, hg, hx, hcx⟩ := (HG.out X hbw).2.2.2.2.at_ (i := i) (by omega)
    have hxr := HR.out x (List.mem_of_getElem? hx)
    have HFS := Lib.hid (flatN_succ regs i x hx)
    have hww : wrap64 x = x := w64_in x (by omega) (by omega)
    obtain ⟨IC, hIC⟩ : ∃ b, strB (Lib.itoa x) = b := ⟨_, rfl⟩
    have hsIC : IC.size ≤ 21 := by rw [← hIC, strB_size]; exact Lib.itoa_length_le x (by omega) (by omega)
    obtain ⟨SB, hSB⟩ : ∃ b, strB (P1 ++ flatN (regs.take i)) = b := ⟨_, rfl⟩
    have hsB : SB.size ≤ 200 + 22 * 125 := by rw [← hSB, strB_size]; exact HLN.out
    have hg5 : ¬ 9223372036854775807 < SB.size + 1 := by omega
    have hg6 : ¬ 9223372036854775807 < SB.size + 1 + IC.size := by omega
    have HDC : Hid (∀ V, Calls Tryd.prog 56 #[.int .i64 x] V fun e w' => e = .returned (.string IC) ∧ Below V.heap.size V w') := Lib.hid (fun V => by rw [← hIC]; exact digits_any x (by omega) (by omega) V)
    have HE5 : Hid (SB ++ ⟨#[32]⟩ ++ IC = strB (P1 ++ flatN (regs.take (i + 1)))) := Lib.hid (by
     rw [HFS.out, ← hSB, ← hIC]
     apply ByteArray.ext
     simp [strB])
    have hiI : (i : Int) < (nr : Int) := by omega
    rw [hSB]
    clear hIC hSB hx hX
    go_wp2_with fail
    refine (HDC.out _).mono ?_
    rintro e V5 ⟨rfl, c5⟩
    have hx5 := hxb.trans (c5.mono hxb.size)
    go_wp2_with fail
    go_roundw
    case rel => exact ⟨_, i + 1, rfl, by omega, by go_num, by rw [HE5.out], hx5⟩
    case measure => simp [intOf]; omega
   ·obtain rfl : i = nr := by omega
    have hiI : ¬ ((i : Int) < (i : Int)) := by omega
    rw [show regs.take i = regs from List.take_of_length_le (by omega)] at HLN ⊢
    obtain ⟨P2, hP2⟩ : ∃ l, P1 ++ flatN regs = l := ⟨_, rfl⟩
    have HFIN : Hid (P2 ++ flatH data = lineL ⟨k, wait, gap, regs, code, na, unit, wth, data⟩) := Lib.hid (by
     rw [← hP2, HP1.out, ← HP0.out]
     unfold lineL numsA appK
     dsimp only
     rcases HQ.out.2.2.2.2.2.2.2.2.2 with h | h
     ·rw [if_neg h]; simp [flatN]
     ·rw [h]; simp [flatN])
    rw [hP2] at HLN ⊢
    have HXX := Lib.hid hX
    have HBX := Lib.hid hbw
    clear hP2 hX hbw hxb
    go_wp2_with fail
    go_loopw [5, 7] (fun u5 u7 wr => ∃ (X0 : World) (i : Nat), X0 = wr ∧ i ≤ nd ∧ u7 = .int .i64 i ∧ u5 = .string (strB (P2 ++ flatH (data.take i))) ∧ Below X.heap.size X X0) (fun _ u7 _ => nd - (intOf u7).toNat)
    case atStart => exact ⟨_, 0, rfl, by omega, rfl, by simp [flatH], Below.refl _ _⟩
    case round =>
     obtain ⟨Y, j, hYe, hj1, rfl, rfl, hyb⟩ := hrel
     subst hYe
     have hX := HXX.out.below hyb HXX.out.lt
     obtain ⟨-, -, -, -, -, -, -, -, x8⟩ := zC9 hX
     have hbw := HBX.out.trans (hyb.mono HBX.out.size)
     by_cases hlt2 : j < nd
     ·obtain ⟨g, off, x, rfl, hg, hx, hcx⟩ := (HS.out Y hbw).2.2.2.2.at_ (i := j) (by omega)
      have hx8 := HR8.out x (List.mem_of_getElem? hx)
      have HFS := Lib.hid (flatH_succ data j x hx)
      have hjI : (j : Int) < (nd : Int) := by omega
      obtain ⟨SB, hSB⟩ : ∃ b, strB (P2 ++ flatH (data.take j)) = b := ⟨_, rfl⟩
      have hbz : SB.size ≤ 200000 := by
       rw [← hSB, strB_size, List.length_append, flatH_len, List.length_take]
       have := HLN.out
       omega
      have hg1 : ¬ 9223372036854775807 < SB.size + 1 := by omega
      have hg2 : ¬ 9223372036854775807 < SB.size + 1 + 1 := by omega
      have hd1 : IntKind.u8.wrap (x.tdiv 16) = x / 16 := by
       rw [Int.tdiv_eq_ediv_of_nonneg hx8.1]; simp only [IntKind.wrap_u8]; omega
      have hd2 : IntKind.u8.wrap (x.tmod 16) = x % 16 := by
       rw [Int.tmod_eq_emod_of_nonneg hx8.1]; simp only [IntKind.wrap_u8]; omega
      have hd3 : x.tmod 16 = x % 16 := Int.tmod_eq_emod_of_nonneg hx8.1
      have HHP := Lib.hid (fun V => hex_any (x / 16) (by omega) V)
      have HHQ := Lib.hid (fun V => hex_any (x % 16) (by omega) V)
      obtain ⟨BP, hBP⟩ : ∃ b, strB [hexB (x / 16)] = b := ⟨_, rfl⟩
      obtain ⟨BQ, hBQ⟩ : ∃ b, strB [hexB (x % 16)] = b := ⟨_, rfl⟩
      have hz1 : BP.size = 1 := by rw [← hBP]; rfl
      have hz2 : BQ.size = 1 := by rw [← hBQ]; rfl
      have HE5 : Hid (SB ++ BP ++ BQ = strB (P2 ++ flatH (data.take (j + 1)))) := Lib.hid (by
       rw [HFS.out, ← hSB, ← hBP, ← hBQ]
       apply ByteArray.ext
       simp [strB])
      rw [hBP] at HHP
      rw [hBQ] at HHQ
      rw [hSB]
      clear hSB hBP hBQ hx hX
      have hgl := HXX.out.lt
      have hgl2 : w.heap.size < Y.heap.size := Nat.lt_of_lt_of_le HXX.out.lt hyb.size
      go_upto_region 23 with (fail)
      obtain ⟨wd23, hwd23⟩ : ∃ W : World, Y.drew = W := ⟨_, rfl⟩
      have hS : Below Y.heap.size Y wd23 := by rw [← hwd23]; exact (Below.refl _ _).drew
      refine wp_region_held (S := Below Y.heap.size Y) (by kernel_rfl) ?_
      change wpAnyH _ _ _ _ _ _ _ _ Y.drew
      rw [hwd23]
      clear hwd23
      refine zT 0 rfl hS ?_
      simp only [Act.put, zA, zB, zC, zD, zE]
      refine zT 1 rfl hS ?_
      simp only [Act.put, zA, zF, zB, zC, zD, zE]
      refine zT 2 rfl hS ?_ (hy := fun W hH => by
       have q8 := (hH.cell (p := ⟨w.heap.size, 8, none⟩) hgl2).trans x8
       have qd := (hH.cell (p := ⟨g, off + j, none⟩) hg).trans hcx
       go_simp
       with_reducible rfl)
      simp only [Act.put, zA, zF, zB, zC, zD, zE]
      refine zT 3 rfl hS ?_
      simp only [Act.put, zA, zF, zB, zC, zD, zE]
      refine zT 4 rfl hS ?_
      simp only [Act.put, zA, zF, zB, zC, zD, zE]
      refine zT 5 rfl hS ?_ (hy := fun W hH => by
       have q8 := (hH.cell (p := ⟨w.heap.size, 8, none⟩) hgl2).trans x8
       have qd := (hH.cell (p := ⟨g, off + j, none⟩) hg).trans hcx
       go_simp
       with_reducible rfl)
      simp only [Act.put, zA, zF, zB, zC, zD, zE]
      refine zT 6 rfl hS ?_
      simp only [Act.put, zA, zF, zB, zC, zD, zE]
      refine zT 9 rfl hS ?_
      simp only [Act.put, zA, zF, zB, zC, zD, zE]
      refine zT 10 rfl hS ?_ (hy := fun W hH => by
       have q8 := (hH.cell (p := ⟨w.heap.size, 8, none⟩) hgl2).trans x8
       have qd := (hH.cell (p := ⟨g, off + j, none⟩) hg).trans hcx
       go_simp
       with_reducible rfl)
      simp only [Act.put, zA, zF, zB, zC, zD, zE]
      refine zT 11 rfl hS ?_
      simp only [Act.put, zA, zF, zB, zC, zD, zE]
      refine zT 12 rfl hS ?_
      simp only [Act.put, zA, zF, zB, zC, zD, zE]
      refine zT 13 rfl hS ?_ (hy := fun W hH => by
       have q8 := (hH.cell (p := ⟨w.heap.size, 8, none⟩) hgl2).trans x8
       have qd := (hH.cell (p := ⟨g, off + j, none⟩) hg).trans hcx
       go_simp
       with_reducible rfl)
      simp only [Act.put, zA, zF, zB, zC, zD, zE]
      refine zT 14 rfl hS ?_
      simp only [Act.put, zA, zF, zB, zC, zD, zE]
      refine zR 7 rfl (fun K' hK' => ?_)
      go_simp
      refine (HHP.out _).mono ?_
      rintro e V7 ⟨rfl, c7⟩
      dsimp only
      refine hK'.out _ _ (hS.trans (c7.mono hS.size)) (fun hS => ?_)
      clear hK' K'
      refine zT 8 rfl hS ?_
      simp only [Act.put, zA, zF, zB, zC, zD, zE]
      refine zR 15 rfl (fun K' hK' => ?_)
      go_simp
      refine (HHQ.out _).mono ?_
      rintro e V15 ⟨rfl, c15⟩
      dsimp only
      refine hK'.out _ _ (hS.trans (c15.mono hS.size)) (fun hS => ?_)
      clear hK' K'
      refine zT 16 rfl hS ?_
      simp only [Act.put, zA, zF, zB, zC, zD, zE]
      refine zT 17 rfl hS ?_
      simp only [Act.put, zA, zF, zB, zC, zD, zE]
      refine wpAnyH_done (by kernel_rfl) ?_ _
      go_wp2_with fail
      go_roundw
      case rel => exact ⟨_, j + 1, rfl, by omega, by go_num, by rw [HE5.out], hyb.trans (hS.mono hyb.size)⟩
      case measure => simp [intOf]; omega
     ·obtain rfl : j = nd := by omega
      have hjI : ¬ ((j : Int) < (j : Int)) := by omega
      rw [show data.take j = data from List.take_of_length_le (by omega), HFIN.out]
      have HO7 := Lib.hid hbw
      clear hX hbw
      go_wp2_with fail
      go_ret2
      exact ⟨rfl, HO7.out⟩
set_option maxHeartbeats 4000000 in
theorem rl_0 (w : World) (Ar : Option Addr) (nr cr : Nat) (D : Option Addr) (nd cd : Nat) (k wait gap : Int) (regs : List Int) (code na unit wth : Int) (data : List Int) (h1 : SlI w w.heap.size .u16 Ar nr cr regs) (h2 : SlI w w.heap.size .u8 D nd cd data) (hok : ActP.ok ⟨k, wait, gap, regs, code, na, unit, wth, data⟩) (hm : mayA ⟨k, wait, gap, regs, code, na, unit, wth, data⟩ = false) :
  Calls Tryd.prog 23 #[.agg #[.int .i64 k, .int .i64 wait, .int .i64 gap, .slice Ar nr cr, .int .i64 code, .int .i64 na, .int .i64 unit, .int .u8 wth, .slice D nd cd]] w fun e w' => e = .returned (.tuple #[.string (strB []), .int .i64 220]) ∧ Below w.heap.size w w' := by
 obtain ⟨w1, hw1⟩ : ∃ W, w.alloc (.cells #[.int .i64 k, .int .i64 wait, .int .i64 gap, .slice Ar nr cr, .int .i64 code, .int .i64 na, .int .i64 unit, .int .u8 wth, .slice D nd cd] 29) = W := ⟨_, rfl⟩
 have b1 : Below w.heap.size w w1 := by rw [← hw1]; exact (Below.refl _ w).alloc (Nat.le_refl _) _
 have hX1 : Held w1 w.heap.size 29 #[.int .i64 k, .int .i64 wait, .int .i64 gap, .slice Ar nr cr, .int .i64 code, .int .i64 na, .int .i64 unit, .int .u8 wth, .slice D nd cd] := by rw [← hw1]; exact Held.new w _ _
 have hc := rmay_any (.agg #[.int .i64 k, .int .i64 wait, .int .i64 gap, .slice Ar nr cr, .int .i64 code, .int .i64 na, .int .i64 unit, .int .u8 wth, .slice D nd cd]) ⟨k, wait, gap, regs, code, na, unit, wth, data⟩ w1 ⟨Ar, nr, cr, D, nd, cd, rfl, h1.up b1, h2.up b1⟩ hok
 rw [hm] at hc
 have HC := Lib.hid hc
 have HB1 := Lib.hid b1
 obtain ⟨x0, x1, x2, x3, x4, x5, x6, x7, x8⟩ := zC9 hX1
 clear hX1 b1 h1 h2 hc hok hm
 go_in
 go_wp2_with fail
 refine HC.out.mono ?_
 rintro e w2 ⟨rfl, b2⟩
 have HB2 := Lib.hid (HB1.out.trans (b2.mono HB1.out.size))
 clear b2
 go_wp2_with fail
 go_ret2
 exact ⟨rfl, HB2.out⟩
theorem rline_any (v : Value) (a : ActP) (w : World) (hA : ActAt w v a) (hok : a.ok) :
  Calls Tryd.prog 23 #[v] w fun e w' => e = .returned (.tuple #[.string (strB (if mayA a then lineL a else [])), .int .i64 (if mayA a then 0 else 220)]) ∧ Below w.heap.size w w' := by
 obtain ⟨Ar, nr, cr, D, nd, cd, rfl, h1, h2⟩ := hA
 obtain ⟨k, wait, gap, regs, code, na, unit, wth, data⟩ := a
 cases hm : mayA ⟨k, wait, gap, regs, code, na, unit, wth, data⟩ with
 | false => exact rl_0 w Ar nr cr D nd cd k wait gap regs code na unit wth data h1 h2 hok hm
 | true => exact rl_1 w Ar nr cr D nd cd k wait gap regs code na unit wth data h1 h2 hok hm
end Go.Proofs.YtcipleanckeoaaaDoor
