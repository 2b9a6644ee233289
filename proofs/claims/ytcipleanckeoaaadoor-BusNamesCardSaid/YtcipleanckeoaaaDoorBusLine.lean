/- bus.Line: the chapter's two examples. -/
import Derived.Test.YtcipleanckeoaaaDoorBusCheck
import Derived.Test.YtcipleanckeoaaaDoorBusShelf
import Derived.Laws.OwnMore
import Derived.LoopN
import Derived.Lib.Hide
import Derived.Deep.Cut
namespace Go.Proofs.YtcipleanckeoaaaDoor
open Go.RowKit Go.Shelf
attribute [local go_sem] Oper.semAt_some
set_option linter.unusedVariables false
set_option linter.unusedSimpArgs false
set_option maxRecDepth 100000
theorem fmt_one (i : Nat) (hi : i < 10) (w : World) : Calls Tryd.prog 54 #[.int .i64 i, .int .i64 10] w fun e w' => e = .returned (.string ⟨#[UInt8.ofNat (48 + i)]⟩) ∧ w = w' :=
  (Tryd.strconv_FormatInt_10_small i (by omega) w).mono fun e w' ⟨h1, h2⟩ => ⟨by
    rw [h1, Lib.decDigits_one hi], h2.symm⟩
def lineR : ActP := ⟨2, 1, 0, [], 2, 0, 0, 0, []⟩
theorem lineR_may : mayA lineR = true := by decide
theorem lineR_ok : lineR.ok := by
  unfold ActP.ok lineR
  simp [Reg16, Byte8]
theorem info_L64 : (Tryd.prog.info? 2).map (fun i => (i.zero, i.size, i.bytes)) = some (some (.int .i64 0), 1, 8) := by kernel_rfl
set_option maxHeartbeats 2000000 in
theorem line_2 (w : World) (hN : NamesT w) :
    Calls Tryd.prog 20 #[.agg #[.int .i64 2, .int .i64 1, .int .i64 0, .slice none 0 0, .int .i64 2, .int .i64 0, .int .i64 0, .int .u8 0, .slice none 0 0]] w fun e w' => e = .returned (.tuple #[.string ⟨#[114, 101, 102, 117, 115, 101, 32, 49, 32, 48, 32, 50]⟩, .int .i64 0]) ∧ Below w.heap.size w w' := by
  obtain ⟨w1, hw1⟩ : ∃ W, w.alloc (.cells #[.int .i64 2, .int .i64 1, .int .i64 0, .slice none 0 0, .int .i64 2, .int .i64 0, .int .i64 0, .int .u8 0, .slice none 0 0] 29) = W := ⟨_, rfl⟩
  have b1 : Below w.heap.size w w1 := by rw [← hw1]; exact (Below.refl _ w).alloc (Nat.le_refl _) _
  have hX1 : Held w1 w.heap.size 29 #[.int .i64 2, .int .i64 1, .int .i64 0, .slice none 0 0, .int .i64 2, .int .i64 0, .int .i64 0, .int .u8 0, .slice none 0 0] := by rw [← hw1]; exact Held.new w _ _
  have hc := (bcheck_any (.agg #[.int .i64 2, .int .i64 1, .int .i64 0, .slice none 0 0, .int .i64 2, .int .i64 0, .int .i64 0, .int .u8 0, .slice none 0 0]) lineR w1 (hN.up b1) ⟨none, 0, 0, none, 0, 0, rfl, SlI.nil _ _ _, SlI.nil _ _ _⟩ lineR_ok)
  simp only [lineR_may, if_true] at hc
  have HC := Lib.hid hc
  clear hc
  have HX1 := Lib.hid hX1
  have HB1 := Lib.hid b1
  have HN := Lib.hid hN
  have x0 : w1.cell? ⟨w.heap.size, 0, none⟩ = some (.int .i64 2) := hX1.cell 0
  have x1 : w1.cell? ⟨w.heap.size, 1, none⟩ = some (.int .i64 1) := hX1.cell 1
  have x2 : w1.cell? ⟨w.heap.size, 2, none⟩ = some (.int .i64 0) := hX1.cell 2
  have x3 : w1.cell? ⟨w.heap.size, 3, none⟩ = some (.slice none 0 0) := hX1.cell 3
  have x4 : w1.cell? ⟨w.heap.size, 4, none⟩ = some (.int .i64 2) := hX1.cell 4
  have x5 : w1.cell? ⟨w.heap.size, 5, none⟩ = some (.int .i64 0) := hX1.cell 5
  have x6 : w1.cell? ⟨w.heap.size, 6, none⟩ = some (.int .i64 0) := hX1.cell 6
  have x7 : w1.cell? ⟨w.heap.size, 7, none⟩ = some (.int .u8 0) := hX1.cell 7
  have x8 : w1.cell? ⟨w.heap.size, 8, none⟩ = some (.slice none 0 0) := hX1.cell 8
  clear hX1 b1 hN
  go_in
  go_wp2_with fail
  refine HC.out.mono ?_
  rintro e w2 ⟨rfl, b2⟩
  have hX2 := HX1.out.below b2 HX1.out.lt
  have HB2 := Lib.hid (HB1.out.trans (b2.mono HB1.out.size))
  have hz2 := (HB1.out.trans (b2.mono HB1.out.size)).size
  have lt2 := hX2.lt
  have x0 : w2.cell? ⟨w.heap.size, 0, none⟩ = some (.int .i64 2) := hX2.cell 0
  have x1 : w2.cell? ⟨w.heap.size, 1, none⟩ = some (.int .i64 1) := hX2.cell 1
  have x2 : w2.cell? ⟨w.heap.size, 2, none⟩ = some (.int .i64 0) := hX2.cell 2
  have x3 : w2.cell? ⟨w.heap.size, 3, none⟩ = some (.slice none 0 0) := hX2.cell 3
  have x4 : w2.cell? ⟨w.heap.size, 4, none⟩ = some (.int .i64 2) := hX2.cell 4
  have HX2 := Lib.hid hX2
  clear b2 hX2
  obtain ⟨w3, hw3⟩ : ∃ W, w2.alloc (.cells #[.int .i64 1, .int .i64 0] 2) = W := ⟨_, rfl⟩
  have o3 : w3.ownsRow (w.heap.size + 1) 2 1 (.slice (some ⟨w2.heap.size, 0, none⟩) 2 2) 2 [.int .i64 1, .int .i64 0] := by
    rw [← hw3]; exact World.ownsRow_lit w2 #[.int .i64 1, .int .i64 0] 2 (by omega) (by unfold maxLen; omega) (by simp)
  have hX3 : Held w3 w.heap.size 29 #[.int .i64 2, .int .i64 1, .int .i64 0, .slice none 0 0, .int .i64 2, .int .i64 0, .int .i64 0, .int .u8 0, .slice none 0 0] := by rw [← hw3]; exact HX2.out.alloc _
  have HB3 : Hid (Below w.heap.size w w3) := Lib.hid (by rw [← hw3]; exact HB2.out.alloc (by omega) _)
  have x0 : w3.cell? ⟨w.heap.size, 0, none⟩ = some (.int .i64 2) := hX3.cell 0
  have x4 : w3.cell? ⟨w.heap.size, 4, none⟩ = some (.int .i64 2) := hX3.cell 4
  have HX3 := Lib.hid hX3
  have HW3 := Lib.hid hw3
  clear hX3 hw3
  go_upto_region 7 with (fail)
  rw [HW3.out]
  obtain ⟨i0, hi, hz0, hz1, hz2⟩ := info_parts info_L64
  have lt3 := HB3.out.size
  have hX3a := HX3.out.alloc (.cells #[.int .i64 2] 2)
  have HB3a := Lib.hid (HB3.out.alloc lt3 (.cells #[.int .i64 2] 2))
  have o3a := o3.alloc (.cells #[.int .i64 2] 2)
  have HX3a := Lib.hid hX3a
  clear hX3a
  go_upto_region 14 with ((with_reducible refine at_append ?_); refine wpList_append_own _ rfl _ _ 81 rfl (w.heap.size + 1) 2 i0 (.int .i64 0) 1 8 Tryd.underlying81 hi hz0 hz1 hz2 rfl (by decide) _ _ _ rfl (o3.alloc _) ⟨w3.heap.size, 0, none⟩ 1 1 [.int .i64 2] rfl rfl (World.news_of_block (cs := #[.int .i64 2]) (t := 2) (fr := (0, 0)) (heap_alloc_new w3 _)) (by simp [Value.oneCell']) (by unfold maxLen; omega) (by omega) (by simp; omega) ?_; intro v' w4 o4 g4 _)
  have b4 : Below (w.heap.size + 1) (w3.alloc (.cells #[.int .i64 2] 2)) w4 := (Below.refl _ _).grown g4 (by simp; omega) (fun j hj => (o3a.lt j hj).1)
  have hX4 := HX3a.out.below b4 (by omega)
  have HB4 := Lib.hid (HB3a.out.trans (b4.mono (by omega)))
  have lt4 := HB4.out.size
  have x0 : w4.cell? ⟨w.heap.size, 0, none⟩ = some (.int .i64 2) := hX4.cell 0
  have x3 : w4.cell? ⟨w.heap.size, 3, none⟩ = some (.slice none 0 0) := hX4.cell 3
  obtain ⟨g, cap, rfl, hg⟩ : ∃ g cap, v' = .slice (some ⟨g, 0, none⟩) 3 cap ∧ g < w4.heap.size := by
    rcases o4.2 with ⟨_, h⟩ | ⟨g, cap, cur, h, _, hh, _⟩
    · exact absurd h (by omega)
    · exact ⟨g, cap, h, (Array.getElem?_eq_some_iff.1 hh).1⟩
  have r0 : w4.cell? ⟨g, 0, none⟩ = some (.int .i64 1) := o4.cellAt 0 (by omega)
  have r1 : w4.cell? ⟨g, 1, none⟩ = some (.int .i64 0) := o4.cellAt 1 (by omega)
  have r2 : w4.cell? ⟨g, 2, none⟩ = some (.int .i64 2) := o4.cellAt 2 (by omega)
  have HX4 := Lib.hid hX4
  have HNM := Lib.hid (fun (k : Int) => bname_any k w4 (HN.out.up HB4.out))
  have HF0 : Hid (Calls Tryd.prog 54 #[.int .i64 0, .int .i64 10] w4 fun e w' => e = .returned (.string ⟨#[48]⟩) ∧ w4 = w') := Lib.hid (fmt_one 0 (by decide) w4)
  have HF1 : Hid (Calls Tryd.prog 54 #[.int .i64 1, .int .i64 10] w4 fun e w' => e = .returned (.string ⟨#[49]⟩) ∧ w4 = w') := Lib.hid (fmt_one 1 (by decide) w4)
  have HF2 : Hid (Calls Tryd.prog 54 #[.int .i64 2, .int .i64 10] w4 fun e w' => e = .returned (.string ⟨#[50]⟩) ∧ w4 = w') := Lib.hid (fmt_one 2 (by decide) w4)
  clear g4 b4 hX4 o4 o3 o3a
  go_wp2_with fail
  refine wp_loop_rounds 1 ?_
  rw [rounds_succ]
  go_wp2_with fail
  refine (HNM.out 2).mono ?_
  rintro e w5 ⟨rfl, rfl⟩
  have hnm : nameB 2 = ⟨#[114, 101, 102, 117, 115, 101]⟩ := rfl
  rw [hnm]
  go_wp2_with fail
  refine wp_loop_rounds 4 ?_
  rw [rounds_succ]
  go_wp2_with fail
  refine HF1.out.mono ?_
  rintro e w5 ⟨rfl, rfl⟩
  go_wp2_with fail
  rw [rounds_succ]
  go_wp2_with fail
  refine HF0.out.mono ?_
  rintro e w5 ⟨rfl, rfl⟩
  go_wp2_with fail
  rw [rounds_succ]
  go_wp2_with fail
  refine HF2.out.mono ?_
  rintro e w5 ⟨rfl, rfl⟩
  go_wp2_with fail
  rw [rounds_succ]
  go_wp2_with fail
  go_ret2
  exact ⟨rfl, HB4.out⟩
theorem hexU0 (h : 0 < ((⟨#[48, 49, 50, 51, 52, 53, 54, 55, 56, 57, 97, 98, 99, 100, 101, 102]⟩ : ByteArray)).size) : Utf8.encode ((((⟨#[48, 49, 50, 51, 52, 53, 54, 55, 56, 57, 97, 98, 99, 100, 101, 102]⟩ : ByteArray)[0]'h).toNat : Nat) : Int) = ⟨#[48]⟩ := by kernel_rfl
theorem hexU10 (h : 10 < ((⟨#[48, 49, 50, 51, 52, 53, 54, 55, 56, 57, 97, 98, 99, 100, 101, 102]⟩ : ByteArray)).size) : Utf8.encode ((((⟨#[48, 49, 50, 51, 52, 53, 54, 55, 56, 57, 97, 98, 99, 100, 101, 102]⟩ : ByteArray)[10]'h).toNat : Nat) : Int) = ⟨#[97]⟩ := by kernel_rfl
theorem hexU15 (h : 15 < ((⟨#[48, 49, 50, 51, 52, 53, 54, 55, 56, 57, 97, 98, 99, 100, 101, 102]⟩ : ByteArray)).size) : Utf8.encode ((((⟨#[48, 49, 50, 51, 52, 53, 54, 55, 56, 57, 97, 98, 99, 100, 101, 102]⟩ : ByteArray)[15]'h).toNat : Nat) : Int) = ⟨#[102]⟩ := by kernel_rfl
def lineN : ActP := ⟨7, 0, 0, [], 0, 0, 0, 0, [10, 255]⟩
theorem lineN_may : mayA lineN = true := by decide
theorem lineN_ok : lineN.ok := by
  unfold ActP.ok lineN
  simp [Reg16, Byte8]
set_option maxHeartbeats 2000000 in
theorem line_7 (w : World) (hN : NamesT w) (D : Option Addr) (cd : Nat) (hS : SlI w w.heap.size .u8 D 2 cd [10, 255]) :
    Calls Tryd.prog 20 #[.agg #[.int .i64 7, .int .i64 0, .int .i64 0, .slice none 0 0, .int .i64 0, .int .i64 0, .int .i64 0, .int .u8 0, .slice D 2 cd]] w fun e w' => e = .returned (.tuple #[.string ⟨#[110, 111, 105, 115, 101, 32, 48, 32, 48, 32, 120, 48, 97, 102, 102]⟩, .int .i64 0]) ∧ Below w.heap.size w w' := by
  obtain ⟨w1, hw1⟩ : ∃ W, w.alloc (.cells #[.int .i64 7, .int .i64 0, .int .i64 0, .slice none 0 0, .int .i64 0, .int .i64 0, .int .i64 0, .int .u8 0, .slice D 2 cd] 29) = W := ⟨_, rfl⟩
  have b1 : Below w.heap.size w w1 := by rw [← hw1]; exact (Below.refl _ w).alloc (Nat.le_refl _) _
  have hX1 : Held w1 w.heap.size 29 #[.int .i64 7, .int .i64 0, .int .i64 0, .slice none 0 0, .int .i64 0, .int .i64 0, .int .i64 0, .int .u8 0, .slice D 2 cd] := by rw [← hw1]; exact Held.new w _ _
  have hc := (bcheck_any (.agg #[.int .i64 7, .int .i64 0, .int .i64 0, .slice none 0 0, .int .i64 0, .int .i64 0, .int .i64 0, .int .u8 0, .slice D 2 cd]) lineN w1 (hN.up b1) ⟨none, 0, 0, D, 2, cd, rfl, SlI.nil _ _ _, hS.up b1⟩ lineN_ok)
  simp only [lineN_may, if_true] at hc
  have HC := Lib.hid hc
  clear hc
  have HX1 := Lib.hid hX1
  have HB1 := Lib.hid b1
  have HN := Lib.hid hN
  have HS := Lib.hid (fun (V : World) (h : Below w.heap.size w V) => hS.up h)
  have x0 : w1.cell? ⟨w.heap.size, 0, none⟩ = some (.int .i64 7) := hX1.cell 0
  have x1 : w1.cell? ⟨w.heap.size, 1, none⟩ = some (.int .i64 0) := hX1.cell 1
  have x2 : w1.cell? ⟨w.heap.size, 2, none⟩ = some (.int .i64 0) := hX1.cell 2
  have x3 : w1.cell? ⟨w.heap.size, 3, none⟩ = some (.slice none 0 0) := hX1.cell 3
  have x4 : w1.cell? ⟨w.heap.size, 4, none⟩ = some (.int .i64 0) := hX1.cell 4
  have x5 : w1.cell? ⟨w.heap.size, 5, none⟩ = some (.int .i64 0) := hX1.cell 5
  have x6 : w1.cell? ⟨w.heap.size, 6, none⟩ = some (.int .i64 0) := hX1.cell 6
  have x7 : w1.cell? ⟨w.heap.size, 7, none⟩ = some (.int .u8 0) := hX1.cell 7
  have x8 : w1.cell? ⟨w.heap.size, 8, none⟩ = some (.slice D 2 cd) := hX1.cell 8
  clear hX1 b1 hN hS
  go_in
  go_wp2_with fail
  refine HC.out.mono ?_
  rintro e w2 ⟨rfl, b2⟩
  have hX2 := HX1.out.below b2 HX1.out.lt
  have HB2 := Lib.hid (HB1.out.trans (b2.mono HB1.out.size))
  have hz2 := (HB1.out.trans (b2.mono HB1.out.size)).size
  have lt2 := hX2.lt
  have x0 : w2.cell? ⟨w.heap.size, 0, none⟩ = some (.int .i64 7) := hX2.cell 0
  have x1 : w2.cell? ⟨w.heap.size, 1, none⟩ = some (.int .i64 0) := hX2.cell 1
  have x2 : w2.cell? ⟨w.heap.size, 2, none⟩ = some (.int .i64 0) := hX2.cell 2
  have x3 : w2.cell? ⟨w.heap.size, 3, none⟩ = some (.slice none 0 0) := hX2.cell 3
  have x4 : w2.cell? ⟨w.heap.size, 4, none⟩ = some (.int .i64 0) := hX2.cell 4
  have x8 : w2.cell? ⟨w.heap.size, 8, none⟩ = some (.slice D 2 cd) := hX2.cell 8
  have HX2 := Lib.hid hX2
  clear b2 hX2
  obtain ⟨w3, hw3⟩ : ∃ W, w2.alloc (.cells #[.int .i64 0, .int .i64 0] 2) = W := ⟨_, rfl⟩
  have hX3 : Held w3 w.heap.size 29 #[.int .i64 7, .int .i64 0, .int .i64 0, .slice none 0 0, .int .i64 0, .int .i64 0, .int .i64 0, .int .u8 0, .slice D 2 cd] := by rw [← hw3]; exact HX2.out.alloc _
  have HB3 : Hid (Below w.heap.size w w3) := Lib.hid (by rw [← hw3]; exact HB2.out.alloc (by omega) _)
  have hL3 : Held w3 w2.heap.size 2 #[.int .i64 0, .int .i64 0] := by rw [← hw3]; exact Held.new w2 _ _
  have x0 : w3.cell? ⟨w.heap.size, 0, none⟩ = some (.int .i64 7) := hX3.cell 0
  have x3 : w3.cell? ⟨w.heap.size, 3, none⟩ = some (.slice none 0 0) := hX3.cell 3
  have x8 : w3.cell? ⟨w.heap.size, 8, none⟩ = some (.slice D 2 cd) := hX3.cell 8
  have r0 : w3.cell? ⟨w2.heap.size, 0, none⟩ = some (.int .i64 0) := hL3.cell 0
  have r1 : w3.cell? ⟨w2.heap.size, 1, none⟩ = some (.int .i64 0) := hL3.cell 1
  obtain ⟨g, o, hD, hg, hc⟩ := (HS.out w3 HB3.out).2.2.2.2 (by simp)
  subst hD
  have d0 : w3.cell? ⟨g, o, none⟩ = some (.int .u8 10) := hc 0 10 rfl
  have d1 : w3.cell? ⟨g, o + 1, none⟩ = some (.int .u8 255) := hc 1 255 rfl
  have HNM := Lib.hid (fun (k : Int) => bname_any k w3 (HN.out.up HB3.out))
  have HF0 : Hid (Calls Tryd.prog 54 #[.int .i64 0, .int .i64 10] w3 fun e w' => e = .returned (.string ⟨#[48]⟩) ∧ w3 = w') := Lib.hid (fmt_one 0 (by decide) w3)
  have HW3 := Lib.hid hw3
  clear hX3 hw3 hL3 hc
  go_upto_region 14 with (fail)
  rw [HW3.out]
  go_wp2_with fail
  refine wp_loop_rounds 1 ?_
  rw [rounds_succ]
  go_wp2_with fail
  refine (HNM.out 7).mono ?_
  rintro e w5 ⟨rfl, rfl⟩
  have hnm : nameB 7 = ⟨#[110, 111, 105, 115, 101]⟩ := rfl
  rw [hnm]
  go_wp2_with fail
  refine wp_loop_rounds 3 ?_
  rw [rounds_succ]
  go_wp2_with fail
  refine HF0.out.mono ?_
  rintro e w5 ⟨rfl, rfl⟩
  go_wp2_with fail
  rw [rounds_succ]
  go_wp2_with fail
  refine HF0.out.mono ?_
  rintro e w5 ⟨rfl, rfl⟩
  go_wp2_with fail
  rw [rounds_succ]
  go_wp2_with fail
  refine wp_loop_rounds 3 ?_
  rw [rounds_succ]
  go_upto_region 30 with (fail)
  have e0 := hexU0 (by decide)
  have e10 := hexU10 (by decide)
  have e15 := hexU15 (by decide)
  go_region
  go_wp2_with fail
  rw [rounds_succ]
  go_upto_region 30 with (fail)
  go_region
  go_wp2_with fail
  rw [rounds_succ]
  go_wp2_with fail
  go_ret2
  exact ⟨rfl, HB3.out.drew.drew⟩
end Go.Proofs.YtcipleanckeoaaaDoor
