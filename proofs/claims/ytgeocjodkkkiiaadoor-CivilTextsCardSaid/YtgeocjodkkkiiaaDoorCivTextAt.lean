/- civil.TextAt. -/
import Derived.Test.YtgeocjodkkkiiaaDoorCivText
namespace Go.Proofs.YtgeocjodkkkiiaaDoor
open Go.RowKit

def momL (y m d h mi s : Int) : List Int := dateL y m d ++ [84] ++ clockL h mi s
theorem okB_iff (y m d h mi s : Int) : okB y m d h mi s = true ↔ mayB y m d = true ∧ 0 ≤ h ∧ h < 24 ∧ 0 ≤ mi ∧ mi < 60 ∧ 0 ≤ s ∧ s < 60 := by
  simp [okB, clockB]

theorem textat_no (y m d h mi s : Int) (w : World) (T : Lens w) (hk : okB y m d h mi s = false) : Calls Tryd.prog 30 #[.agg #[.int .i64 y, .int .i64 m, .int .i64 d, .int .i64 h, .int .i64 mi, .int .i64 s]] w fun e w' => e = .returned (.tuple #[.string ⟨#[]⟩, .int .i64 60]) ∧ Below w.heap.size w w' := by
  have HE := Lib.hid (show insV y m d h mi s = 0 ∧ insE y m d h mi s = 60 by simp [insV, insE, hk])
  have HT := Lib.hid T
  clear hk T
  go_in
  go_wp2_with fail
  refine (instant_own y m d h mi s _ (HT.out.alloc _)).mono ?_
  rintro e w1 ⟨rfl, hb1⟩
  rw [HE.out.1, HE.out.2]
  go_wp2_with fail
  go_ret2
  exact ⟨rfl, below_step (below_alloc (Below.refl _ _) _) hb1⟩

set_option maxRecDepth 100000 in
set_option maxHeartbeats 4000000 in
theorem textat_yes (y m d h mi s : Int) (w : World) (T : Lens w) (hP : P10 w) (hk : okB y m d h mi s = true) : Calls Tryd.prog 30 #[.agg #[.int .i64 y, .int .i64 m, .int .i64 d, .int .i64 h, .int .i64 mi, .int .i64 s]] w fun e w' => e = .returned (.tuple #[.string (strU (momL y m d h mi s)), .int .i64 0]) ∧ Below w.heap.size w w' := by
  have HE := Lib.hid (show insE y m d h mi s = 0 by simp [insE, hk])
  obtain ⟨hm, b1, b2, b3, b4, b5, b6⟩ := (okB_iff y m d h mi s).1 hk
  have hm := (mayB_iff y m d).1 hm
  have hdn := daysN_in y m
  have HT := Lib.hid T
  have HPP := Lib.hid hP
  clear T hP hk
  obtain ⟨h1, h2, h3, h4, h5, h6⟩ := hm
  go_in
  go_wp2_with fail
  refine (instant_own y m d h mi s _ (HT.out.alloc _)).mono ?_
  rintro e w1 ⟨rfl, hb1⟩
  rw [HE.out]
  have hA := (Held.new w 41 #[.int .i64 y, .int .i64 m, .int .i64 d, .int .i64 h, .int .i64 mi, .int .i64 s]).below hb1 (by simp)
  have hB := below_step (below_alloc (Below.refl w.heap.size w) (Obj.cells #[.int .i64 y, .int .i64 m, .int .i64 d, .int .i64 h, .int .i64 mi, .int .i64 s] 41)) hb1
  have hz : w.heap.size < w1.heap.size := by have := hb1.size; simp at this; omega
  clear hb1
  have a0 := hA.cell 0
  have a1 := hA.cell 1
  have a2 := hA.cell 2
  simp only [List.getElem?_toArray, List.getElem?_cons_zero, List.getElem?_cons_succ] at a0 a1 a2
  have hP1 : P10 w1.drew := tabIs_up HPP.out hB.drew
  have HDL := Lib.hid (show momL y m d h mi s = fourL y ++ [45] ++ twoL m ++ [45] ++ twoL d ++ [84] ++ (twoL h ++ [58] ++ twoL mi ++ [58] ++ twoL s) from rfl)
  have C4 := Lib.hid (digits_four y (by omega) (by omega) w1.drew hP1)
  have C2 := Lib.hid (fun W => digits_two m (by omega) (by omega) W)
  have C3 := Lib.hid (fun W => digits_two d (by omega) (by omega) W)
  have C5 := Lib.hid (fun W => digits_two h (by omega) (by omega) W)
  have C6 := Lib.hid (fun W => digits_two mi (by omega) (by omega) W)
  have C7 := Lib.hid (fun W => digits_two s (by omega) (by omega) W)
  have s1 : (strU (fourL y)).size ≤ 10 := by rw [strU_size]; exact (by decide : 4 ≤ 10)
  have s2 : (strU (twoL m)).size ≤ 10 := by rw [strU_size]; exact (by decide : 2 ≤ 10)
  have s3 : (strU (twoL d)).size ≤ 10 := by rw [strU_size]; exact (by decide : 2 ≤ 10)
  have s5 : (strU (twoL h)).size ≤ 10 := by rw [strU_size]; exact (by decide : 2 ≤ 10)
  have s6 : (strU (twoL mi)).size ≤ 10 := by rw [strU_size]; exact (by decide : 2 ≤ 10)
  have s7 : (strU (twoL s)).size ≤ 10 := by rw [strU_size]; exact (by decide : 2 ≤ 10)
  generalize fourL y = A at HDL C4 s1
  generalize twoL m = Bm at HDL C2 s2
  generalize twoL d = Cd at HDL C3 s3
  generalize twoL h = Eh at HDL C5 s5
  generalize twoL mi = Fm at HDL C6 s6
  generalize twoL s = Gs at HDL C7 s7
  have n1 : ¬ 9223372036854775807 < (strU A).size + 1 := by omega
  have n2 : ¬ 9223372036854775807 < (strU A).size + 1 + (strU Bm).size := by omega
  have n3 : ¬ 9223372036854775807 < (strU A).size + 1 + (strU Bm).size + 1 := by omega
  have n4 : ¬ 9223372036854775807 < (strU A).size + 1 + (strU Bm).size + 1 + (strU Cd).size := by omega
  have n5 : ¬ 9223372036854775807 < (strU A).size + 1 + (strU Bm).size + 1 + (strU Cd).size + 1 := by omega
  have n6 : ¬ 9223372036854775807 < (strU A).size + 1 + (strU Bm).size + 1 + (strU Cd).size + 1 + (strU Eh).size := by omega
  have n7 : ¬ 9223372036854775807 < (strU A).size + 1 + (strU Bm).size + 1 + (strU Cd).size + 1 + (strU Eh).size + 1 := by omega
  have n8 : ¬ 9223372036854775807 < (strU A).size + 1 + (strU Bm).size + 1 + (strU Cd).size + 1 + (strU Eh).size + 1 + (strU Fm).size := by omega
  have n9 : ¬ 9223372036854775807 < (strU A).size + 1 + (strU Bm).size + 1 + (strU Cd).size + 1 + (strU Eh).size + 1 + (strU Fm).size + 1 := by omega
  have n10 : ¬ 9223372036854775807 < (strU A).size + 1 + (strU Bm).size + 1 + (strU Cd).size + 1 + (strU Eh).size + 1 + (strU Fm).size + 1 + (strU Gs).size := by omega
  clear s1 s2 s3 s5 s6 s7
  go_wp2_with fail
  go_region_held3 (fun w' => w'.cell? ⟨w.heap.size, 0, none⟩ = some (.int .i64 y) ∧ w'.cell? ⟨w.heap.size, 1, none⟩ = some (.int .i64 m) ∧ w'.cell? ⟨w.heap.size, 2, none⟩ = some (.int .i64 d))
    (first
      | go_keep
      | (refine ⟨(hb4.cell (p := ⟨w.heap.size, 0, none⟩) (by simpa using hz)).trans a0, (hb4.cell (p := ⟨w.heap.size, 1, none⟩) (by simpa using hz)).trans a1, (hb4.cell (p := ⟨w.heap.size, 2, none⟩) (by simpa using hz)).trans a2⟩))
    (first
      | (go_at_call 38; (with_reducible refine (C2.out _).mono ?_); rintro e w' ⟨rfl, rfl⟩)
      | (go_at_call 38; (with_reducible refine (C3.out _).mono ?_); rintro e w' ⟨rfl, rfl⟩)
      | (go_at_call 38; (with_reducible refine C4.out.mono ?_); rintro e w4 ⟨rfl, hb4⟩))
  all_goals
    have hA4 := (show Held w1.drew w.heap.size 41 #[.int .i64 y, .int .i64 m, .int .i64 d, .int .i64 h, .int .i64 mi, .int .i64 s] from hA).below hb4 hz
    have a3 := hA4.cell 3
    have a4 := hA4.cell 4
    have a5 := hA4.cell 5
    simp only [List.getElem?_toArray, List.getElem?_cons_zero, List.getElem?_cons_succ] at a3 a4 a5
    go_wp2_with fail
    go_quiet ((first
      | (go_at_call 38; with_reducible exact quiet_left (C5.out _))
      | (go_at_call 38; with_reducible exact quiet_left (C6.out _))
      | (go_at_call 38; with_reducible exact quiet_left (C7.out _))))
    go_wp2
    go_ret2
    refine ⟨?_, below_drewN (hB.drew.trans (hb4.mono hB.size)) _⟩
    rw [HDL.out]
    simp only [← strU_append, ByteArray.append_assoc]
    rfl
end Go.Proofs.YtgeocjodkkkiiaaDoor
