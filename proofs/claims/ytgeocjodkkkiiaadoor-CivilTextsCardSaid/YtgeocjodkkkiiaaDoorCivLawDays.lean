/- The law CivilDays: its walk. -/
import Derived.Test.YtgeocjodkkkiiaaDoorCivEq
namespace Go.Proofs.YtgeocjodkkkiiaaDoor
open Go.RowKit

theorem of_in (n : Int) (h0 : 0 ≤ n) (h1 : n ≤ 2932896) (w : World) (T : Lens w) : Calls Tryd.prog 14 #[.int .i64 n] w fun e w' => (∃ y m d, IsD n y m d ∧ e = .returned (.tuple #[.agg #[.int .i64 y, .int .i64 m, .int .i64 d], .int .i64 0])) ∧ Below w.heap.size w w' :=
  (callsIn_wide (n := 6)).1 (of_yes n h0 h1 w T)

set_option maxRecDepth 100000 in
set_option maxHeartbeats 4000000 in
theorem law_days (y m d n : Int) (w : World) (T : Lens w) : Calls Tryd.prog 3 #[.agg #[.int .i64 y, .int .i64 m, .int .i64 d], .int .i64 n] w fun e w' => e = .returned (.bool true) ∧ Below w.heap.size w w' := by
  obtain ⟨b, hb⟩ : ∃ b, mayB y m d = b := ⟨_, rfl⟩
  have dg := date_guard
  have HB := Lib.hid hb
  have HE := Lib.hid (show dayE y m d = if b = true then 0 else 60 by rw [← hb]; rfl)
  have HT := Lib.hid T
  clear hb T
  by_cases hr : 0 ≤ n ∧ n ≤ 2932896
  · obtain ⟨hr0, hr1⟩ := hr
    cases b
    all_goals
      go_in
      go_wp2_with (go_at_call 10; refine (may_ref y m d _).mono ?_; rintro e w' ⟨rfl, rfl⟩; rw [HB.out])
      refine (check_own y m d _ (HT.out.alloc _)).mono ?_
      rintro e w1 ⟨rfl, hb1⟩
      rw [HE.out]
      have hA1 := (Held.new w 23 #[.int .i64 y, .int .i64 m, .int .i64 d]).below hb1 (by simp)
      have hB1 : Below w.heap.size w w1 := below_step (below_alloc (Below.refl _ _) _) hb1
      have hz1 : w.heap.size < w1.heap.size := by have := hb1.size; simp at this; omega
      have a0 := hA1.cell 0
      have a1 := hA1.cell 1
      have a2 := hA1.cell 2
      simp only [List.getElem?_toArray, List.getElem?_cons_zero, List.getElem?_cons_succ] at a0 a1 a2
      clear hb1
      go_wp2_with fail
      refine (day_own y m d _ (HT.out.up hB1)).mono ?_
      rintro e w2 ⟨rfl, hb2⟩
      have hA2 := hA1.below hb2 hz1
      have hB2 : Below w.heap.size w w2 := below_step hB1 hb2
      have hz2 : w.heap.size < w2.heap.size := by have := hb2.size; omega
      clear a0 a1 a2 hb2 hA1 hB1 hz1
      have a0 := hA2.cell 0
      have a1 := hA2.cell 1
      have a2 := hA2.cell 2
      simp only [List.getElem?_toArray, List.getElem?_cons_zero, List.getElem?_cons_succ] at a0 a1 a2
      rw [HE.out]
      go_wp2_with fail
      refine (day_ref y m d _).mono ?_
      rintro e w' ⟨rfl, rfl⟩
      rw [HE.out]
      go_wp2_with fail
      refine (of_in n hr0 hr1 _ (HT.out.up hB2)).mono ?_
      rintro e w3 ⟨⟨y1, m1, d1, hi1, rfl⟩, hb3⟩
      have hA3 := hA2.below hb3 hz2
      have hB3 : Below w.heap.size w w3 := below_step hB2 hb3
      clear a0 a1 a2 hb3 hA2 hB2
      have a0 := hA3.cell 0
      have a1 := hA3.cell 1
      simp only [List.getElem?_toArray, List.getElem?_cons_zero, List.getElem?_cons_succ] at a0 a1
      go_wp2_with fail
      refine (rof_yes n hr0 hr1 _).mono ?_
      rintro e w' ⟨⟨y2, m2, d2, hi2, rfl⟩, rfl⟩
      obtain ⟨rfl, rfl, rfl⟩ := isD_one hi1 hi2
      have de := fun (w : World) => date_same w y1 m1 d1
      clear hi1 hi2
      have hX := Held.new w3 23 #[.int .i64 y1, .int .i64 m1, .int .i64 d1]
      have hA4 := hA3.alloc (Obj.cells #[.int .i64 y1, .int .i64 m1, .int .i64 d1] 23)
      have hB4 := below_alloc hB3 (Obj.cells #[.int .i64 y1, .int .i64 m1, .int .i64 d1] 23)
      go_wp2_with fail
      clear a0 a1 hA3
      generalize w3.alloc (Obj.cells #[.int .i64 y1, .int .i64 m1, .int .i64 d1] 23) = w4 at hX hA4 hB4 ⊢
      have hT4 := Lib.hid (HT.out.up hB4)
      have a0 := hA4.cell 0
      have a1 := hA4.cell 1
      have x0 := hX.cell 0
      have x1 := hX.cell 1
      have x2 := hX.cell 2
      simp only [List.getElem?_toArray, List.getElem?_cons_zero, List.getElem?_cons_succ] at a0 a1 x0 x1 x2
      go_quiet ((first
        | (go_at_call 16; exact quiet_left (leap_own y _))
        | (go_at_call 17; exact quiet_left (leap_ref y _))
        | (go_at_call 18; exact quiet_left (days_own y m _ (by exact hT4.out.drewN _)))
        | (go_at_call 19; exact quiet_left (days_ref y m _))
        | (go_at_call 20; exact quiet_left (weekday_own n _))
        | (go_at_call 21; exact quiet_left (weekday_ref n _))))
      go_wp2
      go_ret
      exact ⟨rfl, below_drewN hB4 _⟩
  · replace hr : n < 0 ∨ 2932896 < n := by omega
    cases b
    all_goals
      go_in
      go_wp2_with (go_at_call 10; refine (may_ref y m d _).mono ?_; rintro e w' ⟨rfl, rfl⟩; rw [HB.out])
      refine (check_own y m d _ (HT.out.alloc _)).mono ?_
      rintro e w1 ⟨rfl, hb1⟩
      rw [HE.out]
      have hA1 := (Held.new w 23 #[.int .i64 y, .int .i64 m, .int .i64 d]).below hb1 (by simp)
      have hB1 : Below w.heap.size w w1 := below_step (below_alloc (Below.refl _ _) _) hb1
      have hz1 : w.heap.size < w1.heap.size := by have := hb1.size; simp at this; omega
      have a0 := hA1.cell 0
      have a1 := hA1.cell 1
      have a2 := hA1.cell 2
      simp only [List.getElem?_toArray, List.getElem?_cons_zero, List.getElem?_cons_succ] at a0 a1 a2
      clear hb1
      go_wp2_with fail
      refine (day_own y m d _ (HT.out.up hB1)).mono ?_
      rintro e w2 ⟨rfl, hb2⟩
      have hA2 := hA1.below hb2 hz1
      have hB2 : Below w.heap.size w w2 := below_step hB1 hb2
      have hz2 : w.heap.size < w2.heap.size := by have := hb2.size; omega
      clear a0 a1 a2 hb2 hA1 hB1 hz1
      have a0 := hA2.cell 0
      have a1 := hA2.cell 1
      have a2 := hA2.cell 2
      simp only [List.getElem?_toArray, List.getElem?_cons_zero, List.getElem?_cons_succ] at a0 a1 a2
      rw [HE.out]
      go_wp2_with fail
      refine (day_ref y m d _).mono ?_
      rintro e w' ⟨rfl, rfl⟩
      rw [HE.out]
      go_wp2_with fail
      refine (of_no n hr _).mono ?_
      rintro e w3 ⟨rfl, hb3⟩
      have hA3 := hA2.below hb3 hz2
      have hB3 : Below w.heap.size w w3 := below_step hB2 hb3
      clear a0 a1 a2 hb3 hA2 hB2
      have a0 := hA3.cell 0
      have a1 := hA3.cell 1
      simp only [List.getElem?_toArray, List.getElem?_cons_zero, List.getElem?_cons_succ] at a0 a1
      go_wp2_with fail
      refine (rof_no n hr _).mono ?_
      rintro e w' ⟨rfl, rfl⟩
      have de := fun (w : World) => date_same w 0 0 0
      have hX := Held.new w3 23 #[.int .i64 0, .int .i64 0, .int .i64 0]
      have hA4 := hA3.alloc (Obj.cells #[.int .i64 0, .int .i64 0, .int .i64 0] 23)
      have hB4 := below_alloc hB3 (Obj.cells #[.int .i64 0, .int .i64 0, .int .i64 0] 23)
      go_wp2_with fail
      clear a0 a1 hA3
      generalize w3.alloc (Obj.cells #[.int .i64 0, .int .i64 0, .int .i64 0] 23) = w4 at hX hA4 hB4 ⊢
      have hT4 := Lib.hid (HT.out.up hB4)
      have a0 := hA4.cell 0
      have a1 := hA4.cell 1
      have x0 := hX.cell 0
      have x1 := hX.cell 1
      have x2 := hX.cell 2
      simp only [List.getElem?_toArray, List.getElem?_cons_zero, List.getElem?_cons_succ] at a0 a1 x0 x1 x2
      go_quiet ((first
        | (go_at_call 16; exact quiet_left (leap_own y _))
        | (go_at_call 17; exact quiet_left (leap_ref y _))
        | (go_at_call 18; exact quiet_left (days_own y m _ (by exact hT4.out.drewN _)))
        | (go_at_call 19; exact quiet_left (days_ref y m _))
        | (go_at_call 20; exact quiet_left (weekday_own n _))
        | (go_at_call 21; exact quiet_left (weekday_ref n _))))
      go_wp2
      go_ret
      exact ⟨rfl, below_drewN hB4 _⟩
end Go.Proofs.YtgeocjodkkkiiaaDoor
