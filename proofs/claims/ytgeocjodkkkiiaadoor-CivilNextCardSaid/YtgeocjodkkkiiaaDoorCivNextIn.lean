/- The law CivilNext within its days: its walk. -/
import Derived.Test.YtgeocjodkkkiiaaDoorCivNext
namespace Go.Proofs.YtgeocjodkkkiiaaDoor
open Go.RowKit

set_option maxRecDepth 100000 in
set_option maxHeartbeats 8000000 in
theorem law_next_in (n : Int) (h0 : 0 ≤ n) (h1 : n < 2932896) (w : World) (T : Lens w) : Calls Tryd.prog 4 #[.int .i64 n] w fun e w' => e = .returned (.bool true) ∧ Below w.heap.size w w' := by
  have HT := Lib.hid T
  clear T
  have dg := date_guard
  obtain ⟨hw1, hw2, hw3, hw4⟩ := wd_facts n h0 h1
  have HW4 := Lib.hid hw4
  have g0 : decide (2932896 ≤ n) = false := by simp; omega
  clear hw4
  go_in
  go_wp2_with fail
  refine (alive_any _ HT.out).mono ?_
  rintro e w1 ⟨rfl, hb1⟩
  go_wp2_with fail
  refine (of_in n h0 (by omega) _ (HT.out.up hb1)).mono ?_
  rintro e w2 ⟨⟨y, m, d, hi, rfl⟩, hb2⟩
  have hB2 := below_step hb1 hb2
  have HNX := Lib.hid (next_is n y m d hi h1)
  have hmay := (mayB_iff y m d).1 hi.1
  obtain ⟨m1, m2, m3, m4, m5, m6⟩ := hmay
  have hdb := daysN_in y m
  clear hi hb1 hb2
  go_wp2_with fail
  have hA := Held.new w2 23 #[.int .i64 y, .int .i64 m, .int .i64 d]
  have hB3 := below_alloc hB2 (Obj.cells #[.int .i64 y, .int .i64 m, .int .i64 d] 23)
  have hz3 : w2.heap.size < (w2.alloc (Obj.cells #[.int .i64 y, .int .i64 m, .int .i64 d] 23)).heap.size := by simp
  generalize w2.alloc (Obj.cells #[.int .i64 y, .int .i64 m, .int .i64 d] 23) = w3 at hA hB3 hz3 ⊢
  refine (of_in (n + 1) (by omega) (by omega) _ (HT.out.up hB3)).mono ?_
  rintro e w4 ⟨⟨y', m', d', hi', rfl⟩, hb4⟩
  have hA4 := hA.below hb4 hz3
  have hB4 := below_step hB3 hb4
  have HI := Lib.hid hi'
  have hz4 : w2.heap.size < w4.heap.size := by have := hb4.size; omega
  clear hi' hA hB3 hb4
  have a0 := hA4.cell 0
  have a1 := hA4.cell 1
  have a2 := hA4.cell 2
  simp only [List.getElem?_toArray, List.getElem?_cons_zero, List.getElem?_cons_succ] at a0 a1 a2
  go_wp2_with fail
  have hX := Held.new w4 23 #[.int .i64 y', .int .i64 m', .int .i64 d']
  have hWt := Held.new (w4.alloc (Obj.cells #[.int .i64 y', .int .i64 m', .int .i64 d'] 23)) 23 #[.int .i64 y, .int .i64 m, .int .i64 (d + 1)]
  rw [World.size_alloc] at hWt
  have hA5 := (hA4.alloc (Obj.cells #[.int .i64 y', .int .i64 m', .int .i64 d'] 23)).alloc (Obj.cells #[.int .i64 y, .int .i64 m, .int .i64 (d + 1)] 23)
  have hX5 := hX.alloc (Obj.cells #[.int .i64 y, .int .i64 m, .int .i64 (d + 1)] 23)
  have hB5 := below_alloc (below_alloc hB4 (Obj.cells #[.int .i64 y', .int .i64 m', .int .i64 d'] 23)) (Obj.cells #[.int .i64 y, .int .i64 m, .int .i64 (d + 1)] 23)
  clear a0 a1 a2 hX hA4
  have hz := hB4.size
  clear hB4
  generalize (w4.alloc (Obj.cells #[.int .i64 y', .int .i64 m', .int .i64 d'] 23)).alloc (Obj.cells #[.int .i64 y, .int .i64 m, .int .i64 (d + 1)] 23) = w5 at hA5 hX5 hWt hB5 ⊢
  have hT5 := Lib.hid (HT.out.up hB5)
  have a0 := hA5.cell 0
  have a1 := hA5.cell 1
  have x0 := hX5.cell 0
  have x1 := hX5.cell 1
  have x2 := hX5.cell 2
  have t0 := hWt.cell 0
  have t1 := hWt.cell 1
  have t2 := hWt.cell 2
  simp only [List.getElem?_toArray, List.getElem?_cons_zero, List.getElem?_cons_succ] at a0 a1 x0 x1 x2 t0 t1 t2
  have f0 := hWt.frozen 0
  have f1 := hWt.frozen 1
  have f2 := hWt.frozen 2
  have hbw : w.heap.size ≤ w4.heap.size + 1 := by omega
  by_cases hd : daysN y m < d + 1
  · have gd : decide (daysN y m < d + 1) = true := by simpa using hd
    by_cases hm : 12 ≤ m
    · obtain rfl : m = 12 := by omega
      obtain ⟨rfl, rfl, rfl⟩ := isD_one (HNX.out.2.2 hd (by omega)) HI.out
      have de := fun (w : World) => date_same w (y + 1) 1 1
      have k1 : ∀ nq, ((((w5.drewN nq).setCell ⟨w4.heap.size + 1, 2, none⟩ (.int .i64 1)).setCell ⟨w4.heap.size + 1, 1, none⟩ (.int .i64 13)).setCell ⟨w4.heap.size + 1, 1, none⟩ (.int .i64 1)).cell? ⟨w4.heap.size + 1, 1, none⟩ = some (.int .i64 1) := fun nq => by
        have h5 : Held (w5.drewN nq) (w4.heap.size + 1) 23 #[.int .i64 y, .int .i64 12, .int .i64 (d + 1)] := hWt
        have := (((h5.set 2 (.int .i64 1)).set 1 (.int .i64 13)).set 1 (.int .i64 1)).cell 1
        simpa using this
      by_cases h7 : n + 7 ≤ 2932896
      · have hw7 := HW4.out h7
        have g7 : decide (2932896 < n + 7) = false := by simpa using h7
        go_quiet ((go_at_call 18; exact quiet_left (days_own _ _ _ (by exact hT5.out.drewN _))))
        go_wp2_with (go_at_call 20; refine (weekday_own _ _).mono ?_; rintro e w' ⟨rfl, rfl⟩)
        go_ret
        exact ⟨rfl, (((((below_drewN hB5 _).setCell (p := ⟨w4.heap.size + 1, 2, none⟩) hbw _).setCell (p := ⟨w4.heap.size + 1, 1, none⟩) hbw _).setCell (p := ⟨w4.heap.size + 1, 1, none⟩) hbw _).setCell (p := ⟨w4.heap.size + 1, 0, none⟩) hbw _)⟩
      · have g7 : decide (2932896 < n + 7) = true := by simp; omega
        go_quiet ((go_at_call 18; exact quiet_left (days_own _ _ _ (by exact hT5.out.drewN _))))
        go_wp2_with (go_at_call 20; refine (weekday_own _ _).mono ?_; rintro e w' ⟨rfl, rfl⟩)
        go_ret
        exact ⟨rfl, (((((below_drewN hB5 _).setCell (p := ⟨w4.heap.size + 1, 2, none⟩) hbw _).setCell (p := ⟨w4.heap.size + 1, 1, none⟩) hbw _).setCell (p := ⟨w4.heap.size + 1, 1, none⟩) hbw _).setCell (p := ⟨w4.heap.size + 1, 0, none⟩) hbw _)⟩
    · obtain ⟨rfl, rfl, rfl⟩ := isD_one (HNX.out.2.1 hd (by omega)) HI.out
      have de := fun (w : World) => date_same w y (m + 1) 1
      have gm : decide (12 < m + 1) = false := by simp; omega
      by_cases h7 : n + 7 ≤ 2932896
      · have hw7 := HW4.out h7
        have g7 : decide (2932896 < n + 7) = false := by simpa using h7
        go_quiet ((go_at_call 18; exact quiet_left (days_own _ _ _ (by exact hT5.out.drewN _))))
        go_wp2_with (go_at_call 20; refine (weekday_own _ _).mono ?_; rintro e w' ⟨rfl, rfl⟩)
        go_ret
        exact ⟨rfl, (((below_drewN hB5 _).setCell (p := ⟨w4.heap.size + 1, 2, none⟩) hbw _).setCell (p := ⟨w4.heap.size + 1, 1, none⟩) hbw _)⟩
      · have g7 : decide (2932896 < n + 7) = true := by simp; omega
        go_quiet ((go_at_call 18; exact quiet_left (days_own _ _ _ (by exact hT5.out.drewN _))))
        go_wp2_with (go_at_call 20; refine (weekday_own _ _).mono ?_; rintro e w' ⟨rfl, rfl⟩)
        go_ret
        exact ⟨rfl, (((below_drewN hB5 _).setCell (p := ⟨w4.heap.size + 1, 2, none⟩) hbw _).setCell (p := ⟨w4.heap.size + 1, 1, none⟩) hbw _)⟩
  · obtain ⟨rfl, rfl, rfl⟩ := isD_one (HNX.out.1 (by omega)) HI.out
    have gd : decide (daysN y m < d + 1) = false := by simpa using hd
    have gm : decide (12 < m) = false := by simp; omega
    have de := fun (w : World) => date_same w y m (d + 1)
    by_cases h7 : n + 7 ≤ 2932896
    · have hw7 := HW4.out h7
      have g7 : decide (2932896 < n + 7) = false := by simpa using h7
      go_quiet ((go_at_call 18; exact quiet_left (days_own _ _ _ (by exact hT5.out.drewN _))))
      go_wp2_with (go_at_call 20; refine (weekday_own _ _).mono ?_; rintro e w' ⟨rfl, rfl⟩)
      go_ret
      exact ⟨rfl, below_drewN hB5 _⟩
    · have g7 : decide (2932896 < n + 7) = true := by simp; omega
      go_quiet ((go_at_call 18; exact quiet_left (days_own _ _ _ (by exact hT5.out.drewN _))))
      go_wp2_with (go_at_call 20; refine (weekday_own _ _).mono ?_; rintro e w' ⟨rfl, rfl⟩)
      go_ret
      exact ⟨rfl, below_drewN hB5 _⟩
end Go.Proofs.YtgeocjodkkkiiaaDoor
