/- The law CivilNths: its walk. -/
import Derived.Test.YtgeocjodkkkiiaaDoorCivNth
namespace Go.Proofs.YtgeocjodkkkiiaaDoor
open Go.RowKit

theorem nthB_no1 (y m k : Int) (h : nthB y m k 1 = true) : mayB y m 1 = true ∧ 1 ≤ k ∧ k ≤ 7 := by
  simp only [nthB, Bool.and_eq_true, decide_eq_true_eq] at h
  exact ⟨h.1.1, h.1.2.1, h.1.2.2.1⟩
theorem nthD_j (y m k : Int) (j : Nat) : nthD y m k ((j : Int) + 1) = firstW y m k + 7 * j := by
  unfold nthD whichN; rw [if_neg (by omega)]; omega
theorem nthD_last (y m k : Int) : nthD y m k (-1) = firstW y m k + 7 * ((daysN y m - firstW y m k) / 7) := by
  unfold nthD whichN; rw [if_pos rfl]; omega
theorem may_day (y m D : Int) (h : mayB y m 1 = true) : mayB y m D = decide (1 ≤ D ∧ D ≤ daysN y m) := by
  have h1 := (mayB_iff y m 1).1 h
  rw [Bool.eq_iff_iff]; simp [mayB]; omega
theorem nthB_j (y m k : Int) (h : mayB y m 1 = true) (k1 : 1 ≤ k) (k7 : k ≤ 7) (j : Nat) (hj : j < 5) : nthB y m k ((j : Int) + 1) = decide (firstW y m k + 7 * j ≤ daysN y m) := by
  have hf := firstW_in y m k
  unfold nthB
  rw [h, nthD_j, may_day _ _ _ h, Bool.eq_iff_iff]; simp; omega
theorem nthB_last (y m k : Int) (h : mayB y m 1 = true) (k1 : 1 ≤ k) (k7 : k ≤ 7) : nthB y m k (-1) = true := by
  have hf := firstW_in y m k
  have hm := (mayB_iff y m 1).1 h
  have hd := daysN_lo y m hm.2.2.1 hm.2.2.2.1
  unfold nthB
  rw [h, nthD_last, may_day _ _ _ h]; simp; omega
theorem nth_week (y m k : Int) (h : mayB y m 1 = true) (k1 : 1 ≤ k) (k7 : k ≤ 7) (j : Nat) (hd : firstW y m k + 7 * j ≤ daysN y m) : (wdN (numN y m (firstW y m k + 7 * j)) != k) = false := by
  have hf := firstW_in y m k
  have hM : mayB y m (firstW y m k + 7 * j) = true := by rw [may_day _ _ _ h]; simp; omega
  have hb := numN_bd _ _ _ hM
  have hb1 := numN_bd _ _ _ h
  have e : numN y m (firstW y m k + 7 * j) = numN y m 1 + firstW y m k + 7 * j - 1 := by unfold numN; omega
  have hw : wdN (numN y m 1) = (numN y m 1 + 3) % 7 + 1 := by unfold wdN; rw [if_neg (by omega)]
  have hw2 : wdN (numN y m (firstW y m k + 7 * j)) = (numN y m (firstW y m k + 7 * j) + 3) % 7 + 1 := by unfold wdN; rw [if_neg (by omega)]
  rw [hw2, e]
  unfold firstW
  rw [hw]
  simp
  omega

set_option maxRecDepth 100000 in
set_option maxHeartbeats 4000000 in
theorem law_nths_no (y m k : Int) (w : World) (T : Lens w) (h : nthB y m k 1 = false) : Calls Tryd.prog 6 #[.int .i64 y, .int .i64 m, .int .i64 k] w fun e w' => e = .returned (.bool true) ∧ Below w.heap.size w w' := by
  have HT := Lib.hid T
  have HN := Lib.hid h
  clear T h
  go_in
  go_wp2_with fail
  refine (alive_any _ HT.out).mono ?_
  rintro e w1 ⟨rfl, hb1⟩
  go_wp2_with fail
  refine (nth_own y m k 1 _ (HT.out.up hb1)).mono ?_
  rintro e w2 ⟨he, hb2⟩
  rw [HN.out, if_neg (by decide)] at he
  subst he
  go_wp2
  go_ret
  exact ⟨rfl, below_alloc (below_step hb1 hb2) _⟩

set_option maxRecDepth 100000 in
set_option maxHeartbeats 8000000 in
theorem law_nths_yes (y m k : Int) (w : World) (T : Lens w) (h : nthB y m k 1 = true) : Calls Tryd.prog 6 #[.int .i64 y, .int .i64 m, .int .i64 k] w fun e w' => e = .returned (.bool true) ∧ Below w.heap.size w w' := by
  obtain ⟨hmay, k1, k7⟩ := nthB_no1 y m k h
  have hf := firstW_in y m k
  have hmm := (mayB_iff y m 1).1 hmay
  have hdl := daysN_lo y m hmm.2.2.1 hmm.2.2.2.1
  have hdh := daysN_in y m
  clear hmm
  have HT := Lib.hid T
  have HN := Lib.hid h
  have HL := Lib.hid (nthB_last y m k hmay k1 k7)
  have HDL := Lib.hid (nthD_last y m k)
  have HDJ := Lib.hid (nthD_j y m k)
  have HBJ := Lib.hid (nthB_j y m k hmay k1 k7)
  have HWK := Lib.hid (nth_week y m k hmay k1 k7)
  have HMAY := Lib.hid (fun D => may_day y m D hmay)
  have H1 := Lib.hid (show nthD y m k 1 = firstW y m k from by have := nthD_j y m k 0; simpa using this)
  clear T h hmay
  generalize firstW y m k = F at hf HDL HDJ HBJ HWK H1
  obtain ⟨Lq, hLq⟩ : ∃ Lq, Lq = (daysN y m - F) / 7 := ⟨_, rfl⟩
  rw [← hLq] at HDL
  have hLb : 7 * Lq ≤ daysN y m - F ∧ daysN y m - F < 7 * Lq + 7 ∧ 3 ≤ Lq ∧ Lq ≤ 4 := by omega
  clear hLq
  go_in
  go_wp2_with fail
  refine (alive_any _ HT.out).mono ?_
  rintro e w1 ⟨rfl, hb1⟩
  go_wp2_with fail
  refine (nth_own y m k 1 _ (HT.out.up hb1)).mono ?_
  rintro e w2 ⟨he, hb2⟩
  rw [HN.out, if_pos rfl, H1.out] at he
  subst he
  have hB2 := below_step hb1 hb2
  have hX := Held.new w2 23 #[.int .i64 y, .int .i64 m, .int .i64 F]
  have hB3 := below_alloc hB2 (Obj.cells #[.int .i64 y, .int .i64 m, .int .i64 F] 23)
  have hz3 : w2.heap.size < (w2.alloc (Obj.cells #[.int .i64 y, .int .i64 m, .int .i64 F] 23)).heap.size := by simp
  clear hb1 hb2 hB2
  go_wp2_with fail
  generalize w2.alloc (Obj.cells #[.int .i64 y, .int .i64 m, .int .i64 F] 23) = w3 at hX hB3 hz3 ⊢
  refine (nth_own y m k (-1) _ (HT.out.up hB3)).mono ?_
  rintro e w4 ⟨he, hb4⟩
  rw [HL.out, if_pos rfl, HDL.out] at he
  subst he
  have hX4 := hX.below hb4 hz3
  have hB4 := below_step hB3 hb4
  have hz4 : w2.heap.size < w4.heap.size := by have := hb4.size; omega
  have hY := Held.new w4 23 #[.int .i64 y, .int .i64 m, .int .i64 (F + 7 * Lq)]
  have hX5 := hX4.alloc (Obj.cells #[.int .i64 y, .int .i64 m, .int .i64 (F + 7 * Lq)] 23)
  have hB5 := below_alloc hB4 (Obj.cells #[.int .i64 y, .int .i64 m, .int .i64 (F + 7 * Lq)] 23)
  have hz5 : w4.heap.size < (w4.alloc (Obj.cells #[.int .i64 y, .int .i64 m, .int .i64 (F + 7 * Lq)] 23)).heap.size := by simp
  clear hX hB3 hX4 hB4 hb4
  go_wp2_with fail
  generalize w4.alloc (Obj.cells #[.int .i64 y, .int .i64 m, .int .i64 (F + 7 * Lq)] 23) = w5 at hY hX5 hB5 hz5 ⊢
  go_loopw [12, 13] (fun x i wr => ∃ j : Nat, j ≤ 5 ∧ i = .int .i64 (j + 1) ∧ x = .int .i64 (if (j : Int) ≤ Lq + 1 then (j : Int) else Lq + 1) ∧ Held wr w2.heap.size 23 #[.int .i64 y, .int .i64 m, .int .i64 F] ∧ Held wr w4.heap.size 23 #[.int .i64 y, .int .i64 m, .int .i64 (F + 7 * Lq)] ∧ Below w.heap.size w wr ∧ w4.heap.size < wr.heap.size)
    (fun _ i _ => 6 - (intOf i).toNat)
  case atStart => exact ⟨0, by omega, rfl, by rw [if_pos (by omega)]; rfl, hX5, hY, hB5, hz5⟩
  case round =>
    obtain ⟨j, hj, rfl, rfl, hXr, hYr, hBr, hzr⟩ := hrel
    clear hX5 hY hB5 hz5
    by_cases hj5 : j < 5
    · by_cases hjL : (j : Int) ≤ Lq
      · have HD := Lib.hid (HDJ.out j)
        have HB : Hid (nthB y m k ((j : Int) + 1) = true) := by
          have := HBJ.out j hj5
          rw [this]; exact decide_eq_true (by omega)
        have hw := HWK.out j (by omega)
        have HM := Lib.hid (show dayE y m (F + 7 * j) = 0 ∧ dayV y m (F + 7 * j) = numN y m (F + 7 * j) by
          have : mayB y m (F + 7 * j) = true := by rw [HMAY.out]; simp; omega
          simp [dayE, dayV, this])
        go_wp2_with fail
        refine (nth_own y m k ((j : Int) + 1) _ (HT.out.up hBr)).mono ?_
        rintro e w6 ⟨he, hb6⟩
        rw [HB.out, if_pos rfl, HD.out] at he
        subst he
        have hX6 := hXr.below hb6 (by omega)
        have hY6 := hYr.below hb6 hzr
        have hB6 := below_step hBr hb6
        have hz6 : w4.heap.size < w6.heap.size := by have := hb6.size; omega
        clear hXr hYr hBr hb6
        go_wp2_with fail
        have hZ := Held.new w6 23 #[.int .i64 y, .int .i64 m, .int .i64 (F + 7 * j)]
        have hX7 := hX6.alloc (Obj.cells #[.int .i64 y, .int .i64 m, .int .i64 (F + 7 * j)] 23)
        have hY7 := hY6.alloc (Obj.cells #[.int .i64 y, .int .i64 m, .int .i64 (F + 7 * j)] 23)
        have hB7 := below_alloc hB6 (Obj.cells #[.int .i64 y, .int .i64 m, .int .i64 (F + 7 * j)] 23)
        have hz7 : w6.heap.size < (w6.alloc (Obj.cells #[.int .i64 y, .int .i64 m, .int .i64 (F + 7 * j)] 23)).heap.size := by simp
        clear hX6 hY6 hB6
        generalize w6.alloc (Obj.cells #[.int .i64 y, .int .i64 m, .int .i64 (F + 7 * j)] 23) = w7 at hZ hX7 hY7 hB7 hz7 ⊢
        refine (day_own y m (F + 7 * j) _ (HT.out.up hB7)).mono ?_
        rintro e w8 ⟨rfl, hb8⟩
        rw [HM.out.1, HM.out.2]
        have hX8 := hX7.below hb8 (by omega)
        have hY8 := hY7.below hb8 (by omega)
        have hZ8 := hZ.below hb8 hz7
        have hB8 := below_step hB7 hb8
        have hz8 : w4.heap.size < w8.heap.size := by have := hb8.size; omega
        clear hZ hX7 hY7 hB7 hb8
        have x2 := hX8.cell 2
        have z2 := hZ8.cell 2
        simp only [List.getElem?_toArray, List.getElem?_cons_zero, List.getElem?_cons_succ] at x2 z2
        have hsum : (F + 7 * (j : Int) != F + 7 * j) = false := by simp
        go_wp2_with (go_at_call 20; refine (weekday_own _ _).mono ?_; rintro e w' ⟨rfl, rfl⟩)
        go_roundw
        case rel => exact ⟨j + 1, by omega, by go_num, iv (by rw [if_pos (by omega)]; omega), hX8, hY8, hB8, hz8⟩
        case measure => simp [intOf]; omega
      · obtain rfl : j = 4 := by omega
        have HB : Hid (nthB y m k 5 = false) := by
          have := HBJ.out 4 hj5
          exact this.trans (decide_eq_false (by omega))
        go_wp2_with fail
        refine (nth_own y m k 5 _ (HT.out.up hBr)).mono ?_
        rintro e w6 ⟨he, hb6⟩
        rw [HB.out, if_neg (by decide)] at he
        subst he
        have hX6 := hXr.below hb6 (by omega)
        have hY6 := hYr.below hb6 hzr
        have hB6 := below_step hBr hb6
        have hz6 : w4.heap.size < w6.heap.size := by have := hb6.size; omega
        go_wp2_with fail
        go_roundw
        case rel => exact ⟨5, by omega, by go_num, iv (by rw [if_neg (by omega)]; omega), hX6.alloc _, hY6.alloc _, below_alloc hB6 _, by simp; omega⟩
        case measure => simp [intOf]
    · obtain rfl : j = 5 := by omega
      have hq : (if ((5 : Nat) : Int) ≤ Lq + 1 then ((5 : Nat) : Int) else Lq + 1) = Lq + 1 := by split <;> omega
      rw [hq]
      clear hq
      have x2 := hXr.cell 2
      have y2 := hYr.cell 2
      simp only [List.getElem?_toArray, List.getElem?_cons_zero, List.getElem?_cons_succ] at x2 y2
      have hTr := Lib.hid (HT.out.up hBr)
      have gl : decide (daysN y m < F + 7 * Lq + 7) = true := by simp; omega
      rcases (show Lq = 3 ∨ Lq = 4 by omega) with rfl | rfl
      all_goals
        go_wp2_with fail
        go_quiet ((go_at_call 18; exact quiet_left (days_own y m _ (by exact hTr.out.drewN _))))
        go_wp2
        go_ret
        exact ⟨retb (by simp; omega), below_drewN hBr _⟩

theorem law_nths (y m k : Int) (w : World) (T : Lens w) : Calls Tryd.prog 6 #[.int .i64 y, .int .i64 m, .int .i64 k] w fun e w' => e = .returned (.bool true) ∧ Below w.heap.size w w' := by
  cases h : nthB y m k 1 with
  | false => exact law_nths_no y m k w T h
  | true => exact law_nths_yes y m k w T h
end Go.Proofs.YtgeocjodkkkiiaaDoor
