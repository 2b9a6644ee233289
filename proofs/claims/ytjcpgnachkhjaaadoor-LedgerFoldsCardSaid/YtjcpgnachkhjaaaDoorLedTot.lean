/- ledger.is, Total, Sum, Copy; a new book. -/
import Derived.Test.YtjcpgnachkhjaaaDoorLedAdd
namespace Go.Proofs.YtjcpgnachkhjaaaDoor
open Go.RowKit Go.Shelf
attribute [local go_sem] Oper.semAt_some
set_option linter.unusedVariables false
set_option linter.unusedSimpArgs false
set_option maxRecDepth 100000

theorem is_any (gb : Nat) (m : Int) (w : World) : Calls Tryd.prog 27 #[.pointer (some ⟨gb, 0, none⟩), .int .i64 m] w fun e w' => e = .returned (.bool (decide (0 ≤ m) && decide (m ≤ 63))) ∧ w' = w := by
  by_cases h : 0 ≤ m
  · have h1 : decide (0 ≤ m) = true := by simpa using h
    by_cases h2 : m ≤ 63
    · have h3 : decide (m ≤ 63) = true := by simpa using h2
      go_in
      go_wp2
      go_ret
      exact ⟨by simp [h, h2], rfl⟩
    · have h3 : decide (m ≤ 63) = false := by simpa using h2
      go_in
      go_wp2
      go_ret
      exact ⟨by simp [h, h2], rfl⟩
  · have h1 : decide (0 ≤ m) = false := by simpa using h
    go_in
    go_wp2
    go_ret
    exact ⟨by simp [h], rfl⟩
/-- A total, asked by whatever numbers. -/
def Bk.totI (b : Bk) (m k : Int) : Tot := if (0 ≤ m ∧ m ≤ 63) ∧ 0 ≤ k ∧ k ≤ 7 then b.totAt m.toNat k.toNat else Tot.zero
def Bk.sumI (b : Bk) (m : Int) : SumS := if 0 ≤ m ∧ m ≤ 63 then b.sumAt m.toNat else SumS.zero
set_option maxHeartbeats 2000000 in
theorem total_any (K : Int) (b : Bk) (hb : b.ok K) (gb : Nat) (m k : Int) (w : World) (hB : Held w gb 40 b.arr) :
    Calls Tryd.prog 10 #[.pointer (some ⟨gb, 0, none⟩), .int .i64 m, .int .i64 k] w fun e w' => e = .returned (.agg (b.totI m k).arr) ∧ Below w.heap.size w w' := by
  have HI := Lib.hid (fun v => is_any gb m v)
  by_cases hin : (0 ≤ m ∧ m ≤ 63) ∧ 0 ≤ k ∧ k ≤ 7
  · have HV : Hid (b.totI m k = b.totAt m.toNat k.toNat) := Lib.hid (by unfold Bk.totI; rw [if_pos hin])
    obtain ⟨⟨h1, h2⟩, h3, h4⟩ := hin
    obtain ⟨i, rfl⟩ : ∃ i : Nat, m = i := ⟨m.toNat, by omega⟩
    obtain ⟨j, rfl⟩ : ∃ j : Nat, k = j := ⟨k.toNat, by omega⟩
    have hi : i < 64 := by omega
    have hj : j < 8 := by omega
    have hi4 : (i : Int) < 64 := by omega
    have hj4 : (j : Int) < 8 := by omega
    have hq : (decide (0 ≤ (i : Int)) && decide ((i : Int) ≤ 63)) = true := by simp; omega
    have hk1 : decide ((j : Int) < 0) = false := by simp
    have hk2 : decide (7 < (j : Int)) = false := by simp; omega
    have HQ : Hid (∀ v, Calls Tryd.prog 27 #[.pointer (some ⟨gb, 0, none⟩), .int .i64 i] v fun e w' => e = .returned (.bool true) ∧ w' = v) := Lib.hid (fun v => (HI.out v).mono fun e w' h => ⟨by rw [h.1, hq], h.2⟩)
    have ITs : Hid ((Tryd.prog.info? 32).map (·.size) = some (b.totAt i j).arr.size) := Lib.hid tot_size
    clear h1 h2 h3 h4 hq HI
    go_in
    go_wp2_with (first
      | ((with_reducible refine wpList_alloc_held (dst := some 6) 32 Tot.zero.arr (by kernel_rfl) alloc_tot ?_); intro V1 h6 b6 z6; (have hB1 := hB.below b6 hB.lt); (have l6 : w.heap.size < V1.heap.size := (by omega)); clear z6; simp only [Act.put, List.setIfInBounds_toArray, List.set_cons_succ, List.set_cons_zero])
      | (go_at_call 27; refine (HQ.out _).mono ?_; rintro e w' ⟨rfl, rfl⟩)
      | ((with_reducible refine wpList_load_at (dst := some 27) 32 (.tmp 26) gb (i * 24 + j * 3) (b.totAt i j).cells _ (by kernel_rfl) (by kernel_rfl) (b.tot_range hb i j hi hj hB1) Tryd.underlying32 (by kernel_rfl) (by kernel_rfl) ?_); simp only [Act.put, List.setIfInBounds_toArray, List.set_cons_succ, List.set_cons_zero])
      | ((with_reducible refine wpList_store_held 32 (.tmp 6) (.tmp 27) w.heap.size 32 _ (b.totAt i j).arr (by kernel_rfl) (by kernel_rfl) (by kernel_rfl) h6 (by kernel_rfl) ITs.out (tot_one _) ?_); intro V2 g6 b2 z2; clear z2; simp only [Act.put, List.setIfInBounds_toArray, List.set_cons_succ, List.set_cons_zero]))
    refine bodyPost_ret (results_cell_held rfl _ _ _ _ _ _ (by kernel_rfl) g6 Tryd.underlying32 (by kernel_rfl) ITs.out) rfl ?_
    exact ⟨by rw [HV.out]; rfl, b6.trans (b2.below (Nat.le_refl _) (by omega))⟩
  · have HV : Hid (b.totI m k = Tot.zero) := Lib.hid (by unfold Bk.totI; rw [if_neg hin])
    by_cases hm : 0 ≤ m ∧ m ≤ 63
    · have hq : (decide (0 ≤ m) && decide (m ≤ 63)) = true := by simp; omega
      have HQ : Hid (∀ v, Calls Tryd.prog 27 #[.pointer (some ⟨gb, 0, none⟩), .int .i64 m] v fun e w' => e = .returned (.bool true) ∧ w' = v) := Lib.hid (fun v => (HI.out v).mono fun e w' h => ⟨by rw [h.1, hq], h.2⟩)
      by_cases hk0 : k < 0
      · have hk1 : decide (k < 0) = true := by simpa using hk0
        clear hin hm hq HI hk0
        go_in
        go_wp2_with (first
          | ((with_reducible refine wpList_alloc_held (dst := some 6) 32 Tot.zero.arr (by kernel_rfl) alloc_tot ?_); intro V1 h6 b6 z6; (have hB1 := hB.below b6 hB.lt); (have l6 : w.heap.size < V1.heap.size := (by omega)); clear z6; simp only [Act.put, List.setIfInBounds_toArray, List.set_cons_succ, List.set_cons_zero])
          | (go_at_call 27; refine (HQ.out _).mono ?_; rintro e w' ⟨rfl, rfl⟩)
          | ((with_reducible refine wpList_store_held 32 (.tmp 6) (.tmp 19) w.heap.size 32 _ Tot.zero.arr (by kernel_rfl) (by kernel_rfl) (by kernel_rfl) h6 (by kernel_rfl) (by kernel_rfl) (tot_one _) ?_); intro V2 g6 b2 z2; clear z2; simp only [Act.put, List.setIfInBounds_toArray, List.set_cons_succ, List.set_cons_zero]))
        refine bodyPost_ret (results_cell_held rfl _ _ _ _ _ _ (by kernel_rfl) g6 Tryd.underlying32 (by kernel_rfl) (by kernel_rfl)) rfl ?_
        exact ⟨by rw [HV.out], b6.trans (b2.below (Nat.le_refl _) (by omega))⟩
      · have hk1 : decide (k < 0) = false := by simpa using hk0
        have hk2 : decide (7 < k) = true := by simp; omega
        clear hin hm hq HI hk0
        go_in
        go_wp2_with (first
          | ((with_reducible refine wpList_alloc_held (dst := some 6) 32 Tot.zero.arr (by kernel_rfl) alloc_tot ?_); intro V1 h6 b6 z6; (have hB1 := hB.below b6 hB.lt); (have l6 : w.heap.size < V1.heap.size := (by omega)); clear z6; simp only [Act.put, List.setIfInBounds_toArray, List.set_cons_succ, List.set_cons_zero])
          | (go_at_call 27; refine (HQ.out _).mono ?_; rintro e w' ⟨rfl, rfl⟩)
          | ((with_reducible refine wpList_store_held 32 (.tmp 6) (.tmp 19) w.heap.size 32 _ Tot.zero.arr (by kernel_rfl) (by kernel_rfl) (by kernel_rfl) h6 (by kernel_rfl) (by kernel_rfl) (tot_one _) ?_); intro V2 g6 b2 z2; clear z2; simp only [Act.put, List.setIfInBounds_toArray, List.set_cons_succ, List.set_cons_zero]))
        refine bodyPost_ret (results_cell_held rfl _ _ _ _ _ _ (by kernel_rfl) g6 Tryd.underlying32 (by kernel_rfl) (by kernel_rfl)) rfl ?_
        exact ⟨by rw [HV.out], b6.trans (b2.below (Nat.le_refl _) (by omega))⟩
    · have hq : (decide (0 ≤ m) && decide (m ≤ 63)) = false := by
        rw [Bool.eq_false_iff]; simp; omega
      have HQ : Hid (∀ v, Calls Tryd.prog 27 #[.pointer (some ⟨gb, 0, none⟩), .int .i64 m] v fun e w' => e = .returned (.bool false) ∧ w' = v) := Lib.hid (fun v => (HI.out v).mono fun e w' h => ⟨by rw [h.1, hq], h.2⟩)
      clear hin hm hq HI
      go_in
      go_wp2_with (first
        | ((with_reducible refine wpList_alloc_held (dst := some 6) 32 Tot.zero.arr (by kernel_rfl) alloc_tot ?_); intro V1 h6 b6 z6; (have hB1 := hB.below b6 hB.lt); (have l6 : w.heap.size < V1.heap.size := (by omega)); clear z6; simp only [Act.put, List.setIfInBounds_toArray, List.set_cons_succ, List.set_cons_zero])
        | (go_at_call 27; refine (HQ.out _).mono ?_; rintro e w' ⟨rfl, rfl⟩)
        | ((with_reducible refine wpList_store_held 32 (.tmp 6) (.tmp 19) w.heap.size 32 _ Tot.zero.arr (by kernel_rfl) (by kernel_rfl) (by kernel_rfl) h6 (by kernel_rfl) (by kernel_rfl) (tot_one _) ?_); intro V2 g6 b2 z2; clear z2; simp only [Act.put, List.setIfInBounds_toArray, List.set_cons_succ, List.set_cons_zero]))
      refine bodyPost_ret (results_cell_held rfl _ _ _ _ _ _ (by kernel_rfl) g6 Tryd.underlying32 (by kernel_rfl) (by kernel_rfl)) rfl ?_
      exact ⟨by rw [HV.out], b6.trans (b2.below (Nat.le_refl _) (by omega))⟩
set_option maxHeartbeats 2000000 in
theorem bsum_any (K : Int) (b : Bk) (hb : b.ok K) (gb : Nat) (m : Int) (w : World) (hB : Held w gb 40 b.arr) :
    Calls Tryd.prog 11 #[.pointer (some ⟨gb, 0, none⟩), .int .i64 m] w fun e w' => e = .returned (.agg (b.sumI m).arr) ∧ Below w.heap.size w w' := by
  have HI := Lib.hid (fun v => is_any gb m v)
  have IZ0 : Hid ((Tryd.prog.info? 36).map (·.size) = some SumS.zero.arr.size) := Lib.hid (by rw [sum_size, SumS.arr_size _ rfl])
  by_cases hin : 0 ≤ m ∧ m ≤ 63
  · have HV : Hid (b.sumI m = b.sumAt m.toNat) := Lib.hid (by unfold Bk.sumI; rw [if_pos hin])
    obtain ⟨h1, h2⟩ := hin
    obtain ⟨i, rfl⟩ : ∃ i : Nat, m = i := ⟨m.toNat, by omega⟩
    have hi : i < 64 := by omega
    have hi4 : (i : Int) < 64 := by omega
    have hq : (decide (0 ≤ (i : Int)) && decide ((i : Int) ≤ 63)) = true := by simp; omega
    have HQ : Hid (∀ v, Calls Tryd.prog 27 #[.pointer (some ⟨gb, 0, none⟩), .int .i64 i] v fun e w' => e = .returned (.bool true) ∧ w' = v) := Lib.hid (fun v => (HI.out v).mono fun e w' h => ⟨by rw [h.1, hq], h.2⟩)
    have hbs := hb.sumAt i hi
    have ISs : Hid ((Tryd.prog.info? 36).map (·.size) = some (b.sumAt i).arr.size) := Lib.hid (by rw [sum_size, SumS.arr_size _ hbs.hash])
    have ISl : Hid ((Tryd.prog.info? 36).map (·.size) = some (b.sumAt i).cells.length) := Lib.hid (by rw [sum_size, SumS.cells_len _ hbs.hash])
    have IZ : Hid ((b.sumAt i).arr.size = SumS.zero.arr.size) := Lib.hid (by rw [SumS.arr_size _ hbs.hash, SumS.arr_size _ rfl])
    clear h1 h2 hq HI hbs
    go_in
    go_wp2_with (first
      | ((with_reducible refine wpList_alloc_held (dst := some 4) 36 SumS.zero.arr (by kernel_rfl) alloc_sum ?_); intro V1 h6 b6 z6; (have hB1 := hB.below b6 hB.lt); (have l6 : w.heap.size < V1.heap.size := (by omega)); clear z6; simp only [Act.put, List.setIfInBounds_toArray, List.set_cons_succ, List.set_cons_zero])
      | (go_at_call 27; refine (HQ.out _).mono ?_; rintro e w' ⟨rfl, rfl⟩)
      | ((with_reducible refine wpList_load_at (dst := some 15) 36 (.tmp 14) gb (1536 + i * 49) (b.sumAt i).cells _ (by kernel_rfl) (by kernel_rfl) (b.sum_range hb i hi hB1) Tryd.underlying36 (by kernel_rfl) ISl.out ?_); simp only [Act.put, List.setIfInBounds_toArray, List.set_cons_succ, List.set_cons_zero])
      | ((with_reducible refine wpList_store_held 36 (.tmp 4) (.tmp 15) w.heap.size 36 _ (b.sumAt i).arr (by kernel_rfl) (by kernel_rfl) (by kernel_rfl) h6 IZ.out ISs.out (sum_one _) ?_); intro V2 g6 b2 z2; clear z2; simp only [Act.put, List.setIfInBounds_toArray, List.set_cons_succ, List.set_cons_zero]))
    refine bodyPost_ret (results_cell_held rfl _ _ _ _ _ _ (by kernel_rfl) g6 Tryd.underlying36 (by kernel_rfl) ISs.out) rfl ?_
    exact ⟨by rw [HV.out]; rfl, b6.trans (b2.below (Nat.le_refl _) (by omega))⟩
  · have HV : Hid (b.sumI m = SumS.zero) := Lib.hid (by unfold Bk.sumI; rw [if_neg hin])
    have hq : (decide (0 ≤ m) && decide (m ≤ 63)) = false := by
      rw [Bool.eq_false_iff]; simp; omega
    have HQ : Hid (∀ v, Calls Tryd.prog 27 #[.pointer (some ⟨gb, 0, none⟩), .int .i64 m] v fun e w' => e = .returned (.bool false) ∧ w' = v) := Lib.hid (fun v => (HI.out v).mono fun e w' h => ⟨by rw [h.1, hq], h.2⟩)
    clear hin hq HI
    go_in
    go_wp2_with (first
      | ((with_reducible refine wpList_alloc_held (dst := some 4) 36 SumS.zero.arr (by kernel_rfl) alloc_sum ?_); intro V1 h6 b6 z6; (have hB1 := hB.below b6 hB.lt); (have l6 : w.heap.size < V1.heap.size := (by omega)); clear z6; simp only [Act.put, List.setIfInBounds_toArray, List.set_cons_succ, List.set_cons_zero])
      | (go_at_call 27; refine (HQ.out _).mono ?_; rintro e w' ⟨rfl, rfl⟩)
      | ((with_reducible refine wpList_build_at (dst := some 9) 36 #[] #[] _ (by kernel_rfl) (by kernel_rfl) (build_sum _) ?_); simp only [Act.put, List.setIfInBounds_toArray, List.set_cons_succ, List.set_cons_zero])
      | ((with_reducible refine wpList_store_held 36 (.tmp 4) (.tmp 9) w.heap.size 36 _ SumS.zero.arr (by kernel_rfl) (by kernel_rfl) (by kernel_rfl) h6 (by rfl) IZ0.out (sum_one _) ?_); intro V2 g6 b2 z2; clear z2; simp only [Act.put, List.setIfInBounds_toArray, List.set_cons_succ, List.set_cons_zero]))
    refine bodyPost_ret (results_cell_held rfl _ _ _ _ _ _ (by kernel_rfl) g6 Tryd.underlying36 (by kernel_rfl) IZ0.out) rfl ?_
    exact ⟨by rw [HV.out], b6.trans (b2.below (Nat.le_refl _) (by omega))⟩
theorem book_info : (Tryd.prog.info? 40).map (fun i => (i.zero, i.size)) = some (some (.agg Bk.zero.arr), 4738) := by kernel_rfl
end Go.Proofs.YtjcpgnachkhjaaaDoor
