/- The law CivilMoments: its walk. -/
import Derived.Test.YtgeocjodkkkiiaaDoorCivAt
namespace Go.Proofs.YtgeocjodkkkiiaaDoor
open Go.RowKit

theorem moment_as (w : World) (a b c t : Int) : (binOp .eql 41 (.agg #[.int .i64 a, .int .i64 b, .int .i64 c, .int .i64 (t % 86400 / 3600), .int .i64 (t % 86400 / 60 % 60), .int .i64 (t % 60)]) (.agg #[.int .i64 a, .int .i64 b, .int .i64 c, .int .i64 (t % 86400 / 3600), .int .i64 (t % 3600 / 60), .int .i64 (t % 60)])).run Tryd.prog w = .ok (.bool true) w := by
  rw [moment_eq]
  have e : (t % 86400 / 60 % 60 == t % 3600 / 60) = true := by rw [beq_iff_eq]; omega
  simp [e]

set_option maxRecDepth 100000 in
set_option maxHeartbeats 4000000 in
theorem law_moments_neg (y m d h mi s t : Int) (hneg : t < 0) (w : World) (T : Lens w) : Calls Tryd.prog 5 #[.agg #[.int .i64 y, .int .i64 m, .int .i64 d, .int .i64 h, .int .i64 mi, .int .i64 s], .int .i64 t] w fun e w' => e = .returned (.bool true) ∧ Below w.heap.size w w' := by
  have HT := Lib.hid T
  have dg := moment_guard
  clear T
  have ht : t < 0 ∨ 253402300800 ≤ t := Or.inl hneg
  have ht := Lib.hid ht
  cases hA : mayB y m d with
  | false =>
    have hmb : mayB y m d = false := hA
    have hin : insV y m d h mi s = 0 ∧ insE y m d h mi s = 60 := by simp [insV, insE, okB, hmb]
    have HD := Lib.hid (show dayV y m d = 0 ∧ dayE y m d = 60 by simp [dayV, dayE, hmb])
    have HIN := Lib.hid hin
    clear hin hmb hA
    have hX := Held.new w 41 #[.int .i64 y, .int .i64 m, .int .i64 d, .int .i64 h, .int .i64 mi, .int .i64 s]
    have hB0 := below_alloc (Below.refl w.heap.size w) (Obj.cells #[.int .i64 y, .int .i64 m, .int .i64 d, .int .i64 h, .int .i64 mi, .int .i64 s] 41)
    go_in
    go_wp2_with fail
    refine (day_ref y m d _).mono ?_
    rintro e w' ⟨rfl, rfl⟩
    rw [HD.out.1, HD.out.2]
    go_wp2_with fail
    refine (instant_own y m d h mi s _ (HT.out.up hB0)).mono ?_
    rintro e w1 ⟨rfl, hb1⟩
    rw [HIN.out.1, HIN.out.2]
    have hA1 := hX.below hb1 (by simp)
    have hB1 := below_step hB0 hb1
    clear hX hB0 hb1
    have a3 := hA1.cell 3
    have a4 := hA1.cell 4
    have a5 := hA1.cell 5
    simp only [List.getElem?_toArray, List.getElem?_cons_zero, List.getElem?_cons_succ] at a3 a4 a5
    go_wp2_with fail
    refine (at_no t ht.out _).mono ?_
    rintro e w2 ⟨rfl, hb2⟩
    have hB2 := below_step hB1 hb2
    have de := fun (w : World) => moment_same w 0 0 0 0 0 0
    go_wp2
    go_ret
    exact ⟨rfl, below_alloc hB2 _⟩
  | true =>
    cases hC : clockB h mi s with
    | false =>
      have hin : insV y m d h mi s = 0 ∧ insE y m d h mi s = 60 := by simp [insV, insE, okB, hC]
      have HD := Lib.hid (show dayV y m d = numN y m d ∧ dayE y m d = 0 by simp [dayV, dayE, hA])
      have HIN := Lib.hid hin
      have HC := Lib.hid hC
      clear hin hA hC
      have hX := Held.new w 41 #[.int .i64 y, .int .i64 m, .int .i64 d, .int .i64 h, .int .i64 mi, .int .i64 s]
      have hB0 := below_alloc (Below.refl w.heap.size w) (Obj.cells #[.int .i64 y, .int .i64 m, .int .i64 d, .int .i64 h, .int .i64 mi, .int .i64 s] 41)
      go_in
      go_wp2_with fail
      refine (day_ref y m d _).mono ?_
      rintro e w' ⟨rfl, rfl⟩
      rw [HD.out.1, HD.out.2]
      go_wp2_with (go_at_call 23; refine (clock_ref h mi s _).mono ?_; rintro e w' ⟨rfl, rfl⟩; rw [HC.out])
      refine (instant_own y m d h mi s _ (HT.out.up hB0)).mono ?_
      rintro e w1 ⟨rfl, hb1⟩
      rw [HIN.out.1, HIN.out.2]
      have hA1 := hX.below hb1 (by simp)
      have hB1 := below_step hB0 hb1
      clear hX hB0 hb1
      have a3 := hA1.cell 3
      have a4 := hA1.cell 4
      have a5 := hA1.cell 5
      simp only [List.getElem?_toArray, List.getElem?_cons_zero, List.getElem?_cons_succ] at a3 a4 a5
      go_wp2_with fail
      refine (at_no t ht.out _).mono ?_
      rintro e w2 ⟨rfl, hb2⟩
      have hB2 := below_step hB1 hb2
      have de := fun (w : World) => moment_same w 0 0 0 0 0 0
      go_wp2
      go_ret
      exact ⟨rfl, below_alloc hB2 _⟩
    | true =>
      have hin : insV y m d h mi s = secN y m d h mi s ∧ insE y m d h mi s = 0 := by simp [insV, insE, okB, hC, hA]
      have HD := Lib.hid (show dayV y m d = numN y m d ∧ dayE y m d = 0 by simp [dayV, dayE, hA])
      have hnb := numN_bd y m d hA
      have hcl : 0 ≤ h ∧ h < 24 ∧ 0 ≤ mi ∧ mi < 60 ∧ 0 ≤ s ∧ s < 60 := by simpa [clockB] using hC
      have hne : (secN y m d h mi s != numN y m d * 86400 + h * 3600 + mi * 60 + s) = false := by unfold secN; simp; omega
      have HIN := Lib.hid hin
      have HC := Lib.hid hC
      clear hin hA hC
      have hX := Held.new w 41 #[.int .i64 y, .int .i64 m, .int .i64 d, .int .i64 h, .int .i64 mi, .int .i64 s]
      have hB0 := below_alloc (Below.refl w.heap.size w) (Obj.cells #[.int .i64 y, .int .i64 m, .int .i64 d, .int .i64 h, .int .i64 mi, .int .i64 s] 41)
      go_in
      go_wp2_with fail
      refine (day_ref y m d _).mono ?_
      rintro e w' ⟨rfl, rfl⟩
      rw [HD.out.1, HD.out.2]
      go_wp2_with (go_at_call 23; refine (clock_ref h mi s _).mono ?_; rintro e w' ⟨rfl, rfl⟩; rw [HC.out])
      refine (instant_own y m d h mi s _ (HT.out.up hB0)).mono ?_
      rintro e w1 ⟨rfl, hb1⟩
      rw [HIN.out.1, HIN.out.2]
      have hA1 := hX.below hb1 (by simp)
      have hB1 := below_step hB0 hb1
      clear hX hB0 hb1
      have a3 := hA1.cell 3
      have a4 := hA1.cell 4
      have a5 := hA1.cell 5
      simp only [List.getElem?_toArray, List.getElem?_cons_zero, List.getElem?_cons_succ] at a3 a4 a5
      go_wp2_with fail
      refine (at_no t ht.out _).mono ?_
      rintro e w2 ⟨rfl, hb2⟩
      have hB2 := below_step hB1 hb2
      have de := fun (w : World) => moment_same w 0 0 0 0 0 0
      go_wp2
      go_ret
      exact ⟨rfl, below_alloc hB2 _⟩

set_option maxRecDepth 100000 in
set_option maxHeartbeats 4000000 in
theorem law_moments_big (y m d h mi s t : Int) (hbig : 253402300800 ≤ t) (w : World) (T : Lens w) : Calls Tryd.prog 5 #[.agg #[.int .i64 y, .int .i64 m, .int .i64 d, .int .i64 h, .int .i64 mi, .int .i64 s], .int .i64 t] w fun e w' => e = .returned (.bool true) ∧ Below w.heap.size w w' := by
  have HT := Lib.hid T
  have dg := moment_guard
  clear T
  have hge : ¬ t < 0 := by omega
  have ht : t < 0 ∨ 253402300800 ≤ t := Or.inr hbig
  have ht := Lib.hid ht
  cases hA : mayB y m d with
  | false =>
    have hmb : mayB y m d = false := hA
    have hin : insV y m d h mi s = 0 ∧ insE y m d h mi s = 60 := by simp [insV, insE, okB, hmb]
    have HD := Lib.hid (show dayV y m d = 0 ∧ dayE y m d = 60 by simp [dayV, dayE, hmb])
    have HIN := Lib.hid hin
    clear hin hmb hA
    have hX := Held.new w 41 #[.int .i64 y, .int .i64 m, .int .i64 d, .int .i64 h, .int .i64 mi, .int .i64 s]
    have hB0 := below_alloc (Below.refl w.heap.size w) (Obj.cells #[.int .i64 y, .int .i64 m, .int .i64 d, .int .i64 h, .int .i64 mi, .int .i64 s] 41)
    go_in
    go_wp2_with fail
    refine (day_ref y m d _).mono ?_
    rintro e w' ⟨rfl, rfl⟩
    rw [HD.out.1, HD.out.2]
    go_wp2_with fail
    refine (instant_own y m d h mi s _ (HT.out.up hB0)).mono ?_
    rintro e w1 ⟨rfl, hb1⟩
    rw [HIN.out.1, HIN.out.2]
    have hA1 := hX.below hb1 (by simp)
    have hB1 := below_step hB0 hb1
    clear hX hB0 hb1
    have a3 := hA1.cell 3
    have a4 := hA1.cell 4
    have a5 := hA1.cell 5
    simp only [List.getElem?_toArray, List.getElem?_cons_zero, List.getElem?_cons_succ] at a3 a4 a5
    go_wp2_with fail
    refine (at_no t ht.out _).mono ?_
    rintro e w2 ⟨rfl, hb2⟩
    have hB2 := below_step hB1 hb2
    have de := fun (w : World) => moment_same w 0 0 0 0 0 0
    go_wp2
    go_ret
    exact ⟨rfl, below_alloc hB2 _⟩
  | true =>
    cases hC : clockB h mi s with
    | false =>
      have hin : insV y m d h mi s = 0 ∧ insE y m d h mi s = 60 := by simp [insV, insE, okB, hC]
      have HD := Lib.hid (show dayV y m d = numN y m d ∧ dayE y m d = 0 by simp [dayV, dayE, hA])
      have HIN := Lib.hid hin
      have HC := Lib.hid hC
      clear hin hA hC
      have hX := Held.new w 41 #[.int .i64 y, .int .i64 m, .int .i64 d, .int .i64 h, .int .i64 mi, .int .i64 s]
      have hB0 := below_alloc (Below.refl w.heap.size w) (Obj.cells #[.int .i64 y, .int .i64 m, .int .i64 d, .int .i64 h, .int .i64 mi, .int .i64 s] 41)
      go_in
      go_wp2_with fail
      refine (day_ref y m d _).mono ?_
      rintro e w' ⟨rfl, rfl⟩
      rw [HD.out.1, HD.out.2]
      go_wp2_with (go_at_call 23; refine (clock_ref h mi s _).mono ?_; rintro e w' ⟨rfl, rfl⟩; rw [HC.out])
      refine (instant_own y m d h mi s _ (HT.out.up hB0)).mono ?_
      rintro e w1 ⟨rfl, hb1⟩
      rw [HIN.out.1, HIN.out.2]
      have hA1 := hX.below hb1 (by simp)
      have hB1 := below_step hB0 hb1
      clear hX hB0 hb1
      have a3 := hA1.cell 3
      have a4 := hA1.cell 4
      have a5 := hA1.cell 5
      simp only [List.getElem?_toArray, List.getElem?_cons_zero, List.getElem?_cons_succ] at a3 a4 a5
      go_wp2_with fail
      refine (at_no t ht.out _).mono ?_
      rintro e w2 ⟨rfl, hb2⟩
      have hB2 := below_step hB1 hb2
      have de := fun (w : World) => moment_same w 0 0 0 0 0 0
      go_wp2
      go_ret
      exact ⟨rfl, below_alloc hB2 _⟩
    | true =>
      have hin : insV y m d h mi s = secN y m d h mi s ∧ insE y m d h mi s = 0 := by simp [insV, insE, okB, hC, hA]
      have HD := Lib.hid (show dayV y m d = numN y m d ∧ dayE y m d = 0 by simp [dayV, dayE, hA])
      have hnb := numN_bd y m d hA
      have hcl : 0 ≤ h ∧ h < 24 ∧ 0 ≤ mi ∧ mi < 60 ∧ 0 ≤ s ∧ s < 60 := by simpa [clockB] using hC
      have hne : (secN y m d h mi s != numN y m d * 86400 + h * 3600 + mi * 60 + s) = false := by unfold secN; simp; omega
      have HIN := Lib.hid hin
      have HC := Lib.hid hC
      clear hin hA hC
      have hX := Held.new w 41 #[.int .i64 y, .int .i64 m, .int .i64 d, .int .i64 h, .int .i64 mi, .int .i64 s]
      have hB0 := below_alloc (Below.refl w.heap.size w) (Obj.cells #[.int .i64 y, .int .i64 m, .int .i64 d, .int .i64 h, .int .i64 mi, .int .i64 s] 41)
      go_in
      go_wp2_with fail
      refine (day_ref y m d _).mono ?_
      rintro e w' ⟨rfl, rfl⟩
      rw [HD.out.1, HD.out.2]
      go_wp2_with (go_at_call 23; refine (clock_ref h mi s _).mono ?_; rintro e w' ⟨rfl, rfl⟩; rw [HC.out])
      refine (instant_own y m d h mi s _ (HT.out.up hB0)).mono ?_
      rintro e w1 ⟨rfl, hb1⟩
      rw [HIN.out.1, HIN.out.2]
      have hA1 := hX.below hb1 (by simp)
      have hB1 := below_step hB0 hb1
      clear hX hB0 hb1
      have a3 := hA1.cell 3
      have a4 := hA1.cell 4
      have a5 := hA1.cell 5
      simp only [List.getElem?_toArray, List.getElem?_cons_zero, List.getElem?_cons_succ] at a3 a4 a5
      go_wp2_with fail
      refine (at_no t ht.out _).mono ?_
      rintro e w2 ⟨rfl, hb2⟩
      have hB2 := below_step hB1 hb2
      have de := fun (w : World) => moment_same w 0 0 0 0 0 0
      go_wp2
      go_ret
      exact ⟨rfl, below_alloc hB2 _⟩

set_option maxRecDepth 100000 in
set_option maxHeartbeats 4000000 in
theorem law_moments_mid (y m d h mi s t : Int) (h0 : 0 ≤ t) (h1 : t < 253402300800) (w : World) (T : Lens w) : Calls Tryd.prog 5 #[.agg #[.int .i64 y, .int .i64 m, .int .i64 d, .int .i64 h, .int .i64 mi, .int .i64 s], .int .i64 t] w fun e w' => e = .returned (.bool true) ∧ Below w.heap.size w w' := by
  have HT := Lib.hid T
  have dg := moment_guard
  clear T
  have g1 : decide (t < 0) = false := by simpa using h0
  have g2 : decide (253402300800 ≤ t) = false := by simpa using h1
  cases hA : mayB y m d with
  | false =>
    have hmb : mayB y m d = false := hA
    have hin : insV y m d h mi s = 0 ∧ insE y m d h mi s = 60 := by simp [insV, insE, okB, hmb]
    have HD := Lib.hid (show dayV y m d = 0 ∧ dayE y m d = 60 by simp [dayV, dayE, hmb])
    have HIN := Lib.hid hin
    clear hin hmb hA
    have hX := Held.new w 41 #[.int .i64 y, .int .i64 m, .int .i64 d, .int .i64 h, .int .i64 mi, .int .i64 s]
    have hB0 := below_alloc (Below.refl w.heap.size w) (Obj.cells #[.int .i64 y, .int .i64 m, .int .i64 d, .int .i64 h, .int .i64 mi, .int .i64 s] 41)
    go_in
    go_wp2_with fail
    refine (day_ref y m d _).mono ?_
    rintro e w' ⟨rfl, rfl⟩
    rw [HD.out.1, HD.out.2]
    go_wp2_with fail
    refine (instant_own y m d h mi s _ (HT.out.up hB0)).mono ?_
    rintro e w1 ⟨rfl, hb1⟩
    rw [HIN.out.1, HIN.out.2]
    have hA1 := hX.below hb1 (by simp)
    have hB1 := below_step hB0 hb1
    clear hX hB0 hb1
    have a3 := hA1.cell 3
    have a4 := hA1.cell 4
    have a5 := hA1.cell 5
    simp only [List.getElem?_toArray, List.getElem?_cons_zero, List.getElem?_cons_succ] at a3 a4 a5
    go_wp2_with fail
    refine (at_in t h0 h1 _ (HT.out.up hB1)).mono ?_
    rintro e w2 ⟨⟨y1, m1, d1, hi1, rfl⟩, hb2⟩
    have hB2 := below_step hB1 hb2
    have HI := Lib.hid hi1
    have de := fun (w : World) => moment_as w y1 m1 d1 t
    clear hi1 hb2
    go_wp2_with fail
    refine (rof_yes (t / 86400) (by omega) (by omega) _).mono ?_
    rintro e w' ⟨⟨y2, m2, d2, hi2, rfl⟩, rfl⟩
    obtain ⟨rfl, rfl, rfl⟩ := isD_one HI.out hi2
    clear hi2
    go_wp2
    go_ret
    exact ⟨rfl, below_alloc hB2 _⟩
  | true =>
    cases hC : clockB h mi s with
    | false =>
      have hin : insV y m d h mi s = 0 ∧ insE y m d h mi s = 60 := by simp [insV, insE, okB, hC]
      have HD := Lib.hid (show dayV y m d = numN y m d ∧ dayE y m d = 0 by simp [dayV, dayE, hA])
      have HIN := Lib.hid hin
      have HC := Lib.hid hC
      clear hin hA hC
      have hX := Held.new w 41 #[.int .i64 y, .int .i64 m, .int .i64 d, .int .i64 h, .int .i64 mi, .int .i64 s]
      have hB0 := below_alloc (Below.refl w.heap.size w) (Obj.cells #[.int .i64 y, .int .i64 m, .int .i64 d, .int .i64 h, .int .i64 mi, .int .i64 s] 41)
      go_in
      go_wp2_with fail
      refine (day_ref y m d _).mono ?_
      rintro e w' ⟨rfl, rfl⟩
      rw [HD.out.1, HD.out.2]
      go_wp2_with (go_at_call 23; refine (clock_ref h mi s _).mono ?_; rintro e w' ⟨rfl, rfl⟩; rw [HC.out])
      refine (instant_own y m d h mi s _ (HT.out.up hB0)).mono ?_
      rintro e w1 ⟨rfl, hb1⟩
      rw [HIN.out.1, HIN.out.2]
      have hA1 := hX.below hb1 (by simp)
      have hB1 := below_step hB0 hb1
      clear hX hB0 hb1
      have a3 := hA1.cell 3
      have a4 := hA1.cell 4
      have a5 := hA1.cell 5
      simp only [List.getElem?_toArray, List.getElem?_cons_zero, List.getElem?_cons_succ] at a3 a4 a5
      go_wp2_with fail
      refine (at_in t h0 h1 _ (HT.out.up hB1)).mono ?_
      rintro e w2 ⟨⟨y1, m1, d1, hi1, rfl⟩, hb2⟩
      have hB2 := below_step hB1 hb2
      have HI := Lib.hid hi1
      have de := fun (w : World) => moment_as w y1 m1 d1 t
      clear hi1 hb2
      go_wp2_with fail
      refine (rof_yes (t / 86400) (by omega) (by omega) _).mono ?_
      rintro e w' ⟨⟨y2, m2, d2, hi2, rfl⟩, rfl⟩
      obtain ⟨rfl, rfl, rfl⟩ := isD_one HI.out hi2
      clear hi2
      go_wp2
      go_ret
      exact ⟨rfl, below_alloc hB2 _⟩
    | true =>
      have hin : insV y m d h mi s = secN y m d h mi s ∧ insE y m d h mi s = 0 := by simp [insV, insE, okB, hC, hA]
      have HD := Lib.hid (show dayV y m d = numN y m d ∧ dayE y m d = 0 by simp [dayV, dayE, hA])
      have hnb := numN_bd y m d hA
      have hcl : 0 ≤ h ∧ h < 24 ∧ 0 ≤ mi ∧ mi < 60 ∧ 0 ≤ s ∧ s < 60 := by simpa [clockB] using hC
      have hne : (secN y m d h mi s != numN y m d * 86400 + h * 3600 + mi * 60 + s) = false := by unfold secN; simp; omega
      have HIN := Lib.hid hin
      have HC := Lib.hid hC
      clear hin hA hC
      have hX := Held.new w 41 #[.int .i64 y, .int .i64 m, .int .i64 d, .int .i64 h, .int .i64 mi, .int .i64 s]
      have hB0 := below_alloc (Below.refl w.heap.size w) (Obj.cells #[.int .i64 y, .int .i64 m, .int .i64 d, .int .i64 h, .int .i64 mi, .int .i64 s] 41)
      go_in
      go_wp2_with fail
      refine (day_ref y m d _).mono ?_
      rintro e w' ⟨rfl, rfl⟩
      rw [HD.out.1, HD.out.2]
      go_wp2_with (go_at_call 23; refine (clock_ref h mi s _).mono ?_; rintro e w' ⟨rfl, rfl⟩; rw [HC.out])
      refine (instant_own y m d h mi s _ (HT.out.up hB0)).mono ?_
      rintro e w1 ⟨rfl, hb1⟩
      rw [HIN.out.1, HIN.out.2]
      have hA1 := hX.below hb1 (by simp)
      have hB1 := below_step hB0 hb1
      clear hX hB0 hb1
      have a3 := hA1.cell 3
      have a4 := hA1.cell 4
      have a5 := hA1.cell 5
      simp only [List.getElem?_toArray, List.getElem?_cons_zero, List.getElem?_cons_succ] at a3 a4 a5
      go_wp2_with fail
      refine (at_in t h0 h1 _ (HT.out.up hB1)).mono ?_
      rintro e w2 ⟨⟨y1, m1, d1, hi1, rfl⟩, hb2⟩
      have hB2 := below_step hB1 hb2
      have HI := Lib.hid hi1
      have de := fun (w : World) => moment_as w y1 m1 d1 t
      clear hi1 hb2
      go_wp2_with fail
      refine (rof_yes (t / 86400) (by omega) (by omega) _).mono ?_
      rintro e w' ⟨⟨y2, m2, d2, hi2, rfl⟩, rfl⟩
      obtain ⟨rfl, rfl, rfl⟩ := isD_one HI.out hi2
      clear hi2
      go_wp2
      go_ret
      exact ⟨rfl, below_alloc hB2 _⟩

theorem law_moments (y m d h mi s t : Int) (w : World) (T : Lens w) : Calls Tryd.prog 5 #[.agg #[.int .i64 y, .int .i64 m, .int .i64 d, .int .i64 h, .int .i64 mi, .int .i64 s], .int .i64 t] w fun e w' => e = .returned (.bool true) ∧ Below w.heap.size w w' := by
  by_cases h0 : t < 0
  · exact law_moments_neg y m d h mi s t h0 w T
  · by_cases h1 : t < 253402300800
    · exact law_moments_mid y m d h mi s t (by omega) h1 w T
    · exact law_moments_big y m d h mi s t (by omega) w T
end Go.Proofs.YtgeocjodkkkiiaaDoor
