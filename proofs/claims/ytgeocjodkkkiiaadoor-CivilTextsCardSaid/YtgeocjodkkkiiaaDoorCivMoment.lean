/- civil.Instant, civil.At; the reference's Clock; moments compared. -/
import Derived.Test.YtgeocjodkkkiiaaDoorCivEq
import Derived.Test.YtgeocjodkkkiiaaDoorCivLawDays
namespace Go.Proofs.YtgeocjodkkkiiaaDoor
open Go.RowKit

def clockB (h m s : Int) : Bool := decide (0 ≤ h ∧ h < 24 ∧ 0 ≤ m ∧ m < 60 ∧ 0 ≤ s ∧ s < 60)
def okB (y m d h mi s : Int) : Bool := mayB y m d && clockB h mi s
def secN (y m d h mi s : Int) : Int := numN y m d * 86400 + (h * 3600 + mi * 60 + s)
def insV (y m d h mi s : Int) : Int := if okB y m d h mi s = true then secN y m d h mi s else 0
def insE (y m d h mi s : Int) : Int := if okB y m d h mi s = true then 0 else 60

theorem clock_ref (h m s : Int) (w : World) : Calls Tryd.prog 23 #[.int .i64 h, .int .i64 m, .int .i64 s] w fun e w' => e = .returned (.bool (clockB h m s)) ∧ w = w' := by
  by_cases h1 : 0 ≤ h
  · by_cases h2 : h < 24
    · by_cases h3 : 0 ≤ m
      · by_cases h4 : m < 60
        · by_cases h5 : 0 ≤ s
          · by_cases h6 : s < 60
            · go_in; go_wp2; go_ret; exact ⟨retb (by simp [clockB]; omega), rfl⟩
            · go_in; go_wp2; go_ret; exact ⟨retb (by simp [clockB]; omega), rfl⟩
          · go_in; go_wp2; go_ret; exact ⟨retb (by simp [clockB]; omega), rfl⟩
        · go_in; go_wp2; go_ret; exact ⟨retb (by simp [clockB]; omega), rfl⟩
      · go_in; go_wp2; go_ret; exact ⟨retb (by simp [clockB]; omega), rfl⟩
    · go_in; go_wp2; go_ret; exact ⟨retb (by simp [clockB]; omega), rfl⟩
  · go_in; go_wp2; go_ret; exact ⟨retb (by simp [clockB]; omega), rfl⟩

theorem moment_in (w : World) (n : Nat) (a b c d e f a' b' c' d' e' f' : Int) : (Op.equalIn (n + 3) 41 (.agg #[.int .i64 a, .int .i64 b, .int .i64 c, .int .i64 d, .int .i64 e, .int .i64 f]) (.agg #[.int .i64 a', .int .i64 b', .int .i64 c', .int .i64 d', .int .i64 e', .int .i64 f'])).run Tryd.prog w = .ok ((a == a' && (b == b' && c == c')) && (d == d' && (e == e' && f == f'))) w := by
  rw [run_equalIn_struct w _ _ _ _ (by kernel_rfl) (by kernel_rfl)]
  have ei := fun (d : Nat) (x y : Int) (w : World) => run_equalIn_int (P := Tryd.prog) w d 3 .i64 .i64 x y Tryd.underlying3
  have ed := fun (x y z x' y' z' : Int) (w : World) => date_in w n x y z x' y' z'
  simp only [Program.fieldsOf, Tryd.underlying41, Op.eqFields, part, isAgg]
  cases h1 : (a == a' && (b == b' && c == c')) <;> cases h2 : d == d' <;> cases h3 : e == e' <;> cases h4 : f == f' <;> simp [go_sem, ei, ed, h1, h2, h3, h4]

theorem moment_eq (w : World) (a b c d e f a' b' c' d' e' f' : Int) : (binOp .eql 41 (.agg #[.int .i64 a, .int .i64 b, .int .i64 c, .int .i64 d, .int .i64 e, .int .i64 f]) (.agg #[.int .i64 a', .int .i64 b', .int .i64 c', .int .i64 d', .int .i64 e', .int .i64 f'])).run Tryd.prog w = .ok (.bool ((a == a' && (b == b' && c == c')) && (d == d' && (e == e' && f == f')))) w := by
  rw [run_eql_struct, moment_in w 9997]
  rfl
theorem moment_same (w : World) (a b c d e f : Int) : (binOp .eql 41 (.agg #[.int .i64 a, .int .i64 b, .int .i64 c, .int .i64 d, .int .i64 e, .int .i64 f]) (.agg #[.int .i64 a, .int .i64 b, .int .i64 c, .int .i64 d, .int .i64 e, .int .i64 f])).run Tryd.prog w = .ok (.bool true) w := by
  rw [moment_eq]; simp
theorem moment_guard (w : World) (x y : Operand) (xs ys : Array Value) : (eqGuard .eql 41 x y (.agg xs) (.agg ys)).run Tryd.prog w = .ok () w := run_eqGuard_agg w .eql 41 x y xs ys (by kernel_rfl)

set_option maxHeartbeats 2000000 in
theorem instant_own (y m d h mi s : Int) (w : World) (T : Lens w) : Calls Tryd.prog 24 #[.agg #[.int .i64 y, .int .i64 m, .int .i64 d, .int .i64 h, .int .i64 mi, .int .i64 s]] w fun e w' => e = .returned (.tuple #[.int .i64 (insV y m d h mi s), .int .i64 (insE y m d h mi s)]) ∧ Below w.heap.size w w' := by
  have HT := Lib.hid T
  clear T
  obtain ⟨b, hb⟩ : ∃ b, mayB y m d = b := ⟨_, rfl⟩
  have HE := Lib.hid (show dayE y m d = if b = true then 0 else 60 by rw [← hb]; rfl)
  have HV := Lib.hid (show b = true → dayV y m d = numN y m d ∧ 0 ≤ numN y m d ∧ numN y m d ≤ 2932896 from fun h => ⟨by simp [dayV, hb, h], numN_bd y m d (hb.trans h)⟩)
  have no : okB y m d h mi s = false → insV y m d h mi s = 0 ∧ insE y m d h mi s = 60 := fun h => by simp [insV, insE, h]
  have NO := Lib.hid no
  have OK := Lib.hid (show okB y m d h mi s = (b && clockB h mi s) by rw [← hb]; rfl)
  clear hb no
  cases b
  case false =>
    have hn := Lib.hid (NO.out (by rw [OK.out]; rfl))
    go_in
    go_wp2_with fail
    have hX := Held.new w 41 #[.int .i64 y, .int .i64 m, .int .i64 d, .int .i64 h, .int .i64 mi, .int .i64 s]
    have hB0 := below_alloc (Below.refl w.heap.size w) (Obj.cells #[.int .i64 y, .int .i64 m, .int .i64 d, .int .i64 h, .int .i64 mi, .int .i64 s] 41)
    refine (day_own y m d _ (HT.out.up hB0)).mono ?_
    rintro e w1 ⟨rfl, hb1⟩
    have hA1 := hX.below hb1 (by simp)
    have hB1 := below_step hB0 hb1
    clear hX hB0 hb1
    have a3 := hA1.cell 3
    have a4 := hA1.cell 4
    have a5 := hA1.cell 5
    simp only [List.getElem?_toArray, List.getElem?_cons_zero, List.getElem?_cons_succ] at a3 a4 a5
    rw [HE.out]
    go_wp2
    go_ret2
    exact ⟨ret2i hn.out.1.symm hn.out.2.symm, hB1⟩
  case true =>
    obtain ⟨hv, hv0, hv1⟩ := HV.out rfl
    have HVV := Lib.hid hv
    clear hv
    by_cases h1 : h < 0
    · have hn := Lib.hid (NO.out (by rw [OK.out]; simp [clockB]; omega))
      go_in
      go_wp2_with fail
      have hX := Held.new w 41 #[.int .i64 y, .int .i64 m, .int .i64 d, .int .i64 h, .int .i64 mi, .int .i64 s]
      have hB0 := below_alloc (Below.refl w.heap.size w) (Obj.cells #[.int .i64 y, .int .i64 m, .int .i64 d, .int .i64 h, .int .i64 mi, .int .i64 s] 41)
      refine (day_own y m d _ (HT.out.up hB0)).mono ?_
      rintro e w1 ⟨rfl, hb1⟩
      have hA1 := hX.below hb1 (by simp)
      have hB1 := below_step hB0 hb1
      clear hX hB0 hb1
      have a3 := hA1.cell 3
      have a4 := hA1.cell 4
      have a5 := hA1.cell 5
      simp only [List.getElem?_toArray, List.getElem?_cons_zero, List.getElem?_cons_succ] at a3 a4 a5
      rw [HE.out]
      go_wp2
      go_ret2
      exact ⟨ret2i hn.out.1.symm hn.out.2.symm, hB1⟩
    have g1 : decide (h < 0) = false := by simpa using h1
    by_cases h2 : 23 < h
    · have hn := Lib.hid (NO.out (by rw [OK.out]; simp [clockB]; omega))
      go_in
      go_wp2_with fail
      have hX := Held.new w 41 #[.int .i64 y, .int .i64 m, .int .i64 d, .int .i64 h, .int .i64 mi, .int .i64 s]
      have hB0 := below_alloc (Below.refl w.heap.size w) (Obj.cells #[.int .i64 y, .int .i64 m, .int .i64 d, .int .i64 h, .int .i64 mi, .int .i64 s] 41)
      refine (day_own y m d _ (HT.out.up hB0)).mono ?_
      rintro e w1 ⟨rfl, hb1⟩
      have hA1 := hX.below hb1 (by simp)
      have hB1 := below_step hB0 hb1
      clear hX hB0 hb1
      have a3 := hA1.cell 3
      have a4 := hA1.cell 4
      have a5 := hA1.cell 5
      simp only [List.getElem?_toArray, List.getElem?_cons_zero, List.getElem?_cons_succ] at a3 a4 a5
      rw [HE.out]
      go_wp2
      go_ret2
      exact ⟨ret2i hn.out.1.symm hn.out.2.symm, hB1⟩
    have g2 : decide (23 < h) = false := by simpa using h2
    by_cases h3 : mi < 0
    · have hn := Lib.hid (NO.out (by rw [OK.out]; simp [clockB]; omega))
      go_in
      go_wp2_with fail
      have hX := Held.new w 41 #[.int .i64 y, .int .i64 m, .int .i64 d, .int .i64 h, .int .i64 mi, .int .i64 s]
      have hB0 := below_alloc (Below.refl w.heap.size w) (Obj.cells #[.int .i64 y, .int .i64 m, .int .i64 d, .int .i64 h, .int .i64 mi, .int .i64 s] 41)
      refine (day_own y m d _ (HT.out.up hB0)).mono ?_
      rintro e w1 ⟨rfl, hb1⟩
      have hA1 := hX.below hb1 (by simp)
      have hB1 := below_step hB0 hb1
      clear hX hB0 hb1
      have a3 := hA1.cell 3
      have a4 := hA1.cell 4
      have a5 := hA1.cell 5
      simp only [List.getElem?_toArray, List.getElem?_cons_zero, List.getElem?_cons_succ] at a3 a4 a5
      rw [HE.out]
      go_wp2
      go_ret2
      exact ⟨ret2i hn.out.1.symm hn.out.2.symm, hB1⟩
    have g3 : decide (mi < 0) = false := by simpa using h3
    by_cases h4 : 59 < mi
    · have hn := Lib.hid (NO.out (by rw [OK.out]; simp [clockB]; omega))
      go_in
      go_wp2_with fail
      have hX := Held.new w 41 #[.int .i64 y, .int .i64 m, .int .i64 d, .int .i64 h, .int .i64 mi, .int .i64 s]
      have hB0 := below_alloc (Below.refl w.heap.size w) (Obj.cells #[.int .i64 y, .int .i64 m, .int .i64 d, .int .i64 h, .int .i64 mi, .int .i64 s] 41)
      refine (day_own y m d _ (HT.out.up hB0)).mono ?_
      rintro e w1 ⟨rfl, hb1⟩
      have hA1 := hX.below hb1 (by simp)
      have hB1 := below_step hB0 hb1
      clear hX hB0 hb1
      have a3 := hA1.cell 3
      have a4 := hA1.cell 4
      have a5 := hA1.cell 5
      simp only [List.getElem?_toArray, List.getElem?_cons_zero, List.getElem?_cons_succ] at a3 a4 a5
      rw [HE.out]
      go_wp2
      go_ret2
      exact ⟨ret2i hn.out.1.symm hn.out.2.symm, hB1⟩
    have g4 : decide (59 < mi) = false := by simpa using h4
    by_cases h5 : s < 0
    · have hn := Lib.hid (NO.out (by rw [OK.out]; simp [clockB]; omega))
      go_in
      go_wp2_with fail
      have hX := Held.new w 41 #[.int .i64 y, .int .i64 m, .int .i64 d, .int .i64 h, .int .i64 mi, .int .i64 s]
      have hB0 := below_alloc (Below.refl w.heap.size w) (Obj.cells #[.int .i64 y, .int .i64 m, .int .i64 d, .int .i64 h, .int .i64 mi, .int .i64 s] 41)
      refine (day_own y m d _ (HT.out.up hB0)).mono ?_
      rintro e w1 ⟨rfl, hb1⟩
      have hA1 := hX.below hb1 (by simp)
      have hB1 := below_step hB0 hb1
      clear hX hB0 hb1
      have a3 := hA1.cell 3
      have a4 := hA1.cell 4
      have a5 := hA1.cell 5
      simp only [List.getElem?_toArray, List.getElem?_cons_zero, List.getElem?_cons_succ] at a3 a4 a5
      rw [HE.out]
      go_wp2
      go_ret2
      exact ⟨ret2i hn.out.1.symm hn.out.2.symm, hB1⟩
    have g5 : decide (s < 0) = false := by simpa using h5
    by_cases h6 : 59 < s
    · have hn := Lib.hid (NO.out (by rw [OK.out]; simp [clockB]; omega))
      go_in
      go_wp2_with fail
      have hX := Held.new w 41 #[.int .i64 y, .int .i64 m, .int .i64 d, .int .i64 h, .int .i64 mi, .int .i64 s]
      have hB0 := below_alloc (Below.refl w.heap.size w) (Obj.cells #[.int .i64 y, .int .i64 m, .int .i64 d, .int .i64 h, .int .i64 mi, .int .i64 s] 41)
      refine (day_own y m d _ (HT.out.up hB0)).mono ?_
      rintro e w1 ⟨rfl, hb1⟩
      have hA1 := hX.below hb1 (by simp)
      have hB1 := below_step hB0 hb1
      clear hX hB0 hb1
      have a3 := hA1.cell 3
      have a4 := hA1.cell 4
      have a5 := hA1.cell 5
      simp only [List.getElem?_toArray, List.getElem?_cons_zero, List.getElem?_cons_succ] at a3 a4 a5
      rw [HE.out]
      go_wp2
      go_ret2
      exact ⟨ret2i hn.out.1.symm hn.out.2.symm, hB1⟩
    have hn := Lib.hid (show insV y m d h mi s = secN y m d h mi s ∧ insE y m d h mi s = 0 by
      have hc : clockB h mi s = true := by simp [clockB]; omega
      have := OK.out
      rw [hc] at this
      simp [insV, insE, this])
    go_in
    go_wp2_with fail
    have hX := Held.new w 41 #[.int .i64 y, .int .i64 m, .int .i64 d, .int .i64 h, .int .i64 mi, .int .i64 s]
    have hB0 := below_alloc (Below.refl w.heap.size w) (Obj.cells #[.int .i64 y, .int .i64 m, .int .i64 d, .int .i64 h, .int .i64 mi, .int .i64 s] 41)
    refine (day_own y m d _ (HT.out.up hB0)).mono ?_
    rintro e w1 ⟨rfl, hb1⟩
    have hA1 := hX.below hb1 (by simp)
    have hB1 := below_step hB0 hb1
    clear hX hB0 hb1
    have a3 := hA1.cell 3
    have a4 := hA1.cell 4
    have a5 := hA1.cell 5
    simp only [List.getElem?_toArray, List.getElem?_cons_zero, List.getElem?_cons_succ] at a3 a4 a5
    rw [HE.out]
    rw [HVV.out]
    go_wp2
    go_ret2
    exact ⟨ret2i (by rw [hn.out.1]; rfl) hn.out.2.symm, hB1⟩
end Go.Proofs.YtgeocjodkkkiiaaDoor
