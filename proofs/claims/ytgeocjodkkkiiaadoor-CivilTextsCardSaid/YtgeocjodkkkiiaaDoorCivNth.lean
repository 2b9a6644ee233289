/- civil.Nth. -/
import Derived.Test.YtgeocjodkkkiiaaDoorCivNext
namespace Go.Proofs.YtgeocjodkkkiiaaDoor
open Go.RowKit

/-- The first such weekday of a month. -/
def firstW (y m k : Int) : Int := 1 + (k - wdN (numN y m 1)) % 7
theorem firstW_in (y m k : Int) : 1 ≤ firstW y m k ∧ firstW y m k ≤ 7 := by unfold firstW; omega
/-- Which one, the last one told by its number. -/
def whichN (y m k n : Int) : Int := if n = -1 then 1 + (daysN y m - firstW y m k) / 7 else n
def nthD (y m k n : Int) : Int := firstW y m k + 7 * (whichN y m k n - 1)
def nthB (y m k n : Int) : Bool := mayB y m 1 && decide (1 ≤ k ∧ k ≤ 7 ∧ (n = -1 ∨ 1 ≤ n ∧ n ≤ 5)) && mayB y m (nthD y m k n)
theorem results_date8 (fn : Func) (hres : fn.results = #[.cell 8 23, .tmp 9]) (tmps : Array Value) (w : World) (g : Nat) (a b c : Int) (u : Value) (h2 : tmps.getD 8 undef = .pointer (some ⟨g, 0, none⟩)) (h3 : tmps.getD 9 undef = u)
    (hg : Held w g 23 #[.int .i64 a, .int .i64 b, .int .i64 c]) : (results fn tmps).run Tryd.prog w = .ok (.tuple #[.agg #[.int .i64 a, .int .i64 b, .int .i64 c], u]) w := by
  rw [results_cell_tmp hres, h2, h3]
  simp only [asAddr, Sem.run_pure, Result.andThen]
  rw [run_loadVar_row w g 23 23 #[.int .i64 a, .int .i64 b, .int .i64 c] (0, 0) _ hg Tryd.underlying23 rfl (by kernel_rfl)]

def NthPost (y m k n : Int) (w : World) (e : Ending) (w' : World) : Prop := e = .returned (if nthB y m k n = true then .tuple #[.agg #[.int .i64 y, .int .i64 m, .int .i64 (nthD y m k n)], .int .i64 0] else .tuple #[.agg #[.int .i64 0, .int .i64 0, .int .i64 0], .int .i64 60]) ∧ Below w.heap.size w w'

set_option maxHeartbeats 4000000 in
theorem nth_bad (y m k n : Int) (w : World) (T : Lens w) (h : ¬ (mayB y m 1 = true ∧ 1 ≤ k ∧ k ≤ 7 ∧ (n = -1 ∨ 1 ≤ n ∧ n ≤ 5))) : Calls Tryd.prog 26 #[.int .i64 y, .int .i64 m, .int .i64 k, .int .i64 n] w (NthPost y m k n w) := by
  have HN := Lib.hid (show nthB y m k n = false by
    cases hb : nthB y m k n with
    | false => rfl
    | true =>
      simp only [nthB, Bool.and_eq_true, decide_eq_true_eq] at hb
      exact (h ⟨hb.1.1, hb.1.2⟩).elim)
  have HT := Lib.hid T
  clear T
  have hX := Held.new w 23 #[.int .i64 0, .int .i64 0, .int .i64 0]
  have hB0 := below_alloc (Below.refl w.heap.size w) (Obj.cells #[.int .i64 0, .int .i64 0, .int .i64 0] 23)
  obtain ⟨b, hb⟩ : ∃ b, mayB y m 1 = b := ⟨_, rfl⟩
  have HE := Lib.hid (show dayE y m 1 = if b = true then 0 else 60 by rw [← hb]; rfl)
  rw [hb] at h
  clear hb
  cases b
  case false =>
    go_in
    go_wp2_with fail
    refine (day_own y m 1 _ (HT.out.up hB0)).mono ?_
    rintro e w1 ⟨rfl, hb1⟩
    have hA1 := hX.below hb1 (by simp)
    have hB1 := below_step hB0 hb1
    clear hX hB0 hb1 h
    have a0 := hA1.cell 0
    have a1 := hA1.cell 1
    have a2 := hA1.cell 2
    simp only [List.getElem?_toArray, List.getElem?_cons_zero, List.getElem?_cons_succ] at a0 a1 a2
    have f0 := hA1.frozen 0
    have f1 := hA1.frozen 1
    have f2 := hA1.frozen 2
    rw [HE.out]
    go_wp2
    have hR := ((hA1.set 0 (.int .i64 0)).set 1 (.int .i64 0)).set 2 (.int .i64 0)
    simp only [List.setIfInBounds_toArray, List.set_cons_zero, List.set_cons_succ] at hR
    refine bodyPost_ret (results_date8 _ rfl _ _ _ _ _ _ _ rfl rfl hR) rfl ⟨by rw [HN.out]; rfl, ?_⟩
    exact ((hB1.setCell (p := ⟨w.heap.size, 0, none⟩) (Nat.le_refl _) _).setCell (p := ⟨w.heap.size, 1, none⟩) (Nat.le_refl _) _).setCell (p := ⟨w.heap.size, 2, none⟩) (Nat.le_refl _) _
  case true =>
    replace h : ¬ (1 ≤ k ∧ k ≤ 7 ∧ (n = -1 ∨ 1 ≤ n ∧ n ≤ 5)) := fun hh => h ⟨rfl, hh⟩
    by_cases h1 : k < 1
    · go_in
      go_wp2_with fail
      refine (day_own y m 1 _ (HT.out.up hB0)).mono ?_
      rintro e w1 ⟨rfl, hb1⟩
      have hA1 := hX.below hb1 (by simp)
      have hB1 := below_step hB0 hb1
      clear hX hB0 hb1 h
      have a0 := hA1.cell 0
      have a1 := hA1.cell 1
      have a2 := hA1.cell 2
      simp only [List.getElem?_toArray, List.getElem?_cons_zero, List.getElem?_cons_succ] at a0 a1 a2
      have f0 := hA1.frozen 0
      have f1 := hA1.frozen 1
      have f2 := hA1.frozen 2
      rw [HE.out]
      go_wp2
      have hR := ((hA1.set 0 (.int .i64 0)).set 1 (.int .i64 0)).set 2 (.int .i64 0)
      simp only [List.setIfInBounds_toArray, List.set_cons_zero, List.set_cons_succ] at hR
      refine bodyPost_ret (results_date8 _ rfl _ _ _ _ _ _ _ rfl rfl hR) rfl ⟨by rw [HN.out]; rfl, ?_⟩
      exact ((hB1.setCell (p := ⟨w.heap.size, 0, none⟩) (Nat.le_refl _) _).setCell (p := ⟨w.heap.size, 1, none⟩) (Nat.le_refl _) _).setCell (p := ⟨w.heap.size, 2, none⟩) (Nat.le_refl _) _
    have g1 : decide (k < 1) = false := by simpa using h1
    by_cases h2 : 7 < k
    · go_in
      go_wp2_with fail
      refine (day_own y m 1 _ (HT.out.up hB0)).mono ?_
      rintro e w1 ⟨rfl, hb1⟩
      have hA1 := hX.below hb1 (by simp)
      have hB1 := below_step hB0 hb1
      clear hX hB0 hb1 h
      have a0 := hA1.cell 0
      have a1 := hA1.cell 1
      have a2 := hA1.cell 2
      simp only [List.getElem?_toArray, List.getElem?_cons_zero, List.getElem?_cons_succ] at a0 a1 a2
      have f0 := hA1.frozen 0
      have f1 := hA1.frozen 1
      have f2 := hA1.frozen 2
      rw [HE.out]
      go_wp2
      have hR := ((hA1.set 0 (.int .i64 0)).set 1 (.int .i64 0)).set 2 (.int .i64 0)
      simp only [List.setIfInBounds_toArray, List.set_cons_zero, List.set_cons_succ] at hR
      refine bodyPost_ret (results_date8 _ rfl _ _ _ _ _ _ _ rfl rfl hR) rfl ⟨by rw [HN.out]; rfl, ?_⟩
      exact ((hB1.setCell (p := ⟨w.heap.size, 0, none⟩) (Nat.le_refl _) _).setCell (p := ⟨w.heap.size, 1, none⟩) (Nat.le_refl _) _).setCell (p := ⟨w.heap.size, 2, none⟩) (Nat.le_refl _) _
    have g2 : decide (7 < k) = false := by simpa using h2
    have g3 : (n != -1) = true := by simp; omega
    by_cases h4 : n < 1
    · go_in
      go_wp2_with fail
      refine (day_own y m 1 _ (HT.out.up hB0)).mono ?_
      rintro e w1 ⟨rfl, hb1⟩
      have hA1 := hX.below hb1 (by simp)
      have hB1 := below_step hB0 hb1
      clear hX hB0 hb1 h
      have a0 := hA1.cell 0
      have a1 := hA1.cell 1
      have a2 := hA1.cell 2
      simp only [List.getElem?_toArray, List.getElem?_cons_zero, List.getElem?_cons_succ] at a0 a1 a2
      have f0 := hA1.frozen 0
      have f1 := hA1.frozen 1
      have f2 := hA1.frozen 2
      rw [HE.out]
      go_wp2
      have hR := ((hA1.set 0 (.int .i64 0)).set 1 (.int .i64 0)).set 2 (.int .i64 0)
      simp only [List.setIfInBounds_toArray, List.set_cons_zero, List.set_cons_succ] at hR
      refine bodyPost_ret (results_date8 _ rfl _ _ _ _ _ _ _ rfl rfl hR) rfl ⟨by rw [HN.out]; rfl, ?_⟩
      exact ((hB1.setCell (p := ⟨w.heap.size, 0, none⟩) (Nat.le_refl _) _).setCell (p := ⟨w.heap.size, 1, none⟩) (Nat.le_refl _) _).setCell (p := ⟨w.heap.size, 2, none⟩) (Nat.le_refl _) _
    have g4 : decide (n < 1) = false := by simpa using h4
    have h5 : 5 < n := by omega
    go_in
    go_wp2_with fail
    refine (day_own y m 1 _ (HT.out.up hB0)).mono ?_
    rintro e w1 ⟨rfl, hb1⟩
    have hA1 := hX.below hb1 (by simp)
    have hB1 := below_step hB0 hb1
    clear hX hB0 hb1 h
    have a0 := hA1.cell 0
    have a1 := hA1.cell 1
    have a2 := hA1.cell 2
    simp only [List.getElem?_toArray, List.getElem?_cons_zero, List.getElem?_cons_succ] at a0 a1 a2
    have f0 := hA1.frozen 0
    have f1 := hA1.frozen 1
    have f2 := hA1.frozen 2
    rw [HE.out]
    go_wp2
    have hR := ((hA1.set 0 (.int .i64 0)).set 1 (.int .i64 0)).set 2 (.int .i64 0)
    simp only [List.setIfInBounds_toArray, List.set_cons_zero, List.set_cons_succ] at hR
    refine bodyPost_ret (results_date8 _ rfl _ _ _ _ _ _ _ rfl rfl hR) rfl ⟨by rw [HN.out]; rfl, ?_⟩
    exact ((hB1.setCell (p := ⟨w.heap.size, 0, none⟩) (Nat.le_refl _) _).setCell (p := ⟨w.heap.size, 1, none⟩) (Nat.le_refl _) _).setCell (p := ⟨w.heap.size, 2, none⟩) (Nat.le_refl _) _

set_option maxHeartbeats 4000000 in
theorem nth_good (y m k n : Int) (w : World) (T : Lens w) (hmay : mayB y m 1 = true) (k1 : 1 ≤ k) (k7 : k ≤ 7) (hn : n = -1 ∨ 1 ≤ n ∧ n ≤ 5) : Calls Tryd.prog 26 #[.int .i64 y, .int .i64 m, .int .i64 k, .int .i64 n] w (NthPost y m k n w) := by
  have HT := Lib.hid T
  clear T
  have hX := Held.new w 23 #[.int .i64 0, .int .i64 0, .int .i64 0]
  have hB0 := below_alloc (Below.refl w.heap.size w) (Obj.cells #[.int .i64 0, .int .i64 0, .int .i64 0] 23)
  have HE := Lib.hid (show dayE y m 1 = 0 ∧ dayV y m 1 = numN y m 1 by simp [dayE, dayV, hmay])
  have hnb := numN_bd y m 1 hmay
  have hwb : 1 ≤ wdN (numN y m 1) ∧ wdN (numN y m 1) ≤ 7 := by unfold wdN; rw [if_neg (by omega)]; omega
  have hmm := (mayB_iff y m 1).1 hmay
  have hdl := daysN_lo y m hmm.2.2.1 hmm.2.2.2.1
  have hdh := daysN_in y m
  have g1 : decide (k < 1) = false := by simpa using k1
  have g2 : decide (7 < k) = false := by simpa using k7
  clear hmm
  have hmay := Lib.hid hmay
  rcases hn with rfl | ⟨n1, n5⟩
  · go_in
    go_wp2_with fail
    refine (day_own y m 1 _ (HT.out.up hB0)).mono ?_
    rintro e w1 ⟨rfl, hb1⟩
    rw [HE.out.1, HE.out.2]
    have hA1 := hX.below hb1 (by simp)
    have hB1 := below_step hB0 hb1
    clear hX hB0
    go_wp2_with (first
      | (go_at_call 20; refine (weekday_own _ _).mono ?_; rintro e w' ⟨rfl, rfl⟩)
      | (go_at_call 18; refine (days_own y m _ (by exact HT.out.up hB1)).mono ?_; rintro e w' ⟨rfl, rfl⟩))
    rw [show 1 + (k - wdN (numN y m 1)) % 7 + 7 * (1 + (daysN y m - (1 + (k - wdN (numN y m 1)) % 7)) / 7 - 1) = nthD y m k (-1) from by simp [nthD, whichN, firstW]]
    obtain ⟨D, hD⟩ : ∃ D, nthD y m k (-1) = D := ⟨_, rfl⟩
    rw [hD]
    obtain ⟨c, hc⟩ : ∃ c, mayB y m D = c := ⟨_, rfl⟩
    have HN := Lib.hid (show nthB y m k (-1) = c by rw [← hc, ← hD]; simp [nthB, hmay.out, k1, k7])
    have HC := Lib.hid (show dayE y m D = if c = true then 0 else 60 by rw [← hc]; rfl)
    have HD := Lib.hid hD
    clear hD hc hmay
    have hA2 := hA1.alloc (Obj.cells #[.int .i64 y, .int .i64 m, .int .i64 D] 23)
    have hB2 := below_alloc hB1 (Obj.cells #[.int .i64 y, .int .i64 m, .int .i64 D] 23)
    have hO := Held.new w1 23 #[.int .i64 y, .int .i64 m, .int .i64 D]
    have hz1 : w.heap.size < w1.heap.size := by have := hb1.size; simp at this; omega
    have hz2 : w1.heap.size < (w1.alloc (Obj.cells #[.int .i64 y, .int .i64 m, .int .i64 D] 23)).heap.size := by simp
    refine (check_own y m D _ (HT.out.up hB2)).mono ?_
    rintro e w3 ⟨rfl, hb3⟩
    rw [HC.out]
    have hA3 := hA2.below hb3 (by omega)
    have hO3 := hO.below hb3 hz2
    have hB3 := below_step hB2 hb3
    clear hA1 hB1 hA2 hB2 hO hb3 hb1
    have a0 := hA3.cell 0
    have a1 := hA3.cell 1
    have a2 := hA3.cell 2
    have o0 := hO3.cell 0
    have o1 := hO3.cell 1
    have o2 := hO3.cell 2
    simp only [List.getElem?_toArray, List.getElem?_cons_zero, List.getElem?_cons_succ] at a0 a1 a2 o0 o1 o2
    have f0 := hA3.frozen 0
    have f1 := hA3.frozen 1
    have f2 := hA3.frozen 2
    cases c with
    | true =>
      go_wp2
      have hR := ((hA3.set 0 (.int .i64 y)).set 1 (.int .i64 m)).set 2 (.int .i64 D)
      simp only [List.setIfInBounds_toArray, List.set_cons_zero, List.set_cons_succ] at hR
      refine bodyPost_ret (results_date8 _ rfl _ _ _ _ _ _ _ rfl rfl hR) rfl ⟨by rw [HN.out, HD.out]; rfl, ?_⟩
      exact ((hB3.setCell (p := ⟨w.heap.size, 0, none⟩) (Nat.le_refl _) _).setCell (p := ⟨w.heap.size, 1, none⟩) (Nat.le_refl _) _).setCell (p := ⟨w.heap.size, 2, none⟩) (Nat.le_refl _) _
    | false =>
      go_wp2
      have hR := ((hA3.set 0 (.int .i64 0)).set 1 (.int .i64 0)).set 2 (.int .i64 0)
      simp only [List.setIfInBounds_toArray, List.set_cons_zero, List.set_cons_succ] at hR
      refine bodyPost_ret (results_date8 _ rfl _ _ _ _ _ _ _ rfl rfl hR) rfl ⟨by rw [HN.out]; rfl, ?_⟩
      exact ((hB3.setCell (p := ⟨w.heap.size, 0, none⟩) (Nat.le_refl _) _).setCell (p := ⟨w.heap.size, 1, none⟩) (Nat.le_refl _) _).setCell (p := ⟨w.heap.size, 2, none⟩) (Nat.le_refl _) _
  · have g3 : decide (n < 1) = false := by simpa using n1
    have g4 : decide (5 < n) = false := by simpa using n5
    have g5 : (n == -1) = false := by simp; omega
    have g6 : (n != -1) = true := by simp; omega
    go_in
    go_wp2_with fail
    refine (day_own y m 1 _ (HT.out.up hB0)).mono ?_
    rintro e w1 ⟨rfl, hb1⟩
    rw [HE.out.1, HE.out.2]
    have hA1 := hX.below hb1 (by simp)
    have hB1 := below_step hB0 hb1
    clear hX hB0
    go_wp2_with (go_at_call 20; refine (weekday_own _ _).mono ?_; rintro e w' ⟨rfl, rfl⟩)
    rw [show 1 + (k - wdN (numN y m 1)) % 7 + 7 * (n - 1) = nthD y m k n from by unfold nthD whichN firstW; rw [if_neg (by omega)]]
    obtain ⟨D, hD⟩ : ∃ D, nthD y m k n = D := ⟨_, rfl⟩
    rw [hD]
    obtain ⟨c, hc⟩ : ∃ c, mayB y m D = c := ⟨_, rfl⟩
    have HN := Lib.hid (show nthB y m k n = c by rw [← hc, ← hD]; simp [nthB, hmay.out, k1, k7, n1, n5])
    have HC := Lib.hid (show dayE y m D = if c = true then 0 else 60 by rw [← hc]; rfl)
    have HD := Lib.hid hD
    clear hD hc hmay
    have hA2 := hA1.alloc (Obj.cells #[.int .i64 y, .int .i64 m, .int .i64 D] 23)
    have hB2 := below_alloc hB1 (Obj.cells #[.int .i64 y, .int .i64 m, .int .i64 D] 23)
    have hO := Held.new w1 23 #[.int .i64 y, .int .i64 m, .int .i64 D]
    have hz1 : w.heap.size < w1.heap.size := by have := hb1.size; simp at this; omega
    have hz2 : w1.heap.size < (w1.alloc (Obj.cells #[.int .i64 y, .int .i64 m, .int .i64 D] 23)).heap.size := by simp
    refine (check_own y m D _ (HT.out.up hB2)).mono ?_
    rintro e w3 ⟨rfl, hb3⟩
    rw [HC.out]
    have hA3 := hA2.below hb3 (by omega)
    have hO3 := hO.below hb3 hz2
    have hB3 := below_step hB2 hb3
    clear hA1 hB1 hA2 hB2 hO hb3 hb1
    have a0 := hA3.cell 0
    have a1 := hA3.cell 1
    have a2 := hA3.cell 2
    have o0 := hO3.cell 0
    have o1 := hO3.cell 1
    have o2 := hO3.cell 2
    simp only [List.getElem?_toArray, List.getElem?_cons_zero, List.getElem?_cons_succ] at a0 a1 a2 o0 o1 o2
    have f0 := hA3.frozen 0
    have f1 := hA3.frozen 1
    have f2 := hA3.frozen 2
    cases c with
    | true =>
      go_wp2
      have hR := ((hA3.set 0 (.int .i64 y)).set 1 (.int .i64 m)).set 2 (.int .i64 D)
      simp only [List.setIfInBounds_toArray, List.set_cons_zero, List.set_cons_succ] at hR
      refine bodyPost_ret (results_date8 _ rfl _ _ _ _ _ _ _ rfl rfl hR) rfl ⟨by rw [HN.out, HD.out]; rfl, ?_⟩
      exact ((hB3.setCell (p := ⟨w.heap.size, 0, none⟩) (Nat.le_refl _) _).setCell (p := ⟨w.heap.size, 1, none⟩) (Nat.le_refl _) _).setCell (p := ⟨w.heap.size, 2, none⟩) (Nat.le_refl _) _
    | false =>
      go_wp2
      have hR := ((hA3.set 0 (.int .i64 0)).set 1 (.int .i64 0)).set 2 (.int .i64 0)
      simp only [List.setIfInBounds_toArray, List.set_cons_zero, List.set_cons_succ] at hR
      refine bodyPost_ret (results_date8 _ rfl _ _ _ _ _ _ _ rfl rfl hR) rfl ⟨by rw [HN.out]; rfl, ?_⟩
      exact ((hB3.setCell (p := ⟨w.heap.size, 0, none⟩) (Nat.le_refl _) _).setCell (p := ⟨w.heap.size, 1, none⟩) (Nat.le_refl _) _).setCell (p := ⟨w.heap.size, 2, none⟩) (Nat.le_refl _) _

theorem nth_own (y m k n : Int) (w : World) (T : Lens w) : Calls Tryd.prog 26 #[.int .i64 y, .int .i64 m, .int .i64 k, .int .i64 n] w (NthPost y m k n w) := by
  by_cases h : mayB y m 1 = true ∧ 1 ≤ k ∧ k ≤ 7 ∧ (n = -1 ∨ 1 ≤ n ∧ n ≤ 5)
  · exact nth_good y m k n w T h.1 h.2.1 h.2.2.1 h.2.2.2
  · exact nth_bad y m k n w T h
end Go.Proofs.YtgeocjodkkkiiaaDoor
