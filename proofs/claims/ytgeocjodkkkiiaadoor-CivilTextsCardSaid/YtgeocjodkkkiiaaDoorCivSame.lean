/- Own and reference agree on texts. -/
import Derived.Test.YtgeocjodkkkiiaaDoorCivRefParse
namespace Go.Proofs.YtgeocjodkkkiiaaDoor
open Go.RowKit

theorem two_back (a b : Int) (h : 0 ≤ numL [a, b] 0) : twoL (numL [a, b] 0) = [a, b] := by
  by_cases ha : digB a = true
  · by_cases hb : digB b = true
    · have e : numL [a, b] 0 = (a - 48) * 10 + (b - 48) := by simp [numL, ha, hb]
      simp only [digB, decide_eq_true_eq] at ha hb
      rw [e]
      simp only [twoL, List.cons.injEq, and_true]
      omega
    · have e : numL [a, b] 0 = -1 := by simp [numL, ha, hb]
      omega
  · have e : numL [a, b] 0 = -1 := by simp [numL, ha]
    omega
theorem four_back (a b c d : Int) (h : 0 ≤ numL [a, b, c, d] 0) : fourL (numL [a, b, c, d] 0) = [a, b, c, d] := by
  by_cases ha : digB a = true
  · by_cases hb : digB b = true
    · by_cases hc : digB c = true
      · by_cases hd : digB d = true
        · have e : numL [a, b, c, d] 0 = (((a - 48) * 10 + (b - 48)) * 10 + (c - 48)) * 10 + (d - 48) := by simp [numL, ha, hb, hc, hd]
          simp only [digB, decide_eq_true_eq] at ha hb hc hd
          rw [e]
          simp only [fourL, List.cons.injEq, and_true]
          omega
        · have e : numL [a, b, c, d] 0 = -1 := by simp [numL, ha, hb, hc, hd]
          omega
      · have e : numL [a, b, c, d] 0 = -1 := by simp [numL, ha, hb, hc]
        omega
    · have e : numL [a, b, c, d] 0 = -1 := by simp [numL, ha, hb]
      omega
  · have e : numL [a, b, c, d] 0 = -1 := by simp [numL, ha]
    omega
theorem chr_of {s : ByteArray} {l : List Int} (hl : bytesS s = l) (i : Nat) (h : i < s.size) : l[i]? = some (chr s i) := by
  rw [← hl, bytesS_at s i h, chr_at s i h]
theorem str_is {s : ByteArray} {l : List Int} (hi : ∀ x ∈ l, 0 ≤ x ∧ x < 256) : strU l = s ↔ l = bytesS s := by
  constructor
  · intro h; rw [← h, bytesS_strU hi]
  · intro h; rw [h, bytesS_str]
theorem ten {l : List Int} (h : l.length = 10) : ∃ a b c d e f g i j k, l = [a, b, c, d, e, f, g, i, j, k] := by
  match l, h with
  | [a, b, c, d, e, f, g, i, j, k], _ => exact ⟨a, b, c, d, e, f, g, i, j, k, rfl⟩
theorem nine {l : List Int} (h : l.length = 9) : ∃ a b c d e f g i j, l = [a, b, c, d, e, f, g, i, j] := by
  match l, h with
  | [a, b, c, d, e, f, g, i, j], _ => exact ⟨a, b, c, d, e, f, g, i, j, rfl⟩
theorem par_same (s : ByteArray) : refB s = parB s := by
  by_cases hs : s.size = 10
  case neg => simp [refB, parB, hs]
  obtain ⟨a, b, c, d, e, f, g, i, j, k, hl⟩ := ten (by rw [bytesS_len]; exact hs : (bytesS s).length = 10)
  have n1 : numAt s 0 4 = numL [a, b, c, d] 0 := by unfold numAt; rw [hl]; rfl
  have n2 : numAt s 5 7 = numL [f, g] 0 := by unfold numAt; rw [hl]; rfl
  have n3 : numAt s 8 10 = numL [j, k] 0 := by unfold numAt; rw [hl]; rfl
  have c4 : chr s 4 = e := by have := chr_of hl 4 (by omega); simpa using this.symm
  have c7 : chr s 7 = i := by have := chr_of hl 7 (by omega); simpa using this.symm
  unfold refB parB
  rw [n1, n2, n3, c4, c7]
  cases hm : mayB (numL [a, b, c, d] 0) (numL [f, g] 0) (numL [j, k] 0) with
  | false => simp
  | true =>
    have hmm := (mayB_iff _ _ _).1 hm
    have q1 := four_back a b c d (by omega)
    have q2 := two_back f g (by omega)
    have q3 := two_back j k (by omega)
    have hd : strU (dateL (numL [a, b, c, d] 0) (numL [f, g] 0) (numL [j, k] 0)) = s ↔ e = 45 ∧ i = 45 := by
      rw [str_is (date_in_bytes _ _ _), hl]
      unfold dateL
      rw [q1, q2, q3]
      simp only [List.cons_append, List.nil_append, List.cons.injEq, and_true, true_and]
      omega
    rw [Bool.eq_iff_iff]
    simp only [hs, Bool.and_eq_true, decide_eq_true_eq, hd, decide_true, Bool.true_and, Bool.and_true]
theorem clk_list (r : ByteArray) (hr : r.size = 9) (hc : clockB (numAt r 1 3) (numAt r 4 6) (numAt r 7 9) = true) : ([84] ++ clockL (numAt r 1 3) (numAt r 4 6) (numAt r 7 9) = bytesS r ↔ chr r 0 = 84 ∧ chr r 3 = 58 ∧ chr r 6 = 58) := by
  obtain ⟨a, b, c, d, e, f, g, i, j, hl⟩ := nine (by rw [bytesS_len]; exact hr : (bytesS r).length = 9)
  have n1 : numAt r 1 3 = numL [b, c] 0 := by unfold numAt; rw [hl]; rfl
  have n2 : numAt r 4 6 = numL [e, f] 0 := by unfold numAt; rw [hl]; rfl
  have n3 : numAt r 7 9 = numL [i, j] 0 := by unfold numAt; rw [hl]; rfl
  have c0 : chr r 0 = a := by have := chr_of hl 0 (by omega); simpa using this.symm
  have c3 : chr r 3 = d := by have := chr_of hl 3 (by omega); simpa using this.symm
  have c6 : chr r 6 = g := by have := chr_of hl 6 (by omega); simpa using this.symm
  rw [n1, n2, n3] at hc ⊢
  rw [c0, c3, c6, hl]
  simp only [clockB, decide_eq_true_eq] at hc
  have q1 := two_back b c (by omega)
  have q2 := two_back e f (by omega)
  have q3 := two_back i j (by omega)
  unfold clockL
  rw [q1, q2, q3]
  simp only [List.cons_append, List.nil_append, List.cons.injEq, and_true, true_and]
  omega
theorem sub_num (s : ByteArray) (a b : Nat) (hb : b ≤ 9) : numAt (s.extract 10 19) a b = numAt s (10 + a) (10 + b) := by
  unfold numAt
  have : bytesS (s.extract 10 19) = ((bytesS s).drop 10).take 9 := by simp [bytesS, List.map_take, List.map_drop]
  rw [this, List.drop_take, List.take_take, List.drop_drop]
  congr 1
  rw [show 10 + b - (10 + a) = min (b - a) (9 - a) by omega]
theorem at_same (s : ByteArray) (h : s.size = 19) : atB s = (refB (s.extract 0 10) && clkB (s.extract 10 19)) := by
  have hr : (s.extract 10 19).size = 9 := by rw [ByteArray.size_extract]; omega
  have e1 := sub_num s 1 3 (by omega)
  have e2 := sub_num s 4 6 (by omega)
  have e3 := sub_num s 7 9 (by omega)
  rw [par_same]
  unfold atB clkB
  rw [← show numAt (s.extract 10 19) 1 3 = numAt s 11 13 from e1, ← show numAt (s.extract 10 19) 4 6 = numAt s 14 16 from e2, ← show numAt (s.extract 10 19) 7 9 = numAt s 17 19 from e3]
  cases hp : parB (s.extract 0 10) with
  | false => simp
  | true =>
    obtain ⟨_, hm, hq⟩ := par_yes _ hp
    cases hc : clockB (numAt (s.extract 10 19) 1 3) (numAt (s.extract 10 19) 4 6) (numAt (s.extract 10 19) 7 9) with
    | false => simp [okB, hc]
    | true =>
      have hd : strU (momL (numAt (s.extract 0 10) 0 4) (numAt (s.extract 0 10) 5 7) (numAt (s.extract 0 10) 8 10) (numAt (s.extract 10 19) 1 3) (numAt (s.extract 10 19) 4 6) (numAt (s.extract 10 19) 7 9)) = s ↔ chr (s.extract 10 19) 0 = 84 ∧ chr (s.extract 10 19) 3 = 58 ∧ chr (s.extract 10 19) 6 = 58 := by
        rw [← clk_list _ hr hc, str_is (mom_in_bytes _ _ _ _ _ _)]
        have hq' := (str_is (date_in_bytes _ _ _)).1 hq
        have hs : bytesS s = bytesS (s.extract 0 10) ++ bytesS (s.extract 10 19) := by
          have x1 : bytesS (s.extract 0 10) = (bytesS s).take 10 := by simp [bytesS, List.map_take]
          have x2 : bytesS (s.extract 10 19) = ((bytesS s).drop 10).take 9 := by simp [bytesS, List.map_take, List.map_drop]
          have x3 : ((bytesS s).drop 10).take 9 = (bytesS s).drop 10 := List.take_of_length_le (by rw [List.length_drop, bytesS_len]; omega)
          rw [x1, x2, x3, List.take_append_drop]
        rw [hs]
        unfold momL
        rw [hq', List.append_assoc]
        exact List.append_right_inj _
      rw [Bool.eq_iff_iff]
      simp only [h, hr, okB, hm, hc, Bool.and_eq_true, decide_eq_true_eq, hd, decide_true, Bool.true_and, Bool.and_true]
      omega
end Go.Proofs.YtgeocjodkkkiiaaDoor
