/- Dates' and moments' texts, read again. -/
import Derived.Test.YtgeocjodkkkiiaaDoorCivParseAt
namespace Go.Proofs.YtgeocjodkkkiiaaDoor
open Go.RowKit

theorem at_short (s : ByteArray) (h : s.size ≠ 19) (w : World) : Calls Tryd.prog 33 #[.string s] w fun e w' => e = .returned (.tuple #[.agg #[.int .i64 0, .int .i64 0, .int .i64 0, .int .i64 0, .int .i64 0, .int .i64 0], .int .i64 60]) ∧ Below w.heap.size w w' := by
  have g1 : ((s.size : Int) != 19) = true := by simp; omega
  have g2 : ((s.size : Int) == 19) = false := by simp; omega
  go_in
  go_wp2
  exact bodyPost_ret (v := .tuple #[.agg #[.int .i64 0, .int .i64 0, .int .i64 0, .int .i64 0, .int .i64 0, .int .i64 0], .int .i64 60]) (by simp [results, Tryd.results33, go_sem]) rfl ⟨rfl, below_alloc (Below.refl _ _) _⟩

theorem bytesS_strU {l : List Int} (hl : ∀ x ∈ l, 0 ≤ x ∧ x < 256) : bytesS (strU l) = l := by
  unfold bytesS strU
  simp only [List.map_map]
  conv => rhs; rw [← List.map_id l]
  apply List.map_congr_left
  intro x hx
  have := hl x hx
  simp
  omega
theorem numL_two (n : Int) (h0 : 0 ≤ n) (h1 : n ≤ 99) : numL (twoL n) 0 = n := by
  have a : digB (48 + n / 10 % 10) = true := by simp [digB]; omega
  have b : digB (48 + n % 10) = true := by simp [digB]; omega
  simp only [twoL, numL, a, b, if_true]
  omega
theorem numL_four (n : Int) (h0 : 0 ≤ n) (h1 : n ≤ 9999) : numL (fourL n) 0 = n := by
  have a : digB (48 + n / 100 / 10 % 10) = true := by simp [digB]; omega
  have b : digB (48 + n / 100 % 10) = true := by simp [digB]; omega
  have c : digB (48 + n % 100 / 10 % 10) = true := by simp [digB]; omega
  have d : digB (48 + n % 100 % 10) = true := by simp [digB]; omega
  simp only [fourL, numL, a, b, c, d, if_true]
  omega
theorem two_in (n : Int) : ∀ x ∈ twoL n, 0 ≤ x ∧ x < 256 := by
  intro x hx; simp [twoL] at hx; omega
theorem four_in (n : Int) : ∀ x ∈ fourL n, 0 ≤ x ∧ x < 256 := by
  intro x hx; simp [fourL] at hx; omega
theorem date_in_bytes (y m d : Int) : ∀ x ∈ dateL y m d, 0 ≤ x ∧ x < 256 := by
  intro x hx
  simp only [dateL, List.mem_append, List.mem_singleton] at hx
  rcases hx with (((h | rfl) | h) | rfl) | h
  · exact four_in _ _ h
  · decide
  · exact two_in _ _ h
  · decide
  · exact two_in _ _ h
theorem mom_in_bytes (y m d h mi s : Int) : ∀ x ∈ momL y m d h mi s, 0 ≤ x ∧ x < 256 := by
  intro x hx
  simp only [momL, clockL, List.mem_append, List.mem_singleton] at hx
  rcases hx with (h | rfl) | ((((h | rfl) | h) | rfl) | h)
  · exact date_in_bytes _ _ _ _ h
  · decide
  · exact two_in _ _ h
  · decide
  · exact two_in _ _ h
  · decide
  · exact two_in _ _ h
theorem date_parts (y m d : Int) (h : mayB y m d = true) : numAt (strU (dateL y m d)) 0 4 = y ∧ numAt (strU (dateL y m d)) 5 7 = m ∧ numAt (strU (dateL y m d)) 8 10 = d := by
  have hm := (mayB_iff y m d).1 h
  have hd := daysN_in y m
  unfold numAt
  rw [bytesS_strU (date_in_bytes y m d)]
  refine ⟨?_, ?_, ?_⟩
  · exact numL_four y (by omega) (by omega)
  · exact numL_two m (by omega) (by omega)
  · exact numL_two d (by omega) (by omega)
theorem parB_text (y m d : Int) (h : mayB y m d = true) : parB (strU (dateL y m d)) = true := by
  obtain ⟨e1, e2, e3⟩ := date_parts y m d h
  have hs : (strU (dateL y m d)).size = 10 := by rw [strU_size]; rfl
  unfold parB
  rw [e1, e2, e3, hs, h]
  simp
theorem mom_date (y m d h mi s : Int) : (strU (momL y m d h mi s)).extract 0 10 = strU (dateL y m d) := by
  have e : bytesS ((strU (momL y m d h mi s)).extract 0 10) = dateL y m d := by
    have : bytesS ((strU (momL y m d h mi s)).extract 0 10) = ((bytesS (strU (momL y m d h mi s))).drop 0).take (10 - 0) := by simp [bytesS, List.map_take]
    rw [this, bytesS_strU (mom_in_bytes y m d h mi s)]
    rfl
  rw [← bytesS_str ((strU (momL y m d h mi s)).extract 0 10), e]
theorem atV_text (y m d h mi s : Int) (hk : okB y m d h mi s = true) : (strU (momL y m d h mi s)).size = 19 ∧ atV (strU (momL y m d h mi s)) = .tuple #[.agg #[.int .i64 y, .int .i64 m, .int .i64 d, .int .i64 h, .int .i64 mi, .int .i64 s], .int .i64 0] := by
  obtain ⟨hm, b1, b2, b3, b4, b5, b6⟩ := (okB_iff y m d h mi s).1 hk
  have hs : (strU (momL y m d h mi s)).size = 19 := by rw [strU_size]; rfl
  obtain ⟨e1, e2, e3⟩ := date_parts y m d hm
  have c1 : numAt (strU (momL y m d h mi s)) 11 13 = h := by
    unfold numAt; rw [bytesS_strU (mom_in_bytes y m d h mi s)]; exact numL_two h (by omega) (by omega)
  have c2 : numAt (strU (momL y m d h mi s)) 14 16 = mi := by
    unfold numAt; rw [bytesS_strU (mom_in_bytes y m d h mi s)]; exact numL_two mi (by omega) (by omega)
  have c3 : numAt (strU (momL y m d h mi s)) 17 19 = s := by
    unfold numAt; rw [bytesS_strU (mom_in_bytes y m d h mi s)]; exact numL_two s (by omega) (by omega)
  have ht : atB (strU (momL y m d h mi s)) = true := by
    unfold atB
    rw [mom_date, e1, e2, e3, c1, c2, c3, hs, parB_text y m d hm, hk]
    simp
  refine ⟨hs, ?_⟩
  unfold atV
  rw [if_pos ht, mom_date, e1, e2, e3, c1, c2, c3]
theorem par_yes (s : ByteArray) (h : parB s = true) : parV s = .tuple #[.agg #[.int .i64 (numAt s 0 4), .int .i64 (numAt s 5 7), .int .i64 (numAt s 8 10)], .int .i64 0] ∧ mayB (numAt s 0 4) (numAt s 5 7) (numAt s 8 10) = true ∧ strU (dateL (numAt s 0 4) (numAt s 5 7) (numAt s 8 10)) = s := by
  refine ⟨by rw [parV, if_pos h], ?_⟩
  simp only [parB, Bool.and_eq_true, decide_eq_true_eq] at h
  exact ⟨h.1.2, h.2⟩
theorem par_no (s : ByteArray) (h : parB s = false) : parV s = .tuple #[.agg #[.int .i64 0, .int .i64 0, .int .i64 0], .int .i64 60] := by
  rw [parV, if_neg (by simp [h])]
theorem date_nsame (w : World) (a b c : Int) : (binOp .neq 23 (.agg #[.int .i64 a, .int .i64 b, .int .i64 c]) (.agg #[.int .i64 a, .int .i64 b, .int .i64 c])).run Tryd.prog w = .ok (.bool false) w := by
  rw [run_neq_struct, date_in w 9998]; simp
theorem date_nguard (w : World) (x y : Operand) (xs ys : Array Value) : (eqGuard .neq 23 x y (.agg xs) (.agg ys)).run Tryd.prog w = .ok () w := run_eqGuard_agg w .neq 23 x y xs ys (by kernel_rfl)
theorem mom_nsame (w : World) (a b c d e f : Int) : (binOp .neq 41 (.agg #[.int .i64 a, .int .i64 b, .int .i64 c, .int .i64 d, .int .i64 e, .int .i64 f]) (.agg #[.int .i64 a, .int .i64 b, .int .i64 c, .int .i64 d, .int .i64 e, .int .i64 f])).run Tryd.prog w = .ok (.bool false) w := by
  rw [run_neq_struct, moment_in w 9997]; simp
theorem mom_nguard (w : World) (x y : Operand) (xs ys : Array Value) : (eqGuard .neq 41 x y (.agg xs) (.agg ys)).run Tryd.prog w = .ok () w := run_eqGuard_agg w .neq 41 x y xs ys (by kernel_rfl)
end Go.Proofs.YtgeocjodkkkiiaaDoor
