/- civil.digits, at dates' numbers. -/
import Derived.Test.YtgeocjodkkkiiaaDoorCivBase2
import Derived.Test.YtgeocjodkkkiiaaDoorCivTxt
import Derived.Test.YtgeocjodkkkiiaaDoorShelf
import Derived.Sort.Grow
import Derived.Test.YtgeocjodkkkiiaaDoorBoxes
namespace Go.Proofs.YtgeocjodkkkiiaaDoor
open Go.RowKit Go.Shelf Go.Sort

/-- What lay below stays, where the world has drawn and blocks have been laid behind. -/
theorem below_grown (w : World) (q : Nat) (os : Array Obj) : Below w.heap.size w (grow (w.drewN q) os) :=
  ⟨rfl, rfl, rfl, by simp [grow], fun i hi => by
    show ((w.drewN q).heap ++ os)[i]? = _
    rw [Array.getElem?_append_left (by show i < w.heap.size; omega)]
    rfl⟩

set_option maxRecDepth 100000 in
theorem rep_one (s : ByteArray) (w : World) : Calls Tryd.prog 44 #[.string s, .int .i64 1] w fun e w' => e = .returned (.string s) ∧ w = w' := by
  go_in
  go_wp2_with fail
  go_ret
  exact ⟨rfl, rfl⟩
set_option maxRecDepth 100000 in
theorem rep_none (s : ByteArray) (w : World) : Calls Tryd.prog 44 #[.string s, .int .i64 0] w fun e w' => e = .returned (.string ⟨#[]⟩) ∧ w = w' := by
  go_in
  go_wp2_with fail
  go_ret
  exact ⟨rfl, rfl⟩

set_option maxRecDepth 100000 in
set_option maxHeartbeats 1000000 in
theorem digits_two (n : Int) (h0 : 0 ≤ n) (h1 : n ≤ 99) (w : World) : Calls Tryd.prog 38 #[.int .i64 n, .int .i64 2] w fun e w' => e = .returned (.string (strU (twoL n))) ∧ w = w' := by
  obtain ⟨u, rfl⟩ := Int.eq_ofNat_of_zero_le h0
  have hln : (Lib.decDigits u).length ≤ 2 := by
    by_cases h : u < 10
    · rw [dec_one u h]; exact Nat.le_succ 1
    · rw [dec_two u h (by omega)]; exact Nat.le_refl _
  by_cases h : u < 10
  · have HD := Lib.hid (dec_small u h)
    have hl := Lib.hid (show max 0 (2 - ((Lib.decDigits u).length : Int)) = 1 by rw [show (Lib.decDigits u).length = 1 by rw [dec_one u h]; rfl]; decide +kernel)
    go_in
    go_wp2_with fail
    refine (Tryd.strconv_Itoa_small u (by omega) _).mono ?_
    rintro e w' ⟨rfl, rfl⟩
    go_wp2_with fail
    rw [hl.out]
    refine (rep_one _ _).mono ?_
    rintro e w' ⟨rfl, rfl⟩
    go_wp2_with fail
    go_ret
    exact ⟨by rw [← HD.out]; rfl, rfl⟩
  · have HD := Lib.hid (dec_big u h (by omega))
    have hl := Lib.hid (show max 0 (2 - ((Lib.decDigits u).length : Int)) = 0 by rw [show (Lib.decDigits u).length = 2 by rw [dec_two u h (by omega)]; rfl]; decide +kernel)
    go_in
    go_wp2_with fail
    refine (Tryd.strconv_Itoa_small u (by omega) _).mono ?_
    rintro e w' ⟨rfl, rfl⟩
    go_wp2_with fail
    rw [hl.out]
    refine (rep_none _ _).mono ?_
    rintro e w' ⟨rfl, rfl⟩
    go_wp2_with fail
    go_ret
    exact ⟨by rw [← HD.out]; rfl, rfl⟩

set_option maxRecDepth 100000 in
set_option maxHeartbeats 1000000 in
theorem digits_four (n : Int) (h0 : 1000 ≤ n) (h1 : n ≤ 9999) (w : World) (ht : Lib.TabIs Tryd.prog w "internal/strconv.uint64pow10" .u64 Lib.pow10Tab) : Calls Tryd.prog 38 #[.int .i64 n, .int .i64 4] w fun e w' => e = .returned (.string (strU (fourL n))) ∧ Below w.heap.size w w' := by
  obtain ⟨u, rfl⟩ := Int.eq_ofNat_of_zero_le (show 0 ≤ n by omega)
  have h2 : (Lib.itoa (u : Int)) = Lib.decDigits u := by unfold Lib.itoa; rw [if_neg (by omega)]; rfl
  have HD := Lib.hid (dec_four u (by omega) (by omega))
  have hl := Lib.hid (show max 0 (4 - ((Lib.decDigits u).length : Int)) = 0 by
    rw [show (Lib.decDigits u).length = 4 by rw [dec_step u (by omega), dec_step (u / 10) (by omega), dec_step (u / 10 / 10) (by omega), dec_one (u / 10 / 10 / 10) (by omega)]; rfl]; decide +kernel)
  have H2 := Lib.hid h2
  have hln : (Lib.decDigits u).length ≤ 4 := by
    rw [dec_step u (by omega), dec_step (u / 10) (by omega), dec_step (u / 10 / 10) (by omega), dec_one (u / 10 / 10 / 10) (by omega)]; exact Nat.le_refl _
  clear h2
  go_in
  go_wp2_with fail
  refine (Tryd.strconv_Itoa u (by omega) (by omega) _ ht).mono ?_
  rintro e w' ⟨rfl, k, os, rfl⟩
  rw [H2.out]
  go_wp2_with fail
  rw [hl.out]
  refine (rep_none _ _).mono ?_
  rintro e w' ⟨rfl, rfl⟩
  go_wp2_with fail
  go_ret
  exact ⟨by rw [← HD.out]; rfl, below_grown _ _ _⟩

theorem conv_two (a b : Int) (wr : World) : (convert 62 9 (.slice (some ⟨wr.heap.size, 0, none⟩) 2 2)).run Tryd.prog (wr.alloc (.cells #[.int .u8 a, .int .u8 b] 5)) = .ok (.string (strU [a, b])) (wr.alloc (.cells #[.int .u8 a, .int .u8 b] 5)) := by
  refine run_convert_bytes_arg (P := Tryd.prog) _ 62 5 Tryd.underlying62 Tryd.underlying5 wr.heap.size 0 2 2 [a, b] rfl (fun i hi => ?_) 9 Tryd.underlying9
  rcases (show i = 0 ∨ i = 1 by omega) with rfl | rfl
  · exact (Held.new wr 5 #[.int .u8 a, .int .u8 b]).cell 0
  · exact (Held.new wr 5 #[.int .u8 a, .int .u8 b]).cell 1
/-- The reference's digits. -/
theorem two_ref (n : Int) (h0 : 0 ≤ n) (h1 : n ≤ 9999) (w : World) : Calls Tryd.prog 28 #[.int .i64 n] w fun e w' => e = .returned (.string (strU (twoL n))) ∧ Below w.heap.size w w' := by
  have hcv := fun (wr : World) => conv_two (48 + n / 10 % 10) (48 + n % 10) wr
  go_in
  go_wp2_with fail
  go_ret
  exact ⟨rfl, below_alloc (Below.refl _ _) _⟩
theorem four_ref (n : Int) (h0 : 0 ≤ n) (h1 : n ≤ 9999) (w : World) : Calls Tryd.prog 27 #[.int .i64 n] w fun e w' => e = .returned (.string (strU (fourL n))) ∧ Below w.heap.size w w' := by
  have hsz := strU_size
  go_in
  go_wp2_with fail
  refine (two_ref (n / 100) (by omega) (by omega) _).mono ?_
  rintro e w1 ⟨rfl, hb1⟩
  go_wp2_with fail
  refine (two_ref (n % 100) (by omega) (by omega) _).mono ?_
  rintro e w2 ⟨rfl, hb2⟩
  go_wp2_with fail
  go_ret
  exact ⟨by rw [strU_append]; rfl, below_step hb1 hb2⟩
end Go.Proofs.YtgeocjodkkkiiaaDoor
