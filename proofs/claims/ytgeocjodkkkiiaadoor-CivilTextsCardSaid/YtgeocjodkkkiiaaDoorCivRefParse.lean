/- The reference's Parse and ParseClock. -/
import Derived.Test.YtgeocjodkkkiiaaDoorCivUndo
namespace Go.Proofs.YtgeocjodkkkiiaaDoor
open Go.RowKit

theorem ext_num (s : ByteArray) (a b : Nat) : numL (bytesS (s.extract a b)) 0 = numAt s a b := by
  have : bytesS (s.extract a b) = ((bytesS s).drop a).take (b - a) := by simp [bytesS, List.map_take, List.map_drop]
  rw [this]; rfl
/-- A text is a date's, as the reference has it. -/
def refB (s : ByteArray) : Bool := decide (s.size = 10) && decide (chr s 4 = 45) && decide (chr s 7 = 45) && mayB (numAt s 0 4) (numAt s 5 7) (numAt s 8 10)
def refV (s : ByteArray) : Value := if refB s = true then .tuple #[.int .i64 (numAt s 0 4), .int .i64 (numAt s 5 7), .int .i64 (numAt s 8 10), .int .i64 0] else .tuple #[.int .i64 0, .int .i64 0, .int .i64 0, .int .i64 60]
theorem refV_no {s : ByteArray} (h : refB s = false) : refV s = .tuple #[.int .i64 0, .int .i64 0, .int .i64 0, .int .i64 60] := by rw [refV, if_neg (by simp [h])]

set_option maxRecDepth 100000 in
set_option maxHeartbeats 4000000 in
theorem parse_ref (s : ByteArray) (w : World) : Calls Tryd.prog 32 #[.string s] w fun e w' => e = .returned (refV s) ∧ w = w' := by
  by_cases h : s.size = 10
  case neg =>
    have HV := Lib.hid (refV_no (s := s) (by simp [refB, h]))
    rw [HV.out]
    have g1 : ((s.size : Int) != 10) = true := by simp; omega
    have g2 : ((s.size : Int) == 10) = false := by simp; omega
    go_in
    go_wp2
    refine bodyPost_ret (v := .tuple #[.int .i64 0, .int .i64 0, .int .i64 0, .int .i64 60]) (by simp [results, Tryd.results32, go_sem]) rfl ⟨rfl, rfl⟩
  have c4 := chr_at s 4 (by omega)
  have c7 := chr_at s 7 (by omega)
  by_cases h4 : chr s 4 = 45
  case neg =>
    have HV := Lib.hid (refV_no (s := s) (by simp [refB, h4]))
    rw [HV.out]
    rw [c4] at h4
    have h4' : (((s[4]'(by omega)).toNat : Int) == 45) = false := by simpa using h4
    clear c4 c7
    go_in
    go_wp2
    refine bodyPost_ret (v := .tuple #[.int .i64 0, .int .i64 0, .int .i64 0, .int .i64 60]) (by simp [results, Tryd.results32, go_sem]) rfl ⟨rfl, rfl⟩
  by_cases h7 : chr s 7 = 45
  case neg =>
    have HV := Lib.hid (refV_no (s := s) (by simp [refB, h7]))
    rw [HV.out]
    rw [c7] at h7
    rw [c4] at h4
    clear c4 c7
    go_in
    go_wp2
    refine bodyPost_ret (v := .tuple #[.int .i64 0, .int .i64 0, .int .i64 0, .int .i64 60]) (by simp [results, Tryd.results32, go_sem]) rfl ⟨rfl, rfl⟩
  have C1 := Lib.hid (fun W => number_ref (s.extract 0 4) (by rw [ByteArray.size_extract]; omega) W)
  have C2 := Lib.hid (fun W => number_ref (s.extract 5 7) (by rw [ByteArray.size_extract]; omega) W)
  have C3 := Lib.hid (fun W => number_ref (s.extract 8 10) (by rw [ByteArray.size_extract]; omega) W)
  have HV := Lib.hid (show refV s = if mayB (numAt s 0 4) (numAt s 5 7) (numAt s 8 10) = true then .tuple #[.int .i64 (numAt s 0 4), .int .i64 (numAt s 5 7), .int .i64 (numAt s 8 10), .int .i64 0] else .tuple #[.int .i64 0, .int .i64 0, .int .i64 0, .int .i64 60] by simp [refV, refB, h, h4, h7])
  rw [c4] at h4
  rw [c7] at h7
  clear c4 c7
  cases hm : mayB (numAt s 0 4) (numAt s 5 7) (numAt s 8 10) with
  | true =>
    rw [hm, if_pos rfl] at HV
    rw [HV.out]
    go_in
    go_wp2_with (first
      | (go_at_call 40; (with_reducible refine (C1.out _).mono ?_); rintro e w' ⟨rfl, rfl⟩; rw [ext_num])
      | (go_at_call 40; (with_reducible refine (C2.out _).mono ?_); rintro e w' ⟨rfl, rfl⟩; rw [ext_num])
      | (go_at_call 40; (with_reducible refine (C3.out _).mono ?_); rintro e w' ⟨rfl, rfl⟩; rw [ext_num])
      | (go_at_call 10; refine (may_ref _ _ _ _).mono ?_; rintro e w' ⟨rfl, rfl⟩; rw [hm]))
    refine bodyPost_ret (v := .tuple #[.int .i64 (numAt s 0 4), .int .i64 (numAt s 5 7), .int .i64 (numAt s 8 10), .int .i64 0]) (by simp [results, Tryd.results32, go_sem]) rfl ⟨rfl, rfl⟩
  | false =>
    rw [hm, if_neg (by decide)] at HV
    rw [HV.out]
    go_in
    go_wp2_with (first
      | (go_at_call 40; (with_reducible refine (C1.out _).mono ?_); rintro e w' ⟨rfl, rfl⟩; rw [ext_num])
      | (go_at_call 40; (with_reducible refine (C2.out _).mono ?_); rintro e w' ⟨rfl, rfl⟩; rw [ext_num])
      | (go_at_call 40; (with_reducible refine (C3.out _).mono ?_); rintro e w' ⟨rfl, rfl⟩; rw [ext_num])
      | (go_at_call 10; refine (may_ref _ _ _ _).mono ?_; rintro e w' ⟨rfl, rfl⟩; rw [hm]))
    refine bodyPost_ret (v := .tuple #[.int .i64 0, .int .i64 0, .int .i64 0, .int .i64 60]) (by simp [results, Tryd.results32, go_sem]) rfl ⟨rfl, rfl⟩

/-- The rest of a moment's text is a time's, as the reference has it. -/
def clkB (s : ByteArray) : Bool := decide (s.size = 9) && decide (chr s 0 = 84) && decide (chr s 3 = 58) && decide (chr s 6 = 58) && clockB (numAt s 1 3) (numAt s 4 6) (numAt s 7 9)
def clkV (s : ByteArray) : Value := if clkB s = true then .tuple #[.int .i64 (numAt s 1 3), .int .i64 (numAt s 4 6), .int .i64 (numAt s 7 9), .int .i64 0] else .tuple #[.int .i64 0, .int .i64 0, .int .i64 0, .int .i64 60]
theorem clkV_no {s : ByteArray} (h : clkB s = false) : clkV s = .tuple #[.int .i64 0, .int .i64 0, .int .i64 0, .int .i64 60] := by rw [clkV, if_neg (by simp [h])]

set_option maxRecDepth 100000 in
set_option maxHeartbeats 4000000 in
theorem clock_parse (s : ByteArray) (w : World) : Calls Tryd.prog 34 #[.string s] w fun e w' => e = .returned (clkV s) ∧ w = w' := by
  by_cases h : s.size = 9
  case neg =>
    have HV := Lib.hid (clkV_no (s := s) (by simp [clkB, h]))
    rw [HV.out]
    have g1 : ((s.size : Int) != 9) = true := by simp; omega
    have g2 : ((s.size : Int) == 9) = false := by simp; omega
    go_in
    go_wp2
    refine bodyPost_ret (v := .tuple #[.int .i64 0, .int .i64 0, .int .i64 0, .int .i64 60]) (by simp [results, Tryd.results34, go_sem]) rfl ⟨rfl, rfl⟩
  have c0 := chr_at s 0 (by omega)
  have c3 := chr_at s 3 (by omega)
  have c6 := chr_at s 6 (by omega)
  by_cases h0 : chr s 0 = 84
  case neg =>
    have HV := Lib.hid (clkV_no (s := s) (by simp [clkB, h0]))
    rw [HV.out]
    rw [c0] at h0
    clear c0 c3 c6
    go_in
    go_wp2
    refine bodyPost_ret (v := .tuple #[.int .i64 0, .int .i64 0, .int .i64 0, .int .i64 60]) (by simp [results, Tryd.results34, go_sem]) rfl ⟨rfl, rfl⟩
  by_cases h3 : chr s 3 = 58
  case neg =>
    have HV := Lib.hid (clkV_no (s := s) (by simp [clkB, h3]))
    rw [HV.out]
    rw [c0] at h0
    rw [c3] at h3
    clear c0 c3 c6
    go_in
    go_wp2
    refine bodyPost_ret (v := .tuple #[.int .i64 0, .int .i64 0, .int .i64 0, .int .i64 60]) (by simp [results, Tryd.results34, go_sem]) rfl ⟨rfl, rfl⟩
  by_cases h6 : chr s 6 = 58
  case neg =>
    have HV := Lib.hid (clkV_no (s := s) (by simp [clkB, h6]))
    rw [HV.out]
    rw [c0] at h0
    rw [c3] at h3
    rw [c6] at h6
    clear c0 c3 c6
    go_in
    go_wp2
    refine bodyPost_ret (v := .tuple #[.int .i64 0, .int .i64 0, .int .i64 0, .int .i64 60]) (by simp [results, Tryd.results34, go_sem]) rfl ⟨rfl, rfl⟩
  have C1 := Lib.hid (fun W => number_ref (s.extract 1 3) (by rw [ByteArray.size_extract]; omega) W)
  have C2 := Lib.hid (fun W => number_ref (s.extract 4 6) (by rw [ByteArray.size_extract]; omega) W)
  have C3 := Lib.hid (fun W => number_ref (s.extract 7 9) (by rw [ByteArray.size_extract]; omega) W)
  have HV := Lib.hid (show clkV s = if clockB (numAt s 1 3) (numAt s 4 6) (numAt s 7 9) = true then .tuple #[.int .i64 (numAt s 1 3), .int .i64 (numAt s 4 6), .int .i64 (numAt s 7 9), .int .i64 0] else .tuple #[.int .i64 0, .int .i64 0, .int .i64 0, .int .i64 60] by simp [clkV, clkB, h, h0, h3, h6])
  rw [c0] at h0
  rw [c3] at h3
  rw [c6] at h6
  clear c0 c3 c6
  cases hm : clockB (numAt s 1 3) (numAt s 4 6) (numAt s 7 9) with
  | true =>
    rw [hm, if_pos rfl] at HV
    rw [HV.out]
    go_in
    go_wp2_with (first
      | (go_at_call 40; (with_reducible refine (C1.out _).mono ?_); rintro e w' ⟨rfl, rfl⟩; rw [ext_num])
      | (go_at_call 40; (with_reducible refine (C2.out _).mono ?_); rintro e w' ⟨rfl, rfl⟩; rw [ext_num])
      | (go_at_call 40; (with_reducible refine (C3.out _).mono ?_); rintro e w' ⟨rfl, rfl⟩; rw [ext_num])
      | (go_at_call 23; refine (clock_ref _ _ _ _).mono ?_; rintro e w' ⟨rfl, rfl⟩; rw [hm]))
    refine bodyPost_ret (v := .tuple #[.int .i64 (numAt s 1 3), .int .i64 (numAt s 4 6), .int .i64 (numAt s 7 9), .int .i64 0]) (by simp [results, Tryd.results34, go_sem]) rfl ⟨rfl, rfl⟩
  | false =>
    rw [hm, if_neg (by decide)] at HV
    rw [HV.out]
    go_in
    go_wp2_with (first
      | (go_at_call 40; (with_reducible refine (C1.out _).mono ?_); rintro e w' ⟨rfl, rfl⟩; rw [ext_num])
      | (go_at_call 40; (with_reducible refine (C2.out _).mono ?_); rintro e w' ⟨rfl, rfl⟩; rw [ext_num])
      | (go_at_call 40; (with_reducible refine (C3.out _).mono ?_); rintro e w' ⟨rfl, rfl⟩; rw [ext_num])
      | (go_at_call 23; refine (clock_ref _ _ _ _).mono ?_; rintro e w' ⟨rfl, rfl⟩; rw [hm]))
    refine bodyPost_ret (v := .tuple #[.int .i64 0, .int .i64 0, .int .i64 0, .int .i64 60]) (by simp [results, Tryd.results34, go_sem]) rfl ⟨rfl, rfl⟩
end Go.Proofs.YtgeocjodkkkiiaaDoor
