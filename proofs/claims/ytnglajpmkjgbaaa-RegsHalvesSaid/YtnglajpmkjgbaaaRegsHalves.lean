/- The law RegsHalves. -/
import Derived.Test.YtnglajpmkjgbaaaRegsAlive
namespace Go.Proofs.Ytnglajpmkjgbaaa
open Go.RowKit

theorem halves_1 (v : Int) : wordsX v 4 1 = [v / 281474976710656 % 65536, v / 4294967296 % 65536, v / 65536 % 65536, v % 65536] ∧ wordsE v 4 1 = 0 := by
  simp [wordsX, wordsE, wordsB, fitsB, knownB, turnL, bigW]
theorem halves_2 (v : Int) : wordsX v 4 2 = [v % 65536, v / 65536 % 65536, v / 4294967296 % 65536, v / 281474976710656 % 65536] ∧ wordsE v 4 2 = 0 := by
  simp [wordsX, wordsE, wordsB, fitsB, knownB, turnL, bigW]
theorem halves_v1 (a b : Int) : valX [a, b] 1 = a * 65536 + b ∧ valE [a, b] 1 = 0 := by
  simp [valX, valE, valB, knownB, turnL, valN]
theorem halves_v2 (a b : Int) : valX [a, b] 2 = b * 65536 + a ∧ valE [a, b] 2 = 0 := by
  simp [valX, valE, valB, knownB, turnL, valN]
theorem halves_v3 (a : Int) : valX [a] 3 = a % 256 * 256 + a / 256 ∧ valE [a] 3 = 0 := by
  simp [valX, valE, valB, knownB, turnL, valN, swapB]

theorem swap_back (x : Int) (h : 0 ≤ x) (h' : x < 65536) : (x % 256 * 256 + x / 256) % 256 * 256 + (x % 256 * 256 + x / 256) / 256 = x := by
  obtain ⟨a, ha⟩ : ∃ a, a = x / 256 := ⟨_, rfl⟩
  obtain ⟨b, hb⟩ : ∃ b, b = x % 256 := ⟨_, rfl⟩
  have e1 : (b * 256 + a) % 256 = a := by omega
  have e2 : (b * 256 + a) / 256 = b := by omega
  rw [← ha, ← hb, e1, e2]
  omega
theorem law_halves (v : Int) (h0 : 0 ≤ v) (hv : v ≤ 18446744073709551615) (w : World) :
    Calls Try.prog 5 #[.int .u64 v] w fun e w' => e = .returned (.bool true) ∧ Below w.heap.size w w' := by
  obtain ⟨x0, hx0⟩ : ∃ x, x = v / 281474976710656 % 65536 := ⟨_, rfl⟩
  obtain ⟨x1, hx1⟩ : ∃ x, x = v / 4294967296 % 65536 := ⟨_, rfl⟩
  obtain ⟨x2, hx2⟩ : ∃ x, x = v / 65536 % 65536 := ⟨_, rfl⟩
  obtain ⟨x3, hx3⟩ : ∃ x, x = v % 65536 := ⟨_, rfl⟩
  have hb : (0 ≤ x0 ∧ x0 < 65536) ∧ (0 ≤ x1 ∧ x1 < 65536) ∧ (0 ≤ x2 ∧ x2 < 65536) ∧ (0 ≤ x3 ∧ x3 < 65536) := by omega
  have hv' : v = x0 * 281474976710656 + x1 * 4294967296 + x2 * 65536 + x3 := by omega
  have HA := Lib.hid (halves_1 v)
  have HB := Lib.hid (halves_2 v)
  rw [← hx0, ← hx1, ← hx2, ← hx3] at HA HB
  have HV := Lib.hid hv'
  have H3 := Lib.hid hx3
  clear hx0 hx1 hx2 hx3 hv'
  obtain ⟨⟨b0, b0'⟩, ⟨b1, b1'⟩, ⟨b2, b2'⟩, ⟨b3, b3'⟩⟩ := hb
  have hin : ∀ l : List Int, (∀ x ∈ l, x = x0 ∨ x = x1 ∨ x = x2 ∨ x = x3) → ∀ x ∈ l, 0 ≤ x ∧ x < 65536 := fun l h x hx => by rcases h x hx with rfl | rfl | rfl | rfl <;> omega
  have HIN := Lib.hid hin
  clear hin
  go_in
  go_wp2_with fail
  refine (alive_any _).mono ?_
  rintro e w1 ⟨rfl, hb1⟩
  go_wp2_with fail
  refine (words_sl v 4 1 h0 hv _).mono ?_
  rintro e w2 ⟨A, n, c, rfl, hs, hb2⟩
  rw [HA.out.1] at hs; rw [HA.out.2]
  obtain rfl : 4 = n := hs.1
  obtain ⟨g, off, rfl, _⟩ := hs.some_ (by omega)
  have hc4 : 4 ≤ c := hs.2.1
  have HS := Lib.hid hs
  clear hs
  go_wp2_with fail
  refine (words_sl v 4 2 h0 hv _).mono ?_
  rintro e w3 ⟨A, n, c', rfl, hs, hb3⟩
  rw [HB.out.1] at hs; rw [HB.out.2]
  obtain rfl : 4 = n := hs.1
  obtain ⟨g', off', rfl, _⟩ := hs.some_ (by omega)
  have hc4' : 4 ≤ c' := hs.2.1
  have HS' := Lib.hid hs
  clear hs
  go_wp2_with fail
  refine (value_sl _ 2 c [x0, x1] 1 _ ((HS.out.up hb3).take 2 (by omega)) (HIN.out _ (by simp))).mono ?_
  rintro e w4 ⟨rfl, hb4⟩
  rw [(halves_v1 x0 x1).1, (halves_v1 x0 x1).2]
  go_wp2_with fail
  refine (value_sl _ 2 (c - 2) [x2, x3] 1 _ (((HS.out.up hb3).up hb4).drop 2 (by omega)) (HIN.out _ (by simp))).mono ?_
  rintro e w5 ⟨rfl, hb5⟩
  rw [(halves_v1 x2 x3).1, (halves_v1 x2 x3).2]
  go_wp2_with fail
  refine (value_sl _ 2 c' [x3, x2] 2 _ (((HS'.out.up hb4).up hb5).take 2 (by omega)) (HIN.out _ (by simp))).mono ?_
  rintro e w6 ⟨rfl, hb6⟩
  rw [(halves_v2 x3 x2).1, (halves_v2 x3 x2).2]
  go_wp2_with fail
  refine (value_sl _ 2 (c' - 2) [x1, x0] 2 _ ((((HS'.out.up hb4).up hb5).up hb6).drop 2 (by omega)) (HIN.out _ (by simp))).mono ?_
  rintro e w7 ⟨rfl, hb7⟩
  rw [(halves_v2 x1 x0).1, (halves_v2 x1 x0).2]
  go_wp2_with fail
  refine (value_sl _ 1 (c - 3) [x3] 3 _ ((((((HS.out.up hb3).up hb4).up hb5).up hb6).up hb7).drop 3 (by omega)) (HIN.out _ (by simp))).mono ?_
  rintro e w8 ⟨rfl, hb8⟩
  rw [(halves_v3 x3).1, (halves_v3 x3).2]
  have e1 : ((x0 * 65536 + x1) * 4294967296 + (x2 * 65536 + x3) == v) = true := by have := HV.out; simp; omega
  have e3 : ((x3 % 256 * 256 + x3 / 256) % 256 * 256 + (x3 % 256 * 256 + x3 / 256) / 256 == v % 65536) = true := by rw [swap_back x3 b3 b3', H3.out]; simp
  have e4 : x3 % 256 * 256 + x3 / 256 < 65536 := by omega
  have e5 : 0 ≤ x3 % 256 * 256 + x3 / 256 := by omega
  generalize x3 % 256 * 256 + x3 / 256 = y at e3 e4 e5 ⊢
  go_wp2_with fail
  go_ret
  exact ⟨rfl, below_step (below_step (below_step (below_step (below_step (below_step (below_step hb1 hb2) hb3) hb4) hb5) hb6) hb7) hb8⟩
end Go.Proofs.Ytnglajpmkjgbaaa
