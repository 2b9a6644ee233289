/- The four functions by what they answer, for slices that are told whole. -/
import Derived.Test.YtnglajpmkjgbaaaRegsRefValue
import Derived.Test.YtnglajpmkjgbaaaRegsSame
namespace Go.Proofs.Ytnglajpmkjgbaaa
open Go.RowKit

def wordsX (v m o : Int) : List Int := if wordsB v m o then turnL o (bigW v m) else []
def wordsE (v m o : Int) : Int := if wordsB v m o then 0 else 20
def valX (xs : List Int) (o : Int) : Int := if valB xs.length o then valN (turnL o xs) else 0
def valE (xs : List Int) (o : Int) : Int := if valB xs.length o then 0 else 20

theorem wordsX_len (v m o : Int) : (wordsX v m o).length ≤ 4 := by
  unfold wordsX
  split
  · rw [turnL_len]; unfold bigW; split
    · simp
    · split <;> simp
  · simp

theorem words_sl (v m o : Int) (h0 : 0 ≤ v) (hv : v ≤ 18446744073709551615) (w : World) :
    Calls Try.prog 14 #[.int .u64 v, .int .i64 m, .int .i64 o] w fun e w' => ∃ A n c, e = .returned (.tuple #[.slice A n c, .int .i64 (wordsE v m o)]) ∧ SlI w' w'.heap.size .u16 A n c (wordsX v m o) ∧ Below w.heap.size w w' := by
  cases h : wordsB v m o with
  | false =>
    refine (words_no v m o h0 hv w h).mono ?_
    rintro e w' ⟨rfl, rfl⟩
    exact ⟨none, 0, 0, by simp [wordsE, h], by simp [wordsX, h]; exact SlI.nil _ _ _, Below.refl _ _⟩
  | true =>
    refine (words_own v m o h0 hv w h).mono ?_
    rintro e w' ⟨u, rfl, hown, hb⟩
    obtain ⟨A, c, rfl, hs⟩ := SlI.of_own hown
    exact ⟨A, (turnL o (bigW v m)).length, c, by simp [wordsE, h], by simp [wordsX, h]; exact hs, hb⟩

theorem refwords_sl (v m o : Int) (h0 : 0 ≤ v) (hv : v ≤ 18446744073709551615) (w : World) :
    Calls Try.prog 15 #[.int .u64 v, .int .i64 m, .int .i64 o] w fun e w' => ∃ A n c, e = .returned (.tuple #[.slice A n c, .int .i64 (wordsE v m o)]) ∧ SlI w' w'.heap.size .u16 A n c (wordsX v m o) ∧ Below w.heap.size w w' := by
  cases h : wordsB v m o with
  | false =>
    refine (refwords_no v m o w h).mono ?_
    rintro e w' ⟨rfl, rfl⟩
    exact ⟨none, 0, 0, by simp [wordsE, h], by simp [wordsX, h]; exact SlI.nil _ _ _, Below.refl _ _⟩
  | true =>
    have h' := h
    simp only [wordsB, Bool.and_eq_true] at h'
    refine (refwords_yes v m o h0 hv w h'.1 h'.2).mono ?_
    rintro e w' ⟨u, k, rfl, rfl, hown, hb⟩
    rw [words_same v o k (by have := h'.1; simp [fitsB] at this; omega) h'.2] at hown
    obtain ⟨A, c, rfl, hs⟩ := SlI.of_own hown
    exact ⟨A, k, c, by simp [wordsE, h], by simp [wordsX, h]; exact hs, hb⟩

theorem value_sl (A : Option Addr) (n c : Nat) (xs : List Int) (o : Int) (w : World) (hS : SlI w w.heap.size .u16 A n c xs) (hx : ∀ x ∈ xs, 0 ≤ x ∧ x < 65536) :
    Calls Try.prog 16 #[.slice A n c, .int .i64 o] w fun e w' => e = .returned (.tuple #[.int .u64 (valX xs o), .int .i64 (valE xs o)]) ∧ Below w.heap.size w w' := by
  obtain ⟨hl, hnc, hc, hnone, hrd⟩ := hS
  cases h : valB n o with
  | false =>
    refine (value_no A n c o (by unfold maxLen at hc; omega) w h).mono ?_
    rintro e w' ⟨rfl, rfl⟩
    exact ⟨by simp [valX, valE, hl, h], Below.refl _ _⟩
  | true =>
    cases A with
    | none =>
      obtain ⟨rfl, _⟩ := hnone rfl
      simp [valB] at h
    | some a =>
      refine (value_own a n c xs o w hrd hl hx h).mono ?_
      rintro e w' ⟨rfl, hb⟩
      exact ⟨by simp [valX, valE, hl, h], hb⟩

theorem refvalue_sl (A : Option Addr) (n c : Nat) (xs : List Int) (o : Int) (w : World) (hS : SlI w w.heap.size .u16 A n c xs) (hx : ∀ x ∈ xs, 0 ≤ x ∧ x < 65536) :
    Calls Try.prog 17 #[.slice A n c, .int .i64 o] w fun e w' => e = .returned (.tuple #[.int .u64 (valX xs o), .int .i64 (valE xs o)]) ∧ Below w.heap.size w w' := by
  obtain ⟨hl, hnc, hc, hnone, hrd⟩ := hS
  cases h : valB n o with
  | false =>
    refine (refvalue_no A n c o w h).mono ?_
    rintro e w' ⟨rfl, rfl⟩
    exact ⟨by simp [valX, valE, hl, h], Below.refl _ _⟩
  | true =>
    refine (refvalue_yes A n c xs o w hrd hl hx h).mono ?_
    rintro e w' ⟨rfl, hb⟩
    have h' := h
    simp only [valB, Bool.and_eq_true, decide_eq_true_eq] at h'
    subst hl
    refine ⟨?_, hb⟩
    rw [value_same xs o h'.1 h'.2 hx]
    simp [valX, valE, h]

theorem same_sl (A A' : Option Addr) (n n' c c' : Nat) (xs ys : List Int) (w : World) (h : SlI w w.heap.size .u16 A n c xs) (h' : SlI w w.heap.size .u16 A' n' c' ys) :
    Calls Try.prog 18 #[.slice A n c, .slice A' n' c'] w fun e w' => e = .returned (.bool (decide (xs = ys))) ∧ ∃ k, w' = w.drewN k := by
  obtain ⟨rfl, h1, h2, _, h3⟩ := h
  obtain ⟨rfl, h1', h2', _, h3'⟩ := h'
  exact same_any A A' c c' xs ys w h3 h3' (by omega) (by omega)

/-- 'append([]uint16{}, l...)' and the law. -/
theorem law_words (v m o : Int) (A : Option Addr) (n c : Nat) (xs : List Int) (w : World) (h0 : 0 ≤ v) (hv : v ≤ 18446744073709551615) (hS : SlI w w.heap.size .u16 A n c xs) (hx : ∀ x ∈ xs, 0 ≤ x ∧ x < 65536) :
    Calls Try.prog 4 #[.int .u64 v, .int .i64 m, .int .i64 o, .slice A n c] w fun e w' => e = .returned (.bool true) ∧ Below w.heap.size w w' := by
  have hn : n ≤ maxLen := by have := hS.2; omega
  unfold maxLen at hn
  by_cases hlt : 200 < n
  · go_in
    go_wp2
    go_ret
    exact ⟨rfl, Below.refl _ _⟩
  · obtain ⟨i0, hi, hz0, hz1, hz2⟩ := info_parts infoU16
    have HS := Lib.hid hS
    have HX := Lib.hid hx
    clear hS hx
    go_in
    go_wp2_with (at_builtin; refine wpList_append_sl _ rfl _ _ 33 rfl w.heap.size 50 i0 (.int .u16 0) 2 Try.underlying33 hi hz0 hz1 hz2 rfl _ 0 [] rfl (World.ownsRow_made w #[] 0 (Nat.le_refl _) (by simp [maxLen]) rfl) _ .u16 A n c xs rfl (HS.out.up ((Below.refl _ _).alloc (Nat.le_refl _) _)) (by unfold maxLen; omega) (by omega) (by simp) ?_; intro v1 w1 hown1 hgrow1 _)
    have hb1 : Below w.heap.size w w1 := ((Below.refl _ _).alloc (Nat.le_refl _) _).grown hgrow1 (by simp) (fun k hk => by cases hk; exact Nat.le_refl _)
    clear hgrow1
    rw [List.nil_append, Nat.zero_add] at hown1
    obtain ⟨A1, c1, rfl, hs1⟩ := SlI.of_own hown1
    clear hown1
    have HS1 := Lib.hid hs1
    clear hs1
    go_wp2_with fail
    refine (words_sl v m o h0 hv _).mono ?_
    rintro e w2 ⟨A2, n2, c2, rfl, hs2, hb2⟩
    have HS2 := Lib.hid hs2
    clear hs2
    go_wp2_with fail
    refine (refwords_sl v m o h0 hv _).mono ?_
    rintro e w3 ⟨A3, n3, c3, rfl, hs3, hb3⟩
    have HS3 := Lib.hid hs3
    clear hs3
    go_wp2_with fail
    refine (value_sl A n c xs o _ (((HS.out.up hb1).up hb2).up hb3) HX.out).mono ?_
    rintro e w4 ⟨rfl, hb4⟩
    go_wp2_with fail
    refine (refvalue_sl A n c xs o _ ((((HS.out.up hb1).up hb2).up hb3).up hb4) HX.out).mono ?_
    rintro e w5 ⟨rfl, hb5⟩
    go_wp2_with fail
    refine (same_sl A2 A3 n2 n3 c2 c3 _ _ _ (((HS2.out.up hb3).up hb4).up hb5) ((HS3.out.up hb4).up hb5)).mono ?_
    rintro e w6 ⟨rfl, k, rfl⟩
    rw [decide_eq_true (rfl : wordsX v m o = wordsX v m o)]
    go_wp2_with fail
    have hb6 : Below w5.heap.size w5 (w5.drewN k) := ⟨rfl, rfl, rfl, Nat.le_refl _, fun _ _ => rfl⟩
    refine (same_sl A1 A n n c1 c xs xs _ (((((HS1.out.up hb2).up hb3).up hb4).up hb5).up hb6) ((((((HS.out.up hb1).up hb2).up hb3).up hb4).up hb5).up hb6)).mono ?_
    rintro e w7 ⟨rfl, k', rfl⟩
    rw [decide_eq_true (rfl : xs = xs)]
    go_wp2_with fail
    go_ret
    have s1 := hb1.size; have s2 := hb2.size; have s3 := hb3.size; have s4 := hb4.size
    refine ⟨rfl, ?_⟩
    have := ((((hb1.trans (hb2.mono (by omega))).trans (hb3.mono (by omega))).trans (hb4.mono (by omega))).trans (hb5.mono (by omega)))
    exact ⟨this.os, this.tape, this.output, this.size, this.block⟩
end Go.Proofs.Ytnglajpmkjgbaaa
