/- The four functions by what they answer, for slices that are told whole. -/
import Derived.Test.YtnnknnaimabehaaRegsRefValue
import Derived.Test.YtnnknnaimabehaaRegsSame
namespace Go.Proofs.Ytnnknnaimabehaa
open Go.RowKit
set_option maxRecDepth 100000

def wordsX (v m o : Int) : List Int := if wordsB v m o then turnL o (bigW v m) else []
def wordsE (v m o : Int) : Int := if wordsB v m o then 0 else 20
def valX (xs : List Int) (o : Int) : Int := if valB xs.length o then valN (turnL o xs) else 0
def valE (xs : List Int) (o : Int) : Int := if valB xs.length o then 0 else 20

theorem wordsX_len (v m o : Int) : (wordsX v m o).length ≤ 4 := by
  unfold wordsX
  split
  · rw [turnL_len]; unfold bigW; split
    · simp
    · split <;> simp
  · simp

theorem words_sl (v m o : Int) (h0 : 0 ≤ v) (hv : v ≤ 18446744073709551615) (w : World) :
    Calls Try.prog 89 #[.int .u64 v, .int .i64 m, .int .i64 o] w fun e w' => ∃ A n c, e = .returned (.tuple #[.slice A n c, .int .i64 (wordsE v m o)]) ∧ SlI w' w'.heap.size .u16 A n c (wordsX v m o) ∧ Below w.heap.size w w' := by
  cases h : wordsB v m o with
  | false =>
    refine (words_no v m o h0 hv w h).mono ?_
    rintro e w' ⟨rfl, rfl⟩
    exact ⟨none, 0, 0, by simp [wordsE, h], by simp [wordsX, h]; exact SlI.nil _ _ _, Below.refl _ _⟩
  | true =>
    refine (words_own v m o h0 hv w h).mono ?_
    rintro e w' ⟨u, rfl, hown, hb⟩
    obtain ⟨A, c, rfl, hs⟩ := SlI.of_own hown
    exact ⟨A, (turnL o (bigW v m)).length, c, by simp [wordsE, h], by simp [wordsX, h]; exact hs, hb⟩

theorem refwords_sl (v m o : Int) (h0 : 0 ≤ v) (hv : v ≤ 18446744073709551615) (w : World) :
    Calls Try.prog 41 #[.int .u64 v, .int .i64 m, .int .i64 o] w fun e w' => ∃ A n c, e = .returned (.tuple #[.slice A n c, .int .i64 (wordsE v m o)]) ∧ SlI w' w'.heap.size .u16 A n c (wordsX v m o) ∧ Below w.heap.size w w' := by
  cases h : wordsB v m o with
  | false =>
    refine (refwords_no v m o w h).mono ?_
    rintro e w' ⟨rfl, rfl⟩
    exact ⟨none, 0, 0, by simp [wordsE, h], by simp [wordsX, h]; exact SlI.nil _ _ _, Below.refl _ _⟩
  | true =>
    have h' := h
    simp only [wordsB, Bool.and_eq_true] at h'
    refine (refwords_yes v m o h0 hv w h'.1 h'.2).mono ?_
    rintro e w' ⟨u, k, rfl, rfl, hown, hb⟩
    rw [words_same v o k (by have := h'.1; simp [fitsB] at this; omega) h'.2] at hown
    obtain ⟨A, c, rfl, hs⟩ := SlI.of_own hown
    exact ⟨A, k, c, by simp [wordsE, h], by simp [wordsX, h]; exact hs, hb⟩

theorem value_sl (A : Option Addr) (n c : Nat) (xs : List Int) (o : Int) (w : World) (hS : SlI w w.heap.size .u16 A n c xs) (hx : ∀ x ∈ xs, 0 ≤ x ∧ x < 65536) :
    Calls Try.prog 86 #[.slice A n c, .int .i64 o] w fun e w' => e = .returned (.tuple #[.int .u64 (valX xs o), .int .i64 (valE xs o)]) ∧ Below w.heap.size w w' := by
  obtain ⟨hl, hnc, hc, hnone, hrd⟩ := hS
  cases h : valB n o with
  | false =>
    refine (value_no A n c o (by unfold maxLen at hc; omega) w h).mono ?_
    rintro e w' ⟨rfl, rfl⟩
    exact ⟨by simp [valX, valE, hl, h], Below.refl _ _⟩
  | true =>
    cases A with
    | none =>
      obtain ⟨rfl, _⟩ := hnone rfl
      simp [valB] at h
    | some a =>
      refine (value_own a n c xs o w hrd hl hx h).mono ?_
      rintro e w' ⟨rfl, hb⟩
      exact ⟨by simp [valX, valE, hl, h], hb⟩

theorem refvalue_sl (A : Option Addr) (n c : Nat) (xs : List Int) (o : Int) (w : World) (hS : SlI w w.heap.size .u16 A n c xs) (hx : ∀ x ∈ xs, 0 ≤ x ∧ x < 65536) :
    Calls Try.prog 48 #[.slice A n c, .int .i64 o] w fun e w' => e = .returned (.tuple #[.int .u64 (valX xs o), .int .i64 (valE xs o)]) ∧ Below w.heap.size w w' := by
  obtain ⟨hl, hnc, hc, hnone, hrd⟩ := hS
  cases h : valB n o with
  | false =>
    refine (refvalue_no A n c o w h).mono ?_
    rintro e w' ⟨rfl, rfl⟩
    exact ⟨by simp [valX, valE, hl, h], Below.refl _ _⟩
  | true =>
    refine (refvalue_yes A n c xs o w hrd hl hx h).mono ?_
    rintro e w' ⟨rfl, hb⟩
    have h' := h
    simp only [valB, Bool.and_eq_true, decide_eq_true_eq] at h'
    subst hl
    refine ⟨?_, hb⟩
    rw [value_same xs o h'.1 h'.2 hx]
    simp [valX, valE, h]

theorem same_sl (A A' : Option Addr) (n n' c c' : Nat) (xs ys : List Int) (w : World) (h : SlI w w.heap.size .u16 A n c xs) (h' : SlI w w.heap.size .u16 A' n' c' ys) :
    Calls Try.prog 17 #[.slice A n c, .slice A' n' c'] w fun e w' => e = .returned (.bool (decide (xs = ys))) ∧ ∃ k, w' = w.drewN k := by
  obtain ⟨rfl, h1, h2, _, h3⟩ := h
  obtain ⟨rfl, h1', h2', _, h3'⟩ := h'
  exact same_any A A' c c' xs ys w h3 h3' (by omega) (by omega)

end Go.Proofs.Ytnnknnaimabehaa
