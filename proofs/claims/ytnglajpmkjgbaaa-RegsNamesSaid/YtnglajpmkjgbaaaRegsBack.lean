/- The law RegsBack. -/
import Derived.Test.YtnglajpmkjgbaaaRegsAlive
import Derived.Test.YtnglajpmkjgbaaaRegsBytes
import Derived.BigQuiet
import Derived.Deep.QuietTactic
namespace Go.Proofs.Ytnglajpmkjgbaaa
open Go.RowKit

def InReg (l : List Int) : Prop := ∀ x ∈ l, 0 ≤ x ∧ x < 65536
theorem regs_of (xs : List Int) (h : InReg xs) : ∃ zs : List Reg, zs.map (·.1) = xs := by
  induction xs with
  | nil => exact ⟨[], rfl⟩
  | cons a xs ih =>
    obtain ⟨zs, hz⟩ := ih (fun x hx => h x (by simp [hx]))
    exact ⟨⟨a, h a (by simp)⟩ :: zs, by simp [hz]⟩
def bytesI (l : List Int) : List Int := l.flatMap fun x => [x / 256, x % 256]
theorem bytesI_of (zs : List Reg) : bytesOf zs = bytesI (zs.map (·.1)) := by simp [bytesOf, bytesI]
theorem bytesI_len (l : List Int) : (bytesI l).length = 2 * l.length := by
  induction l with
  | nil => rfl
  | cons a l ih => simp [bytesI] at ih ⊢; omega
theorem bytesI_in (l : List Int) (h : InReg l) : ∀ x ∈ bytesI l, 0 ≤ x ∧ x < 256 := by
  intro x hx
  simp [bytesI] at hx
  obtain ⟨a, ha, hx⟩ := hx
  have := h a ha
  rcases hx with rfl | rfl <;> omega
theorem bytes_sl (A : Option Addr) (n c : Nat) (xs : List Int) (w : World) (hS : SlI w w.heap.size .u16 A n c xs) (hx : InReg xs) (hl : n ≤ 1000000) :
    Calls Try.prog 22 #[.slice A n c] w fun e W' => ∃ A' n' c', e = .returned (.slice A' n' c') ∧ SlI W' W'.heap.size .u8 A' n' c' (bytesI xs) ∧ Below w.heap.size w W' := by
  obtain ⟨zs, rfl⟩ := regs_of xs hx
  refine (bytes_any A n c zs hl (by have := hS.1; simpa using this) w hS.2.2.2.2).mono ?_
  rintro e W' ⟨v, rfl, hown, hb⟩
  obtain ⟨A', c', rfl, hs⟩ := SlI.of_own hown
  rw [bytesI_of] at hs
  exact ⟨A', _, c', by rw [bytesI_of], hs, hb⟩

theorem swap_swap (x : Int) (h : 0 ≤ x) (h' : x < 65536) : swapB (swapB x) = x := by
  unfold swapB
  obtain ⟨a, ha⟩ : ∃ a, a = x / 256 := ⟨_, rfl⟩
  obtain ⟨b, hb⟩ : ∃ b, b = x % 256 := ⟨_, rfl⟩
  have e1 : (b * 256 + a) % 256 = a := by omega
  have e2 : (b * 256 + a) / 256 = b := by omega
  rw [← ha, ← hb, e1, e2]
  omega
theorem map_swap (l : List Int) (h : InReg l) : (l.map swapB).map swapB = l := by
  rw [List.map_map]
  conv => rhs; rw [← List.map_id l]
  exact List.map_congr_left fun x hx => swap_swap x (h x hx).1 (h x hx).2
theorem turn_turn (o : Int) (l : List Int) (h : InReg l) : turnL o (turnL o l) = l := by
  have h1 := map_swap l h
  unfold turnL
  split
  · simp
  · split
    · exact h1
    · split
      · rw [← List.map_reverse, List.reverse_reverse]; exact h1
      · rfl
theorem valN_big (v m : Int) (h0 : 0 ≤ v) (hf : fitsB v m = true) (hv : v ≤ 18446744073709551615) : valN (bigW v m) = v := by
  simp [fitsB] at hf
  unfold bigW
  split
  · rename_i h; simp [valN]; omega
  · split
    · rename_i h; simp [valN]; omega
    · simp [valN]; omega
theorem bigW_len (v m : Int) (hf : fitsB v m = true) : ((bigW v m).length : Int) = m := by
  simp [fitsB] at hf
  unfold bigW
  split
  · rename_i h; simp [h]
  · split
    · rename_i h; simp [h]
    · simp; omega
theorem big_valN (l : List Int) (hl : l.length = 1 ∨ l.length = 2 ∨ l.length = 4) (h : InReg l) : bigW (valN l) l.length = l ∧ fitsB (valN l) l.length = true := by
  unfold InReg at h
  rcases hl with e | e | e
  · match l, e with
    | [a], _ => simp at h; simp [bigW, valN, fitsB]; omega
  · match l, e with
    | [a, b], _ => simp at h; simp [bigW, valN, fitsB]; omega
  · match l, e with
    | [a, b, c, d], _ => simp at h; simp [bigW, valN, fitsB]; omega
theorem bytes_rev (l : List Int) (h : InReg l) : bytesI (l.reverse.map swapB) = (bytesI l).reverse := by
  induction l with
  | nil => rfl
  | cons a l ih =>
    have ih' := ih (fun x hx => h x (by simp [hx]))
    have ha := h a (by simp)
    have e1 : swapB a / 256 = a % 256 := by unfold swapB; omega
    have e2 : swapB a % 256 = a / 256 := by unfold swapB; omega
    simp only [bytesI] at ih' ⊢
    rw [List.reverse_cons, List.map_append, List.flatMap_append, ih']
    simp [e1, e2]
theorem wordsX_in (v m o : Int) : InReg (wordsX v m o) := by
  unfold wordsX
  split
  · exact turnL_mem o _ (bigW_in v m)
  · intro x hx; cases hx

/-- There, and back. -/
theorem back_1 (v m o : Int) (h0 : 0 ≤ v) (hv : v ≤ 18446744073709551615) (h : wordsB v m o = true) : valE (wordsX v m o) o = 0 ∧ valX (wordsX v m o) o = v ∧ ((wordsX v m o).length : Int) = m := by
  have h' := h
  simp only [wordsB, Bool.and_eq_true] at h'
  have hl := bigW_len v m h'.1
  have hm : m = 1 ∨ m = 2 ∨ m = 4 := by have := h'.1; simp [fitsB] at this; omega
  have hx : wordsX v m o = turnL o (bigW v m) := by simp [wordsX, h]
  have hll : ((wordsX v m o).length : Int) = m := by rw [hx, turnL_len]; exact hl
  have hvb : valB (wordsX v m o).length o = true := by
    simp only [valB, Bool.and_eq_true, decide_eq_true_eq]
    exact ⟨by omega, h'.2⟩
  refine ⟨by simp [valE, hvb], ?_, hll⟩
  simp only [valX, hvb, if_true]
  rw [hx, turn_turn o _ (bigW_in v m), valN_big v m h0 h'.1 hv]
theorem back_2 (l : List Int) (o : Int) (hl : InReg l) (h : valB l.length o = true) : wordsE (valX l o) l.length o = 0 ∧ wordsX (valX l o) l.length o = l := by
  have h' := h
  simp only [valB, Bool.and_eq_true, decide_eq_true_eq] at h'
  have hb := big_valN (turnL o l) (by rw [turnL_len]; exact h'.1) (turnL_mem o l hl)
  rw [turnL_len] at hb
  have hw : wordsB (valX l o) l.length o = true := by simp only [valX, h, if_true, wordsB, Bool.and_eq_true]; exact ⟨hb.2, h'.2⟩
  refine ⟨by simp [wordsE, hw], ?_⟩
  simp only [wordsX, hw, if_true]
  simp only [valX, h, if_true]
  rw [hb.1, turn_turn o l hl]
theorem back_3 (v m : Int) : wordsE v m 4 = wordsE v m 1 ∧ bytesI (wordsX v m 4) = (bytesI (wordsX v m 1)).reverse := by
  have e : wordsB v m 4 = wordsB v m 1 := by simp [wordsB, knownB]
  refine ⟨by simp [wordsE, e], ?_⟩
  simp only [wordsX, e]
  split
  · simp only [turnL]
    simpa using bytes_rev (bigW v m) (bigW_in v m)
  · rfl
theorem valX_in (l : List Int) (o : Int) (hl : InReg l) : 0 ≤ valX l o ∧ valX l o ≤ 18446744073709551615 := by
  unfold valX
  split
  · rename_i h
    simp only [valB, Bool.and_eq_true, decide_eq_true_eq] at h
    obtain ⟨h1, h2⟩ := valN_in (turnL o l) (turnL_mem o l hl)
    rw [turnL_len] at h2
    have : 65536 ^ l.length ≤ 65536 ^ 4 := Nat.pow_le_pow_right (by omega) (by omega)
    have e : ((65536 ^ l.length : Nat) : Int) = (65536 : Int) ^ l.length := by simp
    omega
  · omega
end Go.Proofs.Ytnglajpmkjgbaaa
