/- The law ShaPlays: calls, in memory; great. -/
import Derived.Test.YtjkhkgdijnhdmaaDoorShaRefOf
import Derived.Test.YtjkhkgdijnhdmaaDoorShaCopies
namespace Go.Proofs.YtjkhkgdijnhdmaaDoor
open Go.RowKit

/-- A slice of calls: of call i the kind is K i, the bytes xs i. -/
structure OpsI (w : World) (B : Nat) (A : Option Addr) (n c : Nat) (K : Nat → Int) (a : Nat → Option Addr) (cs : Nat → Nat) (xs : Nat → List Nat) : Prop where
  row : 0 < n → ∃ g off, A = some ⟨g, off, none⟩ ∧ g < B ∧ ∀ i, i < n → w.cell? ⟨g, off + i * 2, none⟩ = some (.int .i64 (K i)) ∧ w.cell? ⟨g, off + i * 2 + 1, none⟩ = some (.slice (a i) (xs i).length (cs i))
  le : n ≤ c
  max : c ≤ maxLen
  sl : ∀ i, i < n → SlI w B .u8 (a i) (xs i).length (cs i) (nI (xs i))
  lt : ∀ i, i < n → ∀ x ∈ xs i, x < 256
  big : ∀ i, i < n → (xs i).length ≤ 140737488355328
  kind : ∀ i, i < n → (Lit.int .i64 (K i)).wf = true
/-- How many bytes the first calls have. -/
def totB (xs : Nat → List Nat) : Nat → Nat
  | 0 => 0
  | i + 1 => totB xs i + (xs i).length
theorem totB_mono (xs : Nat → List Nat) {i j : Nat} (h : i ≤ j) : totB xs i ≤ totB xs j := by
  induction h with
  | refl => exact Nat.le_refl _
  | step _ ih => exact Nat.le_trans ih (Nat.le_add_right _ _)
theorem totB_max (xs : Nat → List Nat) (n M : Nat) (h : ∀ i, i < n → (xs i).length ≤ M) : totB xs n ≤ n * M := by
  induction n with
  | zero => simp [totB]
  | succ n ih =>
    have h1 := ih fun i hi => h i (by omega)
    have h2 := h n (by omega)
    rw [totB, Nat.succ_mul]
    omega
theorem great_any (A : Option Addr) (n c : Nat) (K : Nat → Int) (a : Nat → Option Addr) (cs : Nat → Nat) (xs : Nat → List Nat) (w : World) (h : OpsI w w.heap.size A n c K a cs xs) :
    Calls Tryd.prog 13 #[.slice A n c] w fun e w' => e = .returned (.bool (decide (60 < n ∨ 4000 < totB xs n))) ∧ w' = w := by
  have hmx := h.big
  have hn := h.le
  have hcm := h.max
  by_cases h60 : 60 < n
  · go_in
    go_wp2
    go_ret
    exact ⟨by simp [h60], rfl⟩
  · have hall := totB_max xs n 140737488355328 hmx
    have HM := Lib.hid hmx
    clear hmx
    go_in
    go_wp2
    go_loopw [3, 10] (fun u i wr => ∃ (j : Nat), j ≤ n ∧ u = .int .i64 (totB xs j : Nat) ∧ i = .int .i64 j ∧ wr = w) (fun _ i _ => n - (intOf i).toNat)
    case atStart => exact ⟨0, by omega, rfl, rfl, rfl⟩
    case round =>
      obtain ⟨j, hj, rfl, rfl, rfl⟩ := hrel
      by_cases hlt : j < n
      · obtain ⟨g, off, rfl, hg, hc⟩ := h.row (by omega)
        obtain ⟨c0, c1⟩ := hc j hlt
        have hl := HM.out j hlt
        have ht := totB_max xs j 140737488355328 fun i hi => HM.out i (by omega)
        have ht2 : totB xs (j + 1) = totB xs j + (xs j).length := rfl
        obtain ⟨T1, hT1⟩ : ∃ T, T = totB xs (j + 1) := ⟨_, rfl⟩
        obtain ⟨T, hT⟩ : ∃ T, T = totB xs j := ⟨_, rfl⟩
        rw [← hT1, ← hT] at ht2
        rw [← hT] at ht ⊢
        have HT1 := Lib.hid hT1
        clear hT1 hT
        have hjm : j * 140737488355328 ≤ 60 * 140737488355328 := Nat.mul_le_mul_right _ (by omega)
        go_wp2
        exact ⟨⟨j + 1, by omega, by rw [← HT1.out, ht2]; go_num, by go_num, trivial⟩, by simp [intOf]; omega⟩
      · obtain rfl : j = n := by omega
        have hjm : j * 140737488355328 ≤ 60 * 140737488355328 := Nat.mul_le_mul_right _ (by omega)
        obtain ⟨T, hT⟩ : ∃ T, totB xs j = T := ⟨_, rfl⟩
        rw [hT] at hall ⊢
        have HT := Lib.hid hT
        clear hT
        go_wp2
        go_ret
        exact ⟨by rw [HT.out]; simp [h60]; omega, rfl⟩
end Go.Proofs.YtjkhkgdijnhdmaaDoor
