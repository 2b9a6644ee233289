/- The document's numbers: Bare, Times; power of the law ShaRoots. -/
import Derived.Test.YtjkhkgdijnhdmaaDoorRootNum
namespace Go.Proofs.YtjkhkgdijnhdmaaDoor
open Go.RowKit

/-- How two numbers stand, by their bits above the m-th. -/
theorem bits_lt (A B m : Nat) (h : A / 2 ^ (m + 1) = B / 2 ^ (m + 1)) (hb : bitN A m < bitN B m) : A < B := by
  rw [div_next, div_next] at h
  unfold bitN at hb
  have h1 : A / 2 ^ m < B / 2 ^ m := by omega
  exact Nat.lt_of_div_lt_div h1
theorem bits_eq (A B m : Nat) (h : A / 2 ^ (m + 1) = B / 2 ^ (m + 1)) (hb : bitN A m = bitN B m) : A / 2 ^ m = B / 2 ^ m := by
  rw [div_next, div_next] at h
  unfold bitN at hb
  omega
set_option maxRecDepth 100000 in
set_option maxHeartbeats 4000000 in
theorem num_bare (A B : Nat) (hA : A < 2 ^ 200) (hB : B < 2 ^ 200) (w : World) :
    Calls Tryd.prog 46 #[.agg (numA (bitsL A)), .agg (numA (bitsL B))] w fun e w' => (∃ z : Int, e = .returned (.int .i64 z) ∧ (z < 0 ↔ A < B) ∧ (0 < z ↔ B < A)) ∧ Below w.heap.size w w' := by
  obtain ⟨w1, hw1⟩ : ∃ w1, (w.alloc (.cells (numA (bitsL A)) 74)).alloc (.cells (numA (bitsL B)) 74) = w1 := ⟨_, rfl⟩
  have hb1 : Below w.heap.size w w1 := by rw [← hw1]; exact ((Below.refl _ w).alloc (Nat.le_refl _) _).alloc (by simp) _
  have hA1 : Held w1 w.heap.size 74 (numA (bitsL A)) := by rw [← hw1]; exact (Held.new w _ _).alloc _
  have hB1 : Held w1 (w.heap.size + 1) 74 (numA (bitsL B)) := by rw [← hw1]; have h := Held.new (w.alloc (.cells (numA (bitsL A)) 74)) 74 (numA (bitsL B)); rw [World.size_alloc] at h; exact h
  have HST := Lib.hid (show A / 2 ^ 200 = B / 2 ^ 200 by rw [Nat.div_eq_of_lt hA, Nat.div_eq_of_lt hB])
  clear hA hB
  go_in
  go_wp2_with fail
  go_loopw [5] (fun u5 wx => ∃ (m : Nat) (z : Int), m ≤ 200 ∧ z = (m : Int) - 1 ∧ u5 = .int .i64 z ∧ Hid (A / 2 ^ m = B / 2 ^ m) ∧ Held wx w.heap.size 74 (numA (bitsL A)) ∧ Held wx (w.heap.size + 1) 74 (numA (bitsL B)) ∧ Below w.heap.size w wx) (fun i _ => (intOf i + 1).toNat)
  case atStart => exact ⟨200, 199, by omega, by omega, rfl, HST, hA1, hB1, hb1⟩
  case round =>
    clear hA1 hB1 hb1
    obtain ⟨m, z, hm, hz, rfl, HE, hA, hB, hbx⟩ := hrel
    by_cases hlt : 0 < m
    · obtain ⟨i, rfl⟩ : ∃ i, m = i + 1 := ⟨m - 1, by omega⟩
      obtain rfl : z = (i : Int) := by omega
      have hi : i < 200 := by omega
      have hca : wr.cell? ⟨w.heap.size, 1 + i, none⟩ = some (.int .i64 (bitN A i : Nat)) := (hA.cell (1 + i)).trans (numA_at _ _ _ (bitsL_get A i hi))
      have hcb : wr.cell? ⟨w.heap.size + 1, 1 + i, none⟩ = some (.int .i64 (bitN B i : Nat)) := (hB.cell (1 + i)).trans (numA_at _ _ _ (bitsL_get B i hi))
      have h1 := bitN_lt A i
      have h2 := bitN_lt B i
      have HL1 := Lib.hid (bits_lt A B i HE.out)
      have HL2 := Lib.hid (bits_lt B A i HE.out.symm)
      have HQ := Lib.hid (bits_eq A B i HE.out)
      obtain ⟨a, ha⟩ : ∃ a, bitN A i = a := ⟨_, rfl⟩
      obtain ⟨b, hb⟩ : ∃ b, bitN B i = b := ⟨_, rfl⟩
      rw [ha] at hca h1 HL1 HL2 HQ
      rw [hb] at hcb h2 HL1 HL2 HQ
      clear ha hb hz
      by_cases hab : a = b
      · have HQE := Lib.hid (HQ.out hab)
        clear HQ HL1 HL2
        subst hab
        go_wp2_with fail
        go_quiet (fail)
        go_wp2_with fail
        go_roundw
        case rel => exact ⟨i, (i : Int) - 1, by omega, rfl, rfl, HQE, hA, hB, below_drewN hbx _⟩
        case measure => simp [intOf]
      · have hne : ((a : Int) = (b : Int)) = False := by simp; omega
        go_wp2_with fail
        go_quiet (fail)
        go_wp2_with fail
        go_quiet (fail)
        go_wp2_with fail
        go_ret
        refine ⟨⟨(a : Int) - b, rfl, ?_⟩, below_drewN (below_drewN hbx _) _⟩
        rcases Nat.lt_or_gt_of_ne hab with h | h
        · have := HL1.out h
          constructor <;> constructor <;> intro <;> omega
        · have := HL2.out h
          constructor <;> constructor <;> intro <;> omega
    · obtain rfl : m = 0 := by omega
      have hzn : z < 0 := by omega
      clear hz
      go_wp2_with fail
      go_ret
      have hq : A = B := by have := HE.out; simpa using this
      exact ⟨⟨0, rfl, by omega, by omega⟩, hbx⟩
/-- The bits of a number, shifted up. -/
theorem shift_bit (n s j : Nat) : bitN (n * 2 ^ s) j = if j < s then 0 else bitN n (j - s) := by
  unfold bitN
  split
  · rename_i h
    obtain ⟨d, rfl⟩ : ∃ d, s = j + (d + 1) := ⟨s - j - 1, by omega⟩
    rw [Nat.pow_add, ← Nat.mul_assoc, Nat.mul_right_comm, Nat.mul_div_cancel _ (Nat.two_pow_pos j), Nat.pow_succ, ← Nat.mul_assoc]
    omega
  · rename_i h
    obtain ⟨d, rfl⟩ : ∃ d, j = s + d := ⟨j - s, by omega⟩
    rw [Nat.add_sub_cancel_left, Nat.pow_add, Nat.mul_comm, Nat.mul_div_mul_left _ _ (Nat.two_pow_pos s)]
/-- Bits laid from place s on, k of them. -/
def fillS2 (n s k : Nat) : List Nat := (List.range 200).map fun j => if s ≤ j ∧ j < s + k then bitN n (j - s) else 0
theorem fillS2_zero (n s : Nat) : fillS2 n s 0 = z200 := by
  unfold fillS2 z200
  rw [List.eq_replicate_iff]
  exact ⟨by rw [List.length_map, List.length_range], fun b hb => by obtain ⟨j, _, rfl⟩ := List.mem_map.1 hb; rw [if_neg (by omega)]⟩
theorem fillS2_get (n s k : Nat) (h : s + k < 200) : (fillS2 n s k)[s + k]? = some 0 := by simp [fillS2, h]
theorem fillS2_set (n s k : Nat) (_h : s + k < 200) : (fillS2 n s k).set (s + k) (bitN n k) = fillS2 n s (k + 1) := by
  apply List.ext_getElem
  · simp [fillS2]
  · intro j h1 h2
    rw [List.getElem_set]
    simp only [fillS2, List.getElem_map, List.getElem_range]
    split
    · rename_i e; subst e; rw [if_pos (by omega), Nat.add_sub_cancel_left]
    · rename_i e
      by_cases hj : s ≤ j ∧ j < s + k
      · rw [if_pos hj, if_pos (by omega)]
      · rw [if_neg hj, if_neg (by omega)]
theorem fillS2_end (n s k : Nat) (h : 200 ≤ s + k ∨ n < 2 ^ k) : fillS2 n s k = bitsL (n * 2 ^ s) := by
  apply List.ext_getElem
  · simp [fillS2, bitsL]
  · intro j h1 h2
    have hj : j < 200 := by simpa [fillS2] using h1
    simp only [fillS2, bitsL, List.getElem_map, List.getElem_range, shift_bit]
    by_cases hs : j < s
    · rw [if_neg (by omega), if_pos hs]
    · rw [if_neg hs]
      split
      · rfl
      · rename_i hn
        rcases h with h | h
        · omega
        · unfold bitN
          rw [Nat.div_eq_of_lt (Nat.lt_of_lt_of_le h (Nat.pow_le_pow_right (by omega) (by omega)))]
set_option maxRecDepth 100000 in
set_option maxHeartbeats 4000000 in
theorem num_power (n s : Nat) (hn : n < 2 ^ 64) (hs : s ≤ 136) (w : World) :
    Calls Tryd.prog 45 #[.int .u64 (n : Int), .int .i64 (s : Int)] w fun e w' => e = .returned (.agg (numA (bitsL (n * 2 ^ s)))) ∧ Below w.heap.size w w' := by
  have hzz := zero_num
  obtain ⟨w1, hw1⟩ : ∃ w1, (w.alloc (.cells (numA z200) 74)).alloc (.cells (numA z200) 74) = w1 := ⟨_, rfl⟩
  have hb1 : Below w.heap.size w w1 := by rw [← hw1]; exact ((Below.refl _ w).alloc (Nat.le_refl _) _).alloc (by simp) _
  have hO1 : Held w1 w.heap.size 74 (numA z200) := by rw [← hw1]; exact (Held.new w _ _).alloc _
  have hX1 : Held w1 (w.heap.size + 1) 74 (numA z200) := by rw [← hw1]; have := Held.new (w.alloc (.cells (numA z200) 74)) 74 (numA z200); rw [World.size_alloc] at this; exact this
  have hsz := num_size z200 rfl
  go_in
  go_wp2_with (first
    | (refine wpList_store_row rfl 74 (.tmp 5) (.tmp 7) rfl (w.heap.size + 1) (numA z200) rfl rfl 74 (numA z200) (by first | exact hX1 | (rw [hw1]; exact hX1)) hsz rfl (numA_one _) ?_)
    | fail)
  have hO2 : Held (w1.setRow (w.heap.size + 1) (numA z200)) w.heap.size 74 (numA z200) := (setRow_other w1 (w.heap.size + 1) w.heap.size _ (by omega)).trans hO1
  have hX2 : Held (w1.setRow (w.heap.size + 1) (numA z200)) (w.heap.size + 1) 74 (numA z200) := setRow_heap _ _ _ _ _ _ hX1
  have hb2 : Below w.heap.size w (w1.setRow (w.heap.size + 1) (numA z200)) := below_setRow hb1 _ _ (by omega)
  try rw [hw1]
  generalize w1.setRow (w.heap.size + 1) (numA z200) = w2 at hO2 hX2 hb2 ⊢
  clear hX1 hO1 hb1 hw1
  go_loopw [6] (fun u6 wx => ∃ i : Nat, i ≤ 64 ∧ u6 = .int .i64 i ∧ Held wx (w.heap.size + 1) 74 (numA (fillS2 n s i)) ∧ Held wx w.heap.size 74 (numA z200) ∧ Below w.heap.size w wx) (fun i _ => 64 - (intOf i).toNat)
  case atStart => exact ⟨0, by omega, rfl, by rw [fillS2_zero]; exact hX2, hO2, hb2⟩
  case round =>
    clear hX2 hO2 hb2
    obtain ⟨i, hi, rfl, hX, hO, hbx⟩ := hrel
    by_cases hlt : i < 64
    · obtain ⟨q, hq⟩ : ∃ q, s + i = q := ⟨_, rfl⟩
      have hq2 : (i : Int) + (s : Int) = (q : Int) := by omega
      have hq3 : q < 200 := by omega
      have hck : wr.cell? ⟨w.heap.size + 1, 1 + q, none⟩ = some (.int .i64 ((0 : Nat) : Int)) := (hX.cell (1 + q)).trans (numA_at _ _ _ (by rw [← hq]; exact fillS2_get n s i (by omega)))
      have hfk := hX.frozen (1 + q)
      have hX2 := hX.set (1 + q) (.int .i64 ((bitN n i : Nat) : Int))
      rw [numA_set, ← hq, fillS2_set n s i (by omega), hq] at hX2
      have hO2 := hO.far (p := ⟨w.heap.size + 1, 1 + q, none⟩) (by show w.heap.size ≠ w.heap.size + 1; omega) (.int .i64 ((bitN n i : Nat) : Int))
      have hb2 := hbx.setCell (p := ⟨w.heap.size + 1, 1 + q, none⟩) (by show w.heap.size ≤ w.heap.size + 1; omega) (.int .i64 ((bitN n i : Nat) : Int))
      have hbit := bit_at n i hn
      have hwb := wrap_bit (bitN n i) (bitN_lt n i)
      obtain ⟨b, hb⟩ : ∃ b, bitN n i = b := ⟨_, rfl⟩
      rw [hb] at hX2 hO2 hb2 hbit hwb
      clear hX hO hbx hb hq
      go_wp2_with (first | (rw [hbit, hwb]) | fail)
      exact ⟨⟨i + 1, by omega, by go_num, hX2, hO2, hb2⟩, by simp [intOf]; omega⟩
    · obtain rfl : i = 64 := by omega
      rw [fillS2_end n s 64 (.inr hn)] at hX
      have hs := num_size (bitsL (n * 2 ^ s)) (bitsL_len _)
      have hse : (numA z200).size = (numA (bitsL (n * 2 ^ s))).size := by rw [numA_size, numA_size, bitsL_len]; rfl
      have hu := Tryd.underlying74
      obtain ⟨R, hR⟩ : ∃ R, bitsL (n * 2 ^ s) = R := ⟨_, rfl⟩
      rw [hR] at hX hs hse
      have HRR := Lib.hid hR
      clear hR
      go_wp2_with (first
        | (refine wpList_load_row rfl 74 (.tmp 5) rfl (w.heap.size + 1) rfl 74 (numA R) (0, 0) _ hX hu rfl hs ?_)
        | (refine wpList_store_row rfl 74 (.tmp 4) (.tmp 22) rfl w.heap.size (numA R) rfl rfl 74 (numA z200) hO hs hse (numA_one _) ?_)
        | fail)
      refine bodyPost_ret (v := .agg (numA R)) (results_cell_row Tryd.results45 _ _ w.heap.size 74 (numA R) (0, 0) _ rfl (setRow_heap _ _ _ _ _ _ hO) hu rfl hs) rfl ⟨by rw [HRR.out], below_setRow hbx _ _ (Nat.le_refl _)⟩
end Go.Proofs.YtjkhkgdijnhdmaaDoor
