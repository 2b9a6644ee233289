/- The document's numbers: Times. -/
import Derived.Test.YtjkhkgdijnhdmaaDoorRootMul
namespace Go.Proofs.YtjkhkgdijnhdmaaDoor
open Go.RowKit

theorem times_zero (A B i : Nat) (h : bitN B i = 0) : A * (B % 2 ^ (i + 1)) = A * (B % 2 ^ i) := by
  unfold bitN at h
  rw [Nat.mod_pow_succ, h, Nat.mul_zero, Nat.add_zero]
theorem times_one (A B i : Nat) (h : bitN B i = 1) : A * (B % 2 ^ i) + A * 2 ^ i = A * (B % 2 ^ (i + 1)) := by
  unfold bitN at h
  rw [Nat.mod_pow_succ, h, Nat.mul_one, Nat.mul_add]
theorem Held.setRowR {w : World} {b g : Nat} {t : TypeId} {cs : Array Value} (h : Held w b t cs) (hg : b ≠ g) (ds : Array Value) : Held (w.setRow g ds) b t cs := (setRow_other w g b ds hg).trans h
theorem bits_none : bitsL 0 = z200 := by
  unfold bitsL z200
  rw [List.eq_replicate_iff]
  exact ⟨by rw [List.length_map, List.length_range], fun b hb => by obtain ⟨j, _, rfl⟩ := List.mem_map.1 hb; simp [bitN]⟩
set_option maxRecDepth 100000 in
set_option maxHeartbeats 8000000 in
theorem num_times (A B : Nat) (hAB : A * B < 2 ^ 200) (hB : B < 2 ^ 200) (w : World) :
    Calls Tryd.prog 44 #[.agg (numA (bitsL A)), .agg (numA (bitsL B))] w fun e w' => e = .returned (.agg (numA (bitsL (A * B)))) ∧ Below w.heap.size w w' := by
  have hzz := zero_num
  obtain ⟨w1, hw1⟩ : ∃ w1, (((w.alloc (.cells (numA (bitsL A)) 74)).alloc (.cells (numA (bitsL B)) 74)).alloc (.cells (numA z200) 74)).alloc (.cells (numA z200) 74) = w1 := ⟨_, rfl⟩
  have hb1 : Below w.heap.size w w1 := by rw [← hw1]; exact ((((Below.refl _ w).alloc (Nat.le_refl _) _).alloc (by simp) _).alloc (by simp; omega) _).alloc (by simp; omega) _
  have hA1 : Held w1 w.heap.size 74 (numA (bitsL A)) := by rw [← hw1]; exact (((Held.new w _ _).alloc _).alloc _).alloc _
  have hB1 : Held w1 (w.heap.size + 1) 74 (numA (bitsL B)) := by rw [← hw1]; have h := Held.new (w.alloc (.cells (numA (bitsL A)) 74)) 74 (numA (bitsL B)); rw [World.size_alloc] at h; exact (h.alloc _).alloc _
  have hO1 : Held w1 (w.heap.size + 1 + 1) 74 (numA z200) := by rw [← hw1]; have h := Held.new ((w.alloc (.cells (numA (bitsL A)) 74)).alloc (.cells (numA (bitsL B)) 74)) 74 (numA z200); rw [World.size_alloc, World.size_alloc] at h; exact h.alloc _
  have hX1 : Held w1 (w.heap.size + 1 + 1 + 1) 74 (numA z200) := by rw [← hw1]; have h := Held.new (((w.alloc (.cells (numA (bitsL A)) 74)).alloc (.cells (numA (bitsL B)) 74)).alloc (.cells (numA z200) 74)) 74 (numA z200); rw [World.size_alloc, World.size_alloc, World.size_alloc] at h; exact h
  have hu := Tryd.underlying74
  have hsz := num_size z200 rfl
  have HAB := Lib.hid hAB
  have HBB := Lib.hid hB
  clear hAB hB
  go_in
  go_wp2_with fail
  go_loopw [6] (fun u6 wx => ∃ i : Nat, i ≤ 200 ∧ u6 = .int .i64 i ∧ Held wx w.heap.size 74 (numA (bitsL A)) ∧ Held wx (w.heap.size + 1) 74 (numA (bitsL B)) ∧ Held wx (w.heap.size + 1 + 1) 74 (numA z200) ∧ Held wx (w.heap.size + 1 + 1 + 1) 74 (numA (bitsL (A * (B % 2 ^ i)))) ∧ Below w.heap.size w wx) (fun i _ => 200 - (intOf i).toNat)
  case atStart => exact ⟨0, by omega, rfl, hA1, hB1, hO1, by rw [Nat.pow_zero, Nat.mod_one, Nat.mul_zero, bits_none]; exact hX1, hb1⟩
  case round =>
    clear hA1 hB1 hX1 hO1 hb1 hw1
    obtain ⟨i, hi, rfl, hA, hB, hO, hX, hbx⟩ := hrel
    by_cases hlt : i < 200
    · have hcb : wr.cell? ⟨w.heap.size + 1, 1 + i, none⟩ = some (.int .i64 (bitN B i : Nat)) := (hB.cell (1 + i)).trans (numA_at _ _ _ (bitsL_get B i hlt))
      have h2 := bitN_lt B i
      by_cases hz : bitN B i = 0
      · rw [hz] at hcb
        have HZ := Lib.hid (times_zero A B i hz)
        clear hz h2
        go_wp2_with fail
        go_roundw
        case rel => exact ⟨i + 1, by omega, by go_num, hA, hB, hO, by rw [HZ.out]; exact hX, hbx⟩
        case measure => simp [intOf]; omega
      · have ho : bitN B i = 1 := by omega
        rw [ho] at hcb
        have HZ := Lib.hid (times_one A B i ho)
        clear hz ho h2
        obtain ⟨wq, rfl⟩ : ∃ wq, wq = wr := ⟨wr, rfl⟩
        have hzq := hX.lt
        have hbq := hbx.size
        go_wp2_with fail
        obtain ⟨w2, hw2⟩ : ∃ w2, wq.alloc (.cells (numA z200) 74) = w2 := ⟨_, rfl⟩
        have hb2 : Below wq.heap.size wq w2 := by rw [← hw2]; exact (Below.refl _ wq).alloc (Nat.le_refl _) _
        have hY2 : Held w2 wq.heap.size 74 (numA z200) := by rw [← hw2]; exact Held.new _ _ _
        try rw [hw2]
        clear hw2
        go_loopw [8] (fun u8 wx => ∃ k : Nat, i + k ≤ 200 ∧ u8 = .int .i64 k ∧ Held wx wq.heap.size 74 (numA (fillS2 A i k)) ∧ Below wq.heap.size wq wx) (fun k _ => 200 - (intOf k).toNat)
        case atStart => exact ⟨0, by omega, rfl, by rw [fillS2_zero]; exact hY2, hb2⟩
        case round =>
          clear hY2 hb2
          obtain ⟨k, hk, rfl, hY, hbr⟩ := hrel
          by_cases hlt2 : i + k < 200
          · obtain ⟨q, hq⟩ : ∃ q, i + k = q := ⟨_, rfl⟩
            have hq2 : (k : Int) + (i : Int) = (q : Int) := by omega
            have hq3 : q < 200 := by omega
            have hca : wr.cell? ⟨w.heap.size, 1 + k, none⟩ = some (.int .i64 (bitN A k : Nat)) := (hbr.cell (p := ⟨w.heap.size, 1 + k, none⟩) hA.lt).trans ((hA.cell (1 + k)).trans (numA_at _ _ _ (bitsL_get A k (by omega))))
            have hck : wr.cell? ⟨wq.heap.size, 1 + q, none⟩ = some (.int .i64 ((0 : Nat) : Int)) := (hY.cell (1 + q)).trans (numA_at _ _ _ (by rw [← hq]; exact fillS2_get A i k (by omega)))
            have hfk := hY.frozen (1 + q)
            have hY2 := hY.set (1 + q) (.int .i64 ((bitN A k : Nat) : Int))
            rw [numA_set, ← hq, fillS2_set A i k (by omega), hq] at hY2
            have hb2 := hbr.setCell (p := ⟨wq.heap.size, 1 + q, none⟩) (by show wq.heap.size ≤ wq.heap.size; omega) (.int .i64 ((bitN A k : Nat) : Int))
            obtain ⟨b, hb⟩ : ∃ b, bitN A k = b := ⟨_, rfl⟩
            rw [hb] at hY2 hb2 hca
            clear hY hbr hb hq
            go_wp2_with fail
            go_roundw
            case rel => exact ⟨k + 1, by omega, by go_num, hY2, hb2⟩
            case measure => simp [intOf]; omega
          · have hge : ¬ ((k : Int) + (i : Int) < 200) := by omega
            rw [fillS2_end A i k (.inl (by omega))] at hY
            have hXr := hX.below hbr hX.lt
            have hAr := hA.below hbr hA.lt
            have hBr := hB.below hbr hB.lt
            have hOr := hO.below hbr hO.lt
            have hbwr := hbx.trans (hbr.mono hbq)
            have kp := num_plus (A * (B % 2 ^ i)) (A * 2 ^ i) wr
            rw [HZ.out] at kp
            have HP := Lib.hid kp
            obtain ⟨L1, hL1⟩ : ∃ L, bitsL (A * (B % 2 ^ i)) = L := ⟨_, rfl⟩
            obtain ⟨L2, hL2⟩ : ∃ L, bitsL (A * 2 ^ i) = L := ⟨_, rfl⟩
            obtain ⟨L3, hL3⟩ : ∃ L, bitsL (A * (B % 2 ^ (i + 1))) = L := ⟨_, rfl⟩
            have l1 : L1.length = 200 := by rw [← hL1]; exact bitsL_len _
            have l2 : L2.length = 200 := by rw [← hL2]; exact bitsL_len _
            have l3 : L3.length = 200 := by rw [← hL3]; exact bitsL_len _
            rw [hL1, hL2, hL3] at HP
            rw [hL1] at hXr
            rw [hL2] at hY
            have HL3 := Lib.hid hL3
            have s1 := num_size L1 l1
            have s2 := num_size L2 l2
            have s3 := num_size L3 l3
            have e3 : (numA L1).size = (numA L3).size := by rw [numA_size, numA_size, l1, l3]
            clear kp hL1 hL2 hL3 hX hA hB hO hbx
            go_wp2_with (first
              | (refine wpList_load_row rfl 74 (.tmp 5) rfl (w.heap.size + 1 + 1 + 1) rfl 74 (numA L1) (0, 0) _ hXr hu rfl s1 ?_)
              | (refine wpList_load_row rfl 74 (.tmp 7) rfl wq.heap.size rfl 74 (numA L2) (0, 0) _ hY hu rfl s2 ?_)
              | fail)
            refine HP.out.mono ?_
            rintro e w5 ⟨rfl, hb5⟩
            have hX5 := hXr.below hb5 hXr.lt
            have hA5 := hAr.below hb5 hAr.lt
            have hB5 := hBr.below hb5 hBr.lt
            have hO5 := hOr.below hb5 hOr.lt
            have hbw5 := hbwr.trans (hb5.mono hbwr.size)
            clear hXr hAr hBr hOr
            go_wp2_with (first
              | (refine wpList_store_row rfl 74 (.tmp 5) (.tmp 37) rfl (w.heap.size + 1 + 1 + 1) (numA L3) rfl rfl 74 (numA L1) hX5 s3 e3 (numA_one _) ?_)
              | fail)
            go_roundw
            case rel => exact ⟨i + 1, by omega, by go_num, hA5.setRowR (by omega) _, hB5.setRowR (by omega) _, hO5.setRowR (by omega) _, by rw [HL3.out]; exact setRow_heap _ _ _ _ _ _ hX5, below_setRow hbw5 _ _ (by omega)⟩
            case measure => simp [intOf]; omega
    · obtain rfl : i = 200 := by omega
      rw [Nat.mod_eq_of_lt HBB.out] at hX
      have kb := num_bare (A * B) 0 HAB.out (Nat.two_pow_pos 200)
      obtain ⟨L, hL⟩ : ∃ L, bitsL (A * B) = L := ⟨_, rfl⟩
      have l1 : L.length = 200 := by rw [← hL]; exact bitsL_len _
      rw [hL] at hX
      rw [hL, bits_none] at kb
      have KB := Lib.hid kb
      have HL := Lib.hid hL
      have s1 := num_size L l1
      have e1 : (numA z200).size = (numA L).size := by rw [numA_size, numA_size, l1]; rfl
      obtain ⟨w6, hw6⟩ : ∃ w6, wr.alloc (.cells (numA z200) 74) = w6 := ⟨_, rfl⟩
      have hb6 : Below wr.heap.size wr w6 := by rw [← hw6]; exact (Below.refl _ wr).alloc (Nat.le_refl _) _
      have hZ6 : Held w6 wr.heap.size 74 (numA z200) := by rw [← hw6]; exact Held.new _ _ _
      have hX6 := hX.below hb6 hX.lt
      have hA6 := hA.below hb6 hA.lt
      have hB6 := hB.below hb6 hB.lt
      have hO6 := hO.below hb6 hO.lt
      have hb6w := hbx.trans (hb6.mono hbx.size)
      clear kb hL hX hA hB hO hb6
      go_wp2_with (first
        | (refine wpList_store_row rfl 74 (.tmp 9) (.tmp 38) rfl wr.heap.size (numA z200) rfl rfl 74 (numA z200) (heap_alloc_new wr _) hsz rfl (numA_one _) ?_
           rw [World.setRow_alloc_new, hw6])
        | (refine wpList_store_row rfl 74 (.tmp 9) (.tmp 38) rfl wr.heap.size (numA z200) rfl rfl 74 (numA z200) hZ6 hsz rfl (numA_one _) ?_
           rw [setRow_self w6 wr.heap.size (numA z200) 74 (0, 0) hZ6])
        | (refine wpList_load_row rfl 74 (.tmp 5) rfl (w.heap.size + 1 + 1 + 1) rfl 74 (numA L) (0, 0) _ hX6 hu rfl s1 ?_)
        | (refine wpList_load_row rfl 74 (.tmp 9) rfl wr.heap.size rfl 74 (numA z200) (0, 0) _ hZ6 hu rfl hsz ?_)
        | fail)
      refine (KB.out _).mono ?_
      rintro e w7 ⟨⟨z, rfl, _, _⟩, hb7⟩
      have hX7 := hX6.below hb7 hX6.lt
      have hA7 := hA6.below hb7 hA6.lt
      have hB7 := hB6.below hb7 hB6.lt
      have hO7 := hO6.below hb7 hO6.lt
      have hb7w := hb6w.trans (hb7.mono hb6w.size)
      have n1 : w7.cell? ⟨w.heap.size, 0, none⟩ = some (.bool false) := (hA7.cell 0).trans (numA_neg _)
      have n2 : w7.cell? ⟨w.heap.size + 1, 0, none⟩ = some (.bool false) := (hB7.cell 0).trans (numA_neg _)
      have n3 : w7.cell? ⟨w.heap.size + 1 + 1 + 1, 0, none⟩ = some (.bool false) := (hX7.cell 0).trans (numA_neg _)
      have n4 := hX7.frozen 0
      have hX8 := hX7.set 0 (.bool false)
      rw [numA_set0] at hX8
      have hO8 := hO7.far (p := ⟨w.heap.size + 1 + 1 + 1, 0, none⟩) (by show w.heap.size + 1 + 1 ≠ w.heap.size + 1 + 1 + 1; omega) (.bool false)
      have hb8 := hb7w.setCell (p := ⟨w.heap.size + 1 + 1 + 1, 0, none⟩) (by show w.heap.size ≤ w.heap.size + 1 + 1 + 1; omega) (.bool false)
      clear hX6 hA6 hB6 hO6 hX7 hA7 hB7 hO7 hZ6 hb7
      go_wp2_with (first
        | (refine wpList_load_row rfl 74 (.tmp 5) rfl (w.heap.size + 1 + 1 + 1) rfl 74 (numA L) (0, 0) _ hX8 hu rfl s1 ?_)
        | (refine wpList_store_row rfl 74 (.tmp 4) (.tmp 52) rfl (w.heap.size + 1 + 1) (numA L) rfl rfl 74 (numA z200) hO8 s1 e1 (numA_one _) ?_)
        | fail)
      refine bodyPost_ret (v := .agg (numA L)) (results_cell_row Tryd.results44 _ _ (w.heap.size + 1 + 1) 74 (numA L) (0, 0) _ rfl (setRow_heap _ _ _ _ _ _ hO8) hu rfl s1) rfl ⟨by rw [HL.out], below_setRow hb8 _ _ (by omega)⟩
end Go.Proofs.YtjkhkgdijnhdmaaDoor
