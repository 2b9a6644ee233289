/- kilowattref04.Parse. -/
import Derived.Test.YtjkhkgdijnhdmaaShaParse
namespace Go.Proofs.Ytjkhkgdijnhdmaa
open Go.RowKit

def valS (s : ByteArray) (i : Nat) : Int := val (chr s i)
theorem valS_in (s : ByteArray) (i : Nat) : 0 ≤ valS s i ∧ valS s i < 16 := valTo_in _ 16 (Nat.le_refl _)
theorem refL_in (s : ByteArray) (i : Nat) : ∀ x ∈ refL (valS s) i, 0 ≤ x ∧ x < 256 := by
  intro x hx
  simp only [refL, List.mem_map] at hx
  obtain ⟨k, _, rfl⟩ := hx
  exact refAt_in _ _ _ (valS_in s)

def RefPost (s : ByteArray) (e : Ending) : Prop :=
  (s.size = 64 ∧ bytesOf (hexL (refL (valS s) 64)) = s.data.toList ∧ e = .returned (.tuple #[.agg (cellsU (refL (valS s) 64)), .int .i64 0])) ∨ (¬ (s.size = 64 ∧ bytesOf (hexL (refL (valS s) 64)) = s.data.toList) ∧ e = .returned (.tuple #[.agg (cellsU zeroH), .int .i64 40]))

theorem refparse_any (s : ByteArray) (w : World) :
    Calls Try.prog 5 #[.string s] w fun e w' => RefPost s e ∧ Below w.heap.size w w' := by
  by_cases hs : s.size = 64
  · go_in
    go_wp2
    go_loopw [5] (fun i wr => ∃ (j : Nat), j ≤ 64 ∧ i = .int .i64 j ∧ wr.heap[w.heap.size]? = some (.cells (cellsU zeroH) 23 (0, 0)) ∧ wr.heap[w.heap.size + 1]? = some (.cells (cellsU (refL (valS s) j)) 23 (0, 0)) ∧ Below w.heap.size w wr) (fun i _ => 64 - (intOf i).toNat)
    case atStart => exact ⟨0, by omega, rfl, heap_alloc2_old w _ _, by rw [refL_zero]; exact heap_alloc2_new w _ _, ((Below.refl _ w).alloc (Nat.le_refl _) _).alloc (by simp) _⟩
    case round =>
      obtain ⟨j, hj, rfl, hb1, hb2, hbel⟩ := hrel
      by_cases hlt : j < 64
      · obtain ⟨wo, rfl⟩ : ∃ wo : World, wo = wr := ⟨_, rfl⟩
        have hx := chr_in s j
        have hi1 := fun w => index_str s j (by omega) w
        have HB1 := Lib.hid hb1
        have HB2 := Lib.hid hb2
        have hsz := (Array.getElem?_eq_some_iff.1 hb2).1
        have hval : val (chr s j) = valS s j := rfl
        generalize hc : chr s j = c at hx hi1 hval
        have hcel : wo.cell? ⟨w.heap.size + 1, j / 2, none⟩ = some (.int .u8 (refAt (valS s) j (j / 2))) := by rw [cell_of_row _ _ _ _ _ _ hb2]; simp [cellsU, refL_get _ _ _ (show j / 2 < 32 by omega)]
        have hfz := frozen_of_row wo (w.heap.size + 1) (j / 2) _ _ hb2
        have HCE := Lib.hid (And.intro hcel hfz)
        have HC := Lib.hid hc
        clear hb1 hb2 hcel hfz hc
        go_wp2
        go_loopw [6, 7] (fun a b w' => ∃ (d : Nat), d ≤ 16 ∧ b = .int .u8 d ∧ a = .int .u8 (valTo c d) ∧ w'.heap = wo.heap ∧ Below w.heap.size w w') (fun _ b _ => 16 - (intOf b).toNat)
        case atStart => exact ⟨0, by omega, rfl, by simp [valTo]; omega, rfl, hbel⟩
        case round =>
          obtain ⟨d, hd, rfl, rfl, hheap, hbq⟩ := hrel
          by_cases hdlt : d < 16
          · obtain ⟨nd, hnd⟩ : ∃ nd, nib (d : Int) = nd := ⟨_, rfl⟩
            have C1 := Lib.hid fun W => nibble_at d nd (by omega) (by omega) hnd W
            have HND := Lib.hid hnd
            clear hnd
            go_wp2
            go_quiet (first
              | (go_at_call 9; exact Calls.quiet_of_same (C1.out _)))
            by_cases he : nd = c
            · have k1 : (nd == c) = true := by simpa using he
              go_wp2
              go_roundw
              case rel => exact ⟨d + 1, by omega, by go_num, by rw [valTo_yes c d hdlt (by rw [HND.out]; exact he)], hheap, below_drewN hbq _⟩
              case measure => simp [intOf]; omega
            · have k1 : (nd == c) = false := by simpa using he
              go_wp2
              go_roundw
              case rel => exact ⟨d + 1, by omega, by go_num, by rw [valTo_no c d hx.1 hx.2 (by rw [HND.out]; exact he)], hheap, below_drewN hbq _⟩
              case measure => simp [intOf]; omega
          · obtain rfl : d = 16 := by omega
            have hvv : valTo c 16 = valS s j := hval
            have hvin := valS_in s j
            have hrin := refAt_low (valS s) j (valS_in s)
            have hcel : wr.cell? ⟨w.heap.size + 1, j / 2, none⟩ = some (.int .u8 (refAt (valS s) j (j / 2))) := by
              have := HCE.out.1
              unfold World.cell? at this ⊢
              rw [hheap]
              exact this
            have hfz : wr.frozen? ⟨w.heap.size + 1, j / 2, none⟩ = false := by
              have := HCE.out.2
              unfold World.frozen? at this ⊢
              rw [hheap]
              exact this
            have HH := Lib.hid hheap
            clear hheap
            have HST := Lib.hid (refL_step (valS s) j)
            generalize hv : valS s j = v at hvv hvin HST
            generalize hr : refAt (valS s) j (j / 2) = r at hrin hcel HST
            have HR := Lib.hid hr
            have HV := Lib.hid hv
            clear hr hv
            rw [hvv]
            go_wp2
            go_roundw
            case rel =>
              refine ⟨j + 1, by omega, by go_num, ?_, ?_, hbq.setCell (p := ⟨w.heap.size + 1, j / 2, none⟩) (by simp) _⟩
              · exact (heap_setCell_other _ _ _ _ (by simp)).trans (by rw [HH.out]; exact HB1.out)
              · have h1 := heap_setCell_same wr (w.heap.size + 1) (j / 2) _ _ (.int .u8 (r * 16 + v)) (by rw [HH.out]; exact HB2.out)
                rw [cellsU_set, HST.out] at h1
                exact h1
            case measure => simp [intOf]; omega
      · obtain rfl : j = 64 := by omega
        have HB1 := Lib.hid hb1
        have HB2 := Lib.hid hb2
        have hsz := (Array.getElem?_eq_some_iff.1 hb2).1
        clear hb1 hb2
        go_wp2_with (first
          | (refine wpList_load_row rfl 23 (.tmp 4) rfl (w.heap.size + 1) rfl 23 (cellsU (refL (valS s) 64)) (0, 0) _ HB2.out Try.underlying23 rfl (hashCells _ (refL_len _ _)) ?_)
          | (go_at_call 7; refine (reftext_any (refL (valS s) 64) (refL_len _ _) (refL_in s 64) _).mono ?_))
        rintro e w1 ⟨rfl, hbt⟩
        have hszt := hbt.size
        have HB1' : Hid (w1.heap[w.heap.size]? = some (.cells (cellsU zeroH) 23 (0, 0))) := Lib.hid ((hbt.block _ (by omega)).trans HB1.out)
        have HB2' : Hid (w1.heap[w.heap.size + 1]? = some (.cells (cellsU (refL (valS s) 64)) 23 (0, 0))) := Lib.hid ((hbt.block _ (by omega)).trans HB2.out)
        have hbw := hbel.trans (hbt.mono (by omega))
        generalize hT : bytesOf (hexL (refL (valS s) 64)) = T
        have HT := Lib.hid hT
        clear hT
        by_cases he : T = s.data.toList
        · have HE := Lib.hid he
          go_wp2_with (first
            | (refine wpList_load_row rfl 23 (.tmp 4) rfl (w.heap.size + 1) rfl 23 (cellsU (refL (valS s) 64)) (0, 0) _ HB2'.out Try.underlying23 rfl (hashCells _ (refL_len _ _)) ?_)
            | (refine wpList_store_row rfl 23 (.tmp 2) (.tmp 42) rfl w.heap.size (cellsU (refL (valS s) 64)) rfl rfl 23 (cellsU zeroH) HB1'.out (hashCells _ (refL_len _ _)) (by rw [cellsU_size, cellsU_size, refL_len]; rfl) (cellsU_one _) ?_))
          refine bodyPost_ret (v := .tuple #[.agg (cellsU (refL (valS s) 64)), .int .i64 0]) (results_hash _ Try.results5 _ _ w.heap.size (refL (valS s) 64) _ rfl rfl (setRow_heap _ _ _ _ _ _ HB1'.out) (refL_len _ _)) rfl ⟨Or.inl ⟨hs, HT.out.trans HE.out, rfl⟩, below_setRow hbw _ _ (Nat.le_refl _)⟩
        · have HE := Lib.hid he
          have k1 : (T == s.toList) = false := by rw [ByteArray.toList_eq]; simpa using he
          clear he
          go_wp2_with (refine wpList_store_row rfl 23 (.tmp 2) (.tmp 41) rfl w.heap.size (cellsU zeroH) rfl rfl 23 (cellsU zeroH) HB1'.out (hashCells zeroH rfl) rfl (cellsU_one _) ?_)
          refine bodyPost_ret (v := .tuple #[.agg (cellsU zeroH), .int .i64 40]) (results_hash _ Try.results5 _ _ w.heap.size zeroH _ rfl rfl (setRow_heap _ _ _ _ _ _ HB1'.out) rfl) rfl ⟨Or.inr ⟨fun h => HE.out (HT.out.symm.trans h.2), rfl⟩, below_setRow hbw _ _ (Nat.le_refl _)⟩
  · have hs' : ((s.size : Int) != 64) = true := by simp; omega
    have HS := Lib.hid hs
    clear hs
    go_in
    go_wp2_with (first
      | (refine wpList_load_row rfl 23 (.tmp 4) rfl (w.heap.size + 1) rfl 23 (cellsU zeroH) (0, 0) _ (heap_alloc2_new w _ _) Try.underlying23 rfl (hashCells zeroH rfl) ?_)
      | (refine wpList_store_row rfl 23 (.tmp 2) (.tmp 11) rfl w.heap.size (cellsU zeroH) rfl rfl 23 (cellsU zeroH) (heap_alloc2_old w _ _) (hashCells zeroH rfl) rfl (cellsU_one _) ?_))
    refine bodyPost_ret (v := .tuple #[.agg (cellsU zeroH), .int .i64 40]) (results_hash _ Try.results5 _ _ w.heap.size zeroH _ rfl rfl (setRow_heap _ _ _ _ _ _ (heap_alloc2_old w _ _)) rfl) rfl ⟨Or.inr ⟨fun h => HS.out h.1, rfl⟩, below_setRow (((Below.refl _ w).alloc (Nat.le_refl _) _).alloc (by simp) _) _ _ (Nat.le_refl _)⟩

end Go.Proofs.Ytjkhkgdijnhdmaa
