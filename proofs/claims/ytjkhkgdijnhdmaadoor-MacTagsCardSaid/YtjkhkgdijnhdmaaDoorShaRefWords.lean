/- kilowattref04.words. -/
import Derived.Test.YtjkhkgdijnhdmaaDoorShaRefBits
import Derived.Deep.RegionHeld3
namespace Go.Proofs.YtjkhkgdijnhdmaaDoor
open Go.RowKit

/-- A word, the first k bytes of it read. -/
def partN (b : List Nat) (i : Nat) : Nat → Nat
  | 0 => 0
  | k + 1 => partN b i k * 256 + b.getD (4 * i + k) 0
theorem partN_four (b : List Nat) (i : Nat) : partN b i 4 = Sh.four b i := by simp [partN, Sh.four]; omega
theorem partN_lt (b : List Nat) (hb : ∀ x ∈ b, x < 256) (i k : Nat) (hk : k ≤ 4) : partN b i k < 256 ^ k := by
  induction k with
  | zero => simp [partN]
  | succ k ih =>
    have h1 := ih (by omega)
    have h2 : b.getD (4 * i + k) 0 < 256 := by
      rw [List.getD]
      cases e : b[4 * i + k]? with
      | none => simp
      | some x => exact hb x (List.mem_of_getElem? e)
    simp only [partN, Nat.pow_succ]
    omega
set_option maxRecDepth 100000 in
set_option maxHeartbeats 2000000 in
theorem words_ref (A : Option Addr) (cap : Nat) (bs : List Nat) (hl : bs.length = 64) (hb : ∀ x ∈ bs, x < 256) (w : World) (hR : RdI w w.heap.size .u8 A (nI bs)) :
    Calls Tryd.prog 41 #[.slice A 64 cap] w fun e w' => e = .returned (.agg (arrU (Sh.words bs 64))) ∧ Below w.heap.size w w' := by
  have HR := Lib.hid hR
  have HL := Lib.hid hl
  have HB := Lib.hid hb
  clear hR hl hb
  go_in
  go_wp2
  go_loopw [4, 5] (fun i _ wr => ∃ (j : Nat), j ≤ 16 ∧ i = .int .i64 j ∧ Held wr w.heap.size 69 (arrU (List.replicate 64 0)) ∧ Held wr (w.heap.size + 1) 69 (arrU (filled bs j)) ∧ Below w.heap.size w wr) (fun i _ _ => 16 - (intOf i).toNat)
  case atStart => exact ⟨0, by omega, rfl, (Held.new _ _ _).alloc _, by have := Held.new (w.alloc (.cells (arrU (List.replicate 64 0)) 69)) 69 (arrU (List.replicate 64 0)); rw [World.size_alloc] at this; exact this, ((Below.refl _ w).alloc (Nat.le_refl _) _).alloc (by simp) _⟩
  case round =>
    obtain ⟨j, hj, rfl, hX0, hX, hbel⟩ := hrel
    by_cases hlt : j < 16
    · have hX' : Held wr (w.heap.size + 1) 69 (arrU ((filled bs j).set j (partN bs j 0))) := by
        have e : (filled bs j).set j 0 = filled bs j := by
          apply List.ext_getElem?
          intro i
          rw [List.getElem?_set]
          split
          · rename_i h; subst h
            rw [filled_len bs j (by omega), if_pos (by omega)]
            unfold filled
            rw [List.getElem?_append_right (by rw [Sh.words_len]; omega), Sh.words_len, Nat.sub_self, List.getElem?_replicate, if_pos (by omega)]
          · rfl
        show Held wr (w.heap.size + 1) 69 (arrU ((filled bs j).set j 0))
        rw [e]
        exact hX
      go_wp2
      go_loopw [5] (fun i w' => ∃ (k : Nat), k ≤ 4 ∧ i = .int .i64 k ∧ Held w' w.heap.size 69 (arrU (List.replicate 64 0)) ∧ Held w' (w.heap.size + 1) 69 (arrU ((filled bs j).set j (partN bs j k))) ∧ Below w.heap.size w w') (fun i _ => 4 - (intOf i).toNat)
      case atStart => exact ⟨0, by omega, rfl, hX0, hX', hbel⟩
      case round =>
        clear hX0 hX hX' hbel
        obtain ⟨k, hk, rfl, hX0, hX, hbel⟩ := hrel
        by_cases hlt2 : k < 4
        · obtain ⟨q, hq⟩ : ∃ q, 4 * j + k = q := ⟨_, rfl⟩
          have hqi : 4 * (j : Int) + (k : Int) = (q : Int) := by omega
          obtain ⟨g, off, y0, rfl, hgb, hy0, hc0⟩ := (HR.out.below hbel).at_ (i := q) (by rw [nI_len, HL.out]; omega)
          obtain ⟨b0, rfl, hz0⟩ := nI_some hy0
          have hbl := HB.out _ (List.mem_of_getElem? hz0)
          have hp := partN_lt bs HB.out j k hk
          have hp2 : partN bs j k < 16777216 := Nat.lt_of_lt_of_le hp (Nat.le_trans (Nat.pow_le_pow_right (by decide) (show k ≤ 3 by omega)) (by decide))
          have hcell : (filled bs j).set j (partN bs j k) = (filled bs j).set j (partN bs j k) := rfl
          have c0 := (hX.cell j).trans (arrU_at _ _ (partN bs j k) (by rw [List.getElem?_set, if_pos rfl, filled_len bs j (by omega), if_pos (by omega)]))
          have hfz := hX.frozen j
          have HN := Lib.hid (show partN bs j (k + 1) = partN bs j k * 256 + b0 by rw [partN, hq, List.getD, hz0]; rfl)
          generalize partN bs j k = p at hp2 c0 HN hX
          have hq64 : q < 64 := by omega
          have HY := Lib.hid (And.intro hq hp)
          clear hy0 hz0 hp hcell hq
          go_wp2
          go_region
          rw [show (p : Int) * 256 + (b0 : Int) = ((p * 256 + b0 : Nat) : Int) by omega]
          go_wp2
          go_roundw
          case rel =>
            refine ⟨k + 1, by omega, by go_num, (hX0.far (by simp) _).drew, ?_, (hbel.setCell (p := ⟨w.heap.size + 1, j, none⟩) (by simp) _).drew⟩
            have := (hX.set j (.int .u32 (p * 256 + b0 : Nat))).drew
            rw [arrU_set, List.set_set] at this
            rw [HN.out]
            exact this
          case measure => simp [intOf]; omega
        · obtain rfl : k = 4 := by omega
          rw [partN_four] at hX
          have HS := Lib.hid (filled_step bs j (by omega))
          go_wp2
          go_roundw
          case rel =>
            refine ⟨j + 1, by omega, by go_num, hX0, ?_, hbel⟩
            have h := HS.out
            rw [if_pos hlt] at h
            rw [← h]
            exact hX
          case measure => simp [intOf]; omega
    · have hj16 : j = 16 := by omega
      rw [hj16] at hX
      clear hj16
      go_wp2
      go_loopw [6] (fun i wr => ∃ (j : Nat), 16 ≤ j ∧ j ≤ 64 ∧ i = .int .i64 j ∧ Held wr w.heap.size 69 (arrU (List.replicate 64 0)) ∧ Held wr (w.heap.size + 1) 69 (arrU (filled bs j)) ∧ Below w.heap.size w wr) (fun i _ => 64 - (intOf i).toNat)
      case atStart => exact ⟨16, by omega, by omega, rfl, hX0, hX, hbel⟩
      case round =>
        clear hX0 hX hbel
        obtain ⟨j, hj16, hj, rfl, hX0, hX, hbel⟩ := hrel
        by_cases hlt2 : j < 64
        · obtain ⟨i15, k15⟩ : ∃ i : Nat, i = j - 15 := ⟨_, rfl⟩
          obtain ⟨i2, k2⟩ : ∃ i : Nat, i = j - 2 := ⟨_, rfl⟩
          obtain ⟨i7, k7⟩ : ∃ i : Nat, i = j - 7 := ⟨_, rfl⟩
          obtain ⟨i16, k16⟩ : ∃ i : Nat, i = j - 16 := ⟨_, rfl⟩
          have e15 : (j : Int) - 15 = (i15 : Int) := by omega
          have e2 : (j : Int) - 2 = (i2 : Int) := by omega
          have e7 : (j : Int) - 7 = (i7 : Int) := by omega
          have e16 : (j : Int) - 16 = (i16 : Int) := by omega
          have b15 : i15 < 64 := by omega
          have b2 : i2 < 64 := by omega
          have b7 : i7 < 64 := by omega
          have b16 : i16 < 64 := by omega
          have hcell := hX.cell j
          rw [arrU_at _ _ 0 (by rw [filled, List.getElem?_append_right (by rw [Sh.words_len]; omega), Sh.words_len, Nat.sub_self, List.getElem?_replicate, if_pos (by omega)])] at hcell
          have hfz := hX.frozen j
          have c1 := (hX.cell i15).trans (arrU_at _ _ _ (filled_at bs j i15 (by omega)))
          have c2 := (hX.cell i2).trans (arrU_at _ _ _ (filled_at bs j i2 (by omega)))
          have c3 := (hX.cell i7).trans (arrU_at _ _ _ (filled_at bs j i7 (by omega)))
          have c4 := (hX.cell i16).trans (arrU_at _ _ _ (filled_at bs j i16 (by omega)))
          have l1 := word_lt bs HB.out j i15
          have l2 := word_lt bs HB.out j i2
          have l3 := word_lt bs HB.out j i7
          have l4 := word_lt bs HB.out j i16
          have HS := Lib.hid (filled_step bs j (by omega))
          have HN := Lib.hid (show Sh.next (Sh.words bs j) j = (Sh.sig1 ((Sh.words bs j).getD i2 0) + (Sh.words bs j).getD i7 0 + Sh.sig0 ((Sh.words bs j).getD i15 0) + (Sh.words bs j).getD i16 0) % 4294967296 by
            rw [k15, k2, k7, k16]; rfl)
          have d7 : i7 ≠ j := by omega
          have d16 : i16 ≠ j := by omega
          clear k15 k2 k7 k16
          generalize (Sh.words bs j).getD i15 0 = x at c1 l1 HN
          generalize (Sh.words bs j).getD i2 0 = y at c2 l2 HN
          generalize (Sh.words bs j).getD i7 0 = p at c3 l3 HN
          generalize (Sh.words bs j).getD i16 0 = r at c4 l4 HN
          have S0 := Lib.hid (sig0_plain x l1)
          have S1 := Lib.hid (sig1_plain y l2)
          have NX := Lib.hid (show IntKind.u32.wrap (IntKind.u32.wrap (IntKind.u32.wrap (((Sh.sig1 y : Nat) : Int) + (p : Int)) + ((Sh.sig0 x : Nat) : Int)) + (r : Int)) = ((Sh.next (Sh.words bs j) j : Nat) : Int) by
            simp only [IntKind.wrap_u32]
            rw [HN.out]
            omega)
          have R7 := Lib.hid (right_7 x l1)
          have R18 := Lib.hid (right_18 x l1)
          have R17 := Lib.hid (right_17 y l2)
          have R19 := Lib.hid (right_19 y l2)
          have hw7 : IntKind.i64.wrap (i7 : Int) = (i7 : Int) := IntWalk.i64_in _ (by omega)
          have hw16 : IntKind.i64.wrap (i16 : Int) = (i16 : Int) := IntWalk.i64_in _ (by omega)
          have n7 : (0 : Int) ≤ (i7 : Int) := by omega
          have n16 : (0 : Int) ≤ (i16 : Int) := by omega
          have m7 : (i7 : Int) < 64 := by omega
          have m16 : (i16 : Int) < 64 := by omega
          have nj : (0 : Int) ≤ (j : Int) := by omega
          have mj : (j : Int) < 64 := by omega
          go_wp2
          go_region_held3 (fun X => X.cell? ⟨w.heap.size + 1, i7, none⟩ = some (.int .u32 p) ∧ X.cell? ⟨w.heap.size + 1, i16, none⟩ = some (.int .u32 r))
            (first
              | exact ⟨c3, c4⟩
              | exact ⟨(World.cell?_setCell_other _ _ _ _ (by intro h; injection h with h1 h2; exact d7 h2.symm)).trans c3, (World.cell?_setCell_other _ _ _ _ (by intro h; injection h with h1 h2; exact d16 h2.symm)).trans c4⟩
              | go_keep)
            (first
              | (go_at_call 42; (with_reducible refine (R17.out _).mono ?_); rintro e w' ⟨rfl, k1, rfl⟩)
              | (go_at_call 42; (with_reducible refine (R19.out _).mono ?_); rintro e w' ⟨rfl, k2, rfl⟩)
              | (go_at_call 42; (with_reducible refine (R7.out _).mono ?_); rintro e w' ⟨rfl, k3, rfl⟩)
              | (go_at_call 42; (with_reducible refine (R18.out _).mono ?_); rintro e w' ⟨rfl, k4, rfl⟩))
          rw [S0.out, S1.out, NX.out]
          go_wp2
          go_roundw
          case rel =>
            refine ⟨j + 1, by omega, by omega, by go_num, (hX0.far (by simp) _), ?_, ((below_drewN hbel _).setCell (p := ⟨w.heap.size + 1, j, none⟩) (by simp) _)⟩
            have := hX.set j (.int .u32 (Sh.next (Sh.words bs j) j : Nat))
            rw [arrU_set] at this
            rw [← HS.out, if_neg (by omega)]
            exact this
          case measure => simp [intOf]; omega
        · obtain rfl : j = 64 := by omega
          have e : filled bs 64 = Sh.words bs 64 := by simp [filled]
          rw [e] at hX
          obtain ⟨V, hV⟩ : ∃ V, V = Sh.words bs 64 := ⟨_, rfl⟩
          have HV := Lib.hid hV
          have hVl : V.length = 64 := by rw [hV]; exact Sh.words_len _ _
          rw [← hV] at hX
          clear hV e
          have hs : (Tryd.prog.info? 69).map (·.size) = some (arrU V).size := by rw [arrU_size, hVl]; exact wordsSize
          go_wp2_with (first
            | (refine wpList_load_row rfl 69 (.tmp 3) rfl (w.heap.size + 1) rfl 69 (arrU V) (0, 0) _ hX Tryd.underlying69 rfl hs ?_)
            | (refine wpList_store_row rfl 69 (.tmp 2) (.tmp 73) rfl w.heap.size (arrU V) rfl rfl 69 (arrU (List.replicate 64 0)) hX0 hs (by rw [arrU_size, arrU_size, hVl]; rfl) (arrU_one _) ?_))
          refine bodyPost_ret (v := .agg (arrU V)) (results_cell_row Tryd.results41 _ _ w.heap.size 69 (arrU V) (0, 0) _ rfl (setRow_heap _ _ _ _ _ _ hX0) Tryd.underlying69 rfl hs) rfl ⟨by rw [HV.out], below_setRow hbel _ _ (Nat.le_refl _)⟩
end Go.Proofs.YtjkhkgdijnhdmaaDoor
