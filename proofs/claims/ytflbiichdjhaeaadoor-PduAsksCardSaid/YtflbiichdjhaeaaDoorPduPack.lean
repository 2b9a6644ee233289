/- pdu.Pack. -/
import Derived.Test.YtflbiichdjhaeaaDoorRows
import Derived.Test.YtflbiichdjhaeaaDoorBools
import Derived.Test.YtflbiichdjhaeaaDoorPduCore
import Derived.Test.YtflbiichdjhaeaaDoorGuards
import Derived.WalkKit
import Derived.WalkSpells
import Derived.WalkLawsBesides
import Derived.BigQuiet
import Derived.Deep.QuietTactic
import Derived.Deep.RegionHeld3
import Derived.Deep.AppendLies
import Derived.Lib.Hide
namespace Go.Proofs.YtflbiichdjhaeaaDoor
open Go.RowKit

theorem infoU8 : (Tryd.prog.info? 5).map (fun i => (i.zero, i.size, i.bytes)) = some (some (.int .u8 0), 1, 1) := by kernel_rfl
theorem RdB.at_ {w : World} {B : Nat} {A : Option Addr} {xs : List Bool} {i : Nat} (h : RdB w B A xs) (hi : i < xs.length) : ∃ g off x, A = some ⟨g, off, none⟩ ∧ g < B ∧ xs[i]? = some x ∧ w.cell? ⟨g, off + i, none⟩ = some (.bool x) := by
  obtain ⟨g, off, e, hb, hc⟩ := h (by omega)
  exact ⟨g, off, xs[i], e, hb, List.getElem?_eq_getElem hi, hc i _ (List.getElem?_eq_getElem hi)⟩

theorem or8_all : ∀ r : Fin 8, ∀ y : Fin 128, y.1 < 2 ^ r.1 → bits BinOp.or IntKind.u8 (y.1 : Int) ((2 : Int) ^ r.1 % 256) = (y.1 : Int) + 2 ^ r.1 := by decide +kernel
theorem or8 (y : Int) (r : Nat) (hr : r < 8) (h0 : 0 ≤ y) (h : y < (2 : Int) ^ r) : bits BinOp.or IntKind.u8 y ((2 : Int) ^ r % 256) = y + 2 ^ r := by
  obtain ⟨n, rfl⟩ := Int.eq_ofNat_of_zero_le h0
  have h1 : n < 2 ^ r := by exact_mod_cast h
  have h2 : 2 ^ r ≤ 2 ^ 7 := Nat.pow_le_pow_right (by omega) (by omega)
  exact or8_all ⟨r, hr⟩ ⟨n, by omega⟩ h1

theorem pack_own (A : Option Addr) (nb cb : Nat) (xs : List Bool) (hreach : nb ≤ 1000000) (w : World) (hA : SlB w w.heap.size A nb cb xs) :
    Calls Tryd.prog 24 #[.slice A nb cb] w fun e w' => ∃ v, e = .returned v ∧ w'.ownsRow w.heap.size 5 1 v (packN xs).length ((packN xs).map (.int .u8)) ∧ Below w.heap.size w w' := by
  obtain ⟨hl, hcap, _, _, hR⟩ := hA
  obtain ⟨i0, hi, hz0, hz1, hz2⟩ := info_parts infoU8
  have HL := Lib.hid hl
  have HR := Lib.hid hR
  clear hl hR
  go_in
  go_wp2
  go_loopw [3, 8] (fun u i wr => ∃ k : Nat, k ≤ nb ∧ i = .int .i64 k ∧ wr.ownsRow w.heap.size 5 1 u (packN (xs.take k)).length ((packN (xs.take k)).map (.int .u8)) ∧ Below w.heap.size w wr) (fun _ i _ => nb - (intOf i).toNat)
  case atStart =>
    refine ⟨0, by omega, rfl, ?_, Below.refl _ _⟩
    have e : packN (xs.take 0) = [] := by simp [packN]
    rw [e]
    exact World.ownsRow_nil _ _ _ _
  case round =>
    obtain ⟨k, hk, rfl, hown, hb⟩ := hrel
    by_cases hlt : k < nb
    · obtain ⟨g, off, x, rfl, hg, hx, hc⟩ := (HR.out.below hb).at_ (i := k) (by rw [HL.out]; exact hlt)
      have HX := Lib.hid hx
      obtain ⟨q, r, hkq, hr8⟩ : ∃ q r : Nat, k = 8 * q + r ∧ r < 8 := ⟨k / 8, k % 8, by omega, by omega⟩
      have HQ := Lib.hid hkq
      have q1 : (k : Int) / 8 = (q : Int) := by omega
      have q2 : (k : Int).tdiv 8 = (q : Int) := by rw [Int.tdiv_eq_ediv_of_nonneg (by omega)]; exact q1
      have r1 : (k : Int) % 8 = (r : Int) := by omega
      have r2 : (k : Int).tmod 8 = (r : Int) := by rw [Int.tmod_eq_emod_of_nonneg (by omega)]; exact r1
      have HS := Lib.hid (show xs.take (k + 1) = xs.take k ++ [x] by rw [List.take_add_one, hx, Option.toList_some])
      have HLK := Lib.hid (show (xs.take k).length = k by rw [List.length_take, HL.out]; omega)
      have hsz := hb.size
      have HPS := Lib.hid (packN_snoc (xs.take k) x)
      have HPM := Lib.hid (packM_at (xs.take k))
      have HPL := Lib.hid (packN_len (xs.take k))
      have HBY := Lib.hid (byteOf_last (xs.take k))
      clear hx hkq
      have HNB := Lib.hid (byteOf_small (xs.take k) (k / 8))
      by_cases h0 : r = 0
      · have e1 : ((r : Int) == 0) = true := by simpa using h0
        have HM := Lib.hid (show packN (xs.take k) ++ [0] = packM (xs.take k) from packM_new _ (by rw [HLK.out]; have := HQ.out; omega))
        cases x with
        | false =>
          go_wp2_with ((with_reducible refine at_append ?_); refine wpList_append_own _ rfl _ _ 28 rfl w.heap.size 5 i0 (.int .u8 0) 1 1 Tryd.underlying28 hi hz0 hz1 hz2 rfl (by decide) _ _ _ rfl (hown.alloc _) ⟨wr.heap.size, 0, none⟩ 1 1 [.int .u8 0] rfl rfl (World.news_of_block (cs := #[.int .u8 0]) (t := 5) (fr := (0, 0)) (heap_alloc_new wr _)) (by simp [Value.oneCell']) (by rw [HPL.out, HLK.out]; unfold maxLen; omega) (by rw [HPL.out, HLK.out]; omega) (by simp; omega) ?_; intro v' w1 hown' hgrow _; have hb2 : Below w.heap.size w w1 := (hb.alloc hsz _).grown hgrow (by simp; omega) (fun j hj => (hown.lt j hj).1); have hown2 : w1.ownsRow w.heap.size 5 1 v' (packM (xs.take k)).length ((packM (xs.take k)).map (.int .u8)) := by { rw [← HM.out]; simpa using hown' }; clear hown' hgrow)
          go_roundw
          case rel =>
            refine ⟨k + 1, by omega, by go_num, ?_, hb2⟩
            rw [HS.out, packN_false]
            exact hown2
          case measure => simp [intOf]; omega
        | true =>
          go_wp2_with ((with_reducible refine at_append ?_); refine wpList_append_own _ rfl _ _ 28 rfl w.heap.size 5 i0 (.int .u8 0) 1 1 Tryd.underlying28 hi hz0 hz1 hz2 rfl (by decide) _ _ _ rfl (hown.alloc _) ⟨wr.heap.size, 0, none⟩ 1 1 [.int .u8 0] rfl rfl (World.news_of_block (cs := #[.int .u8 0]) (t := 5) (fr := (0, 0)) (heap_alloc_new wr _)) (by simp [Value.oneCell']) (by rw [HPL.out, HLK.out]; unfold maxLen; omega) (by rw [HPL.out, HLK.out]; omega) (by simp; omega) ?_; intro v' w1 hown' hgrow _; have hb2 : Below w.heap.size w w1 := (hb.alloc hsz _).grown hgrow (by simp; omega) (fun j hj => (hown.lt j hj).1); have hown2 : w1.ownsRow w.heap.size 5 1 v' (packM (xs.take k)).length ((packM (xs.take k)).map (.int .u8)) := by { rw [← HM.out]; simpa using hown' }; clear hown' hgrow)
          obtain ⟨gb, c, rfl, hgb, hgb2, hnc, hcm⟩ := own_pos hown2 (by rw [packM_len]; omega)
          have HLEN := Lib.hid (show (packM (xs.take k)).length = k / 8 + 1 by rw [packM_len, HLK.out])
          obtain ⟨y, hy, hcy, hfy⟩ := own_at hown2 (i := q) (by rw [HLEN.out]; have := HQ.out; omega)
          have HY := Lib.hid hy
          have H0 := Lib.hid h0
          have HH2 := Lib.hid hown2
          have hqn : q < (packM (xs.take k)).length := by rw [HLEN.out]; have := HQ.out; omega
          clear hy h0
          go_wp2_with (fail)
          go_region
          go_wp2
          go_roundw
          case rel =>
            refine ⟨k + 1, by omega, by go_num, ?_, (hb2.setCell (p := ⟨gb, q, none⟩) hgb _).drew⟩
            have hq : k / 8 = q := by have := HQ.out; omega
            have hr : k % 8 = r := by have := HQ.out; omega
            have hyy : y = byteOf (xs.take k) q := by
              have h1 := HPM.out
              have h2 := HY.out
              rw [HLK.out, hq, h2] at h1
              injection h1
            have hb1 := HBY.out
            rw [HLK.out, hq, hr, ← hyy] at hb1
            have hb3 := HNB.out
            rw [hq, ← hyy] at hb3
            have := own_set HH2.out q (bits BinOp.or IntKind.u8 y (2 ^ r % 256))
            rw [or8 y r hr8 hb3.1 hb1] at this ⊢
            have h5 := packN_snoc (xs.take k) true
            rw [HLK.out, hq, hr, if_pos rfl, ← hyy] at h5
            rw [HS.out, h5, List.length_set]
            exact this
          case measure => simp [intOf]; omega
      · have e1 : ((r : Int) == 0) = false := by simp; omega
        have hown2 : wr.ownsRow w.heap.size 5 1 u3 (packM (xs.take k)).length ((packM (xs.take k)).map (.int .u8)) := by
          rw [← packM_old _ (by rw [HLK.out]; have := HQ.out; omega)]; exact hown
        clear hown
        cases x with
        | false =>
          go_wp2
          go_roundw
          case rel =>
            refine ⟨k + 1, by omega, by go_num, ?_, hb⟩
            rw [HS.out, packN_false]
            exact hown2
          case measure => simp [intOf]; omega
        | true =>
          obtain ⟨gb, c, rfl, hgb, hgb2, hnc, hcm⟩ := own_pos hown2 (by rw [packM_len]; omega)
          have hb2 := hb
          obtain ⟨w1, rfl⟩ : ∃ w1 : World, w1 = wr := ⟨_, rfl⟩
          have HLEN := Lib.hid (show (packM (xs.take k)).length = k / 8 + 1 by rw [packM_len, HLK.out])
          obtain ⟨y, hy, hcy, hfy⟩ := own_at hown2 (i := q) (by rw [HLEN.out]; have := HQ.out; omega)
          have HY := Lib.hid hy
          have H0 := Lib.hid h0
          have HH2 := Lib.hid hown2
          have hqn : q < (packM (xs.take k)).length := by rw [HLEN.out]; have := HQ.out; omega
          clear hy h0
          go_wp2_with (fail)
          go_region
          go_wp2
          go_roundw
          case rel =>
            refine ⟨k + 1, by omega, by go_num, ?_, (hb2.setCell (p := ⟨gb, q, none⟩) hgb _).drew⟩
            have hq : k / 8 = q := by have := HQ.out; omega
            have hr : k % 8 = r := by have := HQ.out; omega
            have hyy : y = byteOf (xs.take k) q := by
              have h1 := HPM.out
              have h2 := HY.out
              rw [HLK.out, hq, h2] at h1
              injection h1
            have hb1 := HBY.out
            rw [HLK.out, hq, hr, ← hyy] at hb1
            have hb3 := HNB.out
            rw [hq, ← hyy] at hb3
            have := own_set HH2.out q (bits BinOp.or IntKind.u8 y (2 ^ r % 256))
            rw [or8 y r hr8 hb3.1 hb1] at this ⊢
            have h5 := packN_snoc (xs.take k) true
            rw [HLK.out, hq, hr, if_pos rfl, ← hyy] at h5
            rw [HS.out, h5, List.length_set]
            exact this
          case measure => simp [intOf]; omega
    · obtain rfl : k = nb := by omega
      go_wp2
      go_ret
      refine ⟨_, rfl, ?_, hb⟩
      rw [List.take_of_length_le (by have := HL.out; omega)] at hown
      exact hown
end Go.Proofs.YtflbiichdjhaeaaDoor
