/- The document's Pack. -/
import Derived.Test.YtflbiichdjhaeaaDoorPduPack
namespace Go.Proofs.YtflbiichdjhaeaaDoor
open Go.RowKit

/-- The first bytes of bits. -/
def packs (l : List Bool) (j : Nat) : List Int := (List.range j).map (byteOf l)
theorem packs_len (l : List Bool) (j : Nat) : (packs l j).length = j := by simp [packs]
theorem packs_succ (l : List Bool) (j : Nat) : packs l (j + 1) = packs l j ++ [byteOf l j] := by simp [packs, List.range_succ]
theorem bsum_take (u : List Bool) (m : Nat) (x : Bool) (h : u[m]? = some x) : bsum (u.take (m + 1)) = bsum (u.take m) + if x then (2 : Int) ^ m else 0 := by
  rw [List.take_add_one, h, Option.toList_some, bsum_append]
  have : (u.take m).length = m := by
    have := (List.getElem?_eq_some_iff.1 h).1
    rw [List.length_take]; omega
  rw [this]

set_option maxRecDepth 100000 in
theorem refpack_any (A : Option Addr) (nb cb : Nat) (xs : List Bool) (hreach : nb ≤ 1000000) (w : World) (hA : SlB w w.heap.size A nb cb xs) :
    Calls Tryd.prog 34 #[.slice A nb cb] w fun e w' => ∃ v, e = .returned v ∧ w'.ownsRow w.heap.size 5 1 v (packN xs).length ((packN xs).map (.int .u8)) ∧ Below w.heap.size w w' := by
  obtain ⟨hl, hcap, _, _, hR⟩ := hA
  obtain ⟨i0, hi, hz0, hz1, hz2⟩ := info_parts infoU8
  have HL := Lib.hid hl
  have HR := Lib.hid hR
  clear hl hR
  go_in
  go_wp2
  go_loopw [3, 4, 5, 6, 7] (fun u i c p k wr => ∃ j : Nat, 8 * j ≤ nb + 7 ∧ i = .int .i64 (8 * j : Nat) ∧ wr.ownsRow w.heap.size 5 1 u j ((packs xs j).map (.int .u8)) ∧ Below w.heap.size w wr) (fun _ i _ _ _ _ => nb + 8 - (intOf i).toNat)
  case atStart => exact ⟨0, by omega, rfl, World.ownsRow_nil _ _ _ _, Below.refl _ _⟩
  case round =>
    obtain ⟨j, hj, rfl, hown, hb⟩ := hrel
    have HPL := Lib.hid (packs_len xs j)
    have HPS := Lib.hid (packs_succ xs j)
    by_cases hlt : 8 * j < nb
    · obtain ⟨L, hL⟩ : ∃ L, (xs.drop (8 * j)).take 8 = L := ⟨_, rfl⟩
      have hLn : L.length = min 8 (nb - 8 * j) := by rw [← hL, List.length_take, List.length_drop, HL.out]
      have HLL := Lib.hid hL
      have HLN := Lib.hid hLn
      clear hL hLn
      go_wp2
      go_loopw [5, 6, 7] (fun c p k wr' => ∃ m : Nat, m ≤ L.length ∧ c = .int .i64 (bsum (L.take m)) ∧ p = .int .i64 (2 ^ m) ∧ k = .int .i64 (8 * j + m : Nat) ∧ wr'.ownsRow w.heap.size 5 1 u3 j ((packs xs j).map (.int .u8)) ∧ Below w.heap.size w wr') (fun _ _ k _ => 8 * j + 8 - (intOf k).toNat)
      case atStart => exact ⟨0, by omega, rfl, rfl, rfl, hown, hb⟩
      case round =>
        clear hown hb
        obtain ⟨m, hm, rfl, rfl, rfl, hown, hb⟩ := hrel
        have hm8 : m ≤ 8 := by have := HLN.out; omega
        have HM8 := Lib.hid hm8
        by_cases hml : m < L.length
        · have h1 : m < 8 := by have := HLN.out; omega
          have h2 : 8 * j + m < nb := by have := HLN.out; omega
          obtain ⟨g, off, x, rfl, hg, hx, hc⟩ := (HR.out.below hb).at_ (i := 8 * j + m) (by rw [HL.out]; exact h2)
          have hLx : L[m]? = some x := by
            rw [← HLL.out, List.getElem?_take, if_pos h1, List.getElem?_drop]; exact hx
          have HX := Lib.hid (bsum_take L m x hLx)
          have hr := bsum_range (L.take m)
          have hr8 : (2 : Int) ^ (L.take m).length ≤ 2 ^ 7 := by
            have := Nat.pow_le_pow_right (by omega : 0 < 2) (show (L.take m).length ≤ 7 by rw [List.length_take]; omega)
            exact_mod_cast this
          have hp0 : (0 : Int) ≤ 2 ^ m := Int.pow_nonneg (by omega)
          have hp8 : (2 : Int) ^ m ≤ 2 ^ 7 := by
            have := Nat.pow_le_pow_right (by omega : 0 < 2) (show m ≤ 7 by omega)
            exact_mod_cast this
          obtain ⟨p, hp⟩ : ∃ p : Int, (2 : Int) ^ m = p := ⟨_, rfl⟩
          obtain ⟨s, hs⟩ : ∃ s : Int, bsum (L.take m) = s := ⟨_, rfl⟩
          have HP := Lib.hid (show (2 : Int) ^ (m + 1) = p * 2 by rw [Int.pow_succ, hp])
          rw [hs] at hr
          rw [hp] at hp0 hp8
          rw [hs, hp] at HX
          have hsb : 0 ≤ s ∧ s < 128 := by omega
          clear hr hr8 hx hLx
          rw [hs, hp]
          clear hs hp
          cases x with
          | true =>
            go_wp2
            have hx := HX.out
            simp only [if_true] at hx
            exact ⟨⟨_, _, _, ⟨m + 1, by omega, rfl, rfl, rfl⟩, by rw [hx], by rw [HP.out], by go_num⟩, by simp [intOf]; omega⟩
          | false =>
            go_wp2
            have hx := HX.out
            simp only [Bool.false_eq_true, if_false, Int.add_zero] at hx
            refine ⟨⟨.int .i64 s, .int .i64 (p * 2), .int .i64 (8 * j + m + 1), _, _, _, _, _, _, _, _, _, _, _, _, _, _, _, _, _, _, _, _, _, ⟨m + 1, by omega, by rw [hx], by rw [HP.out], by go_num, hown, hb⟩, by simp; and_intros <;> first | omega | rfl⟩, ?_⟩
            simp [intOf]
            omega
        · obtain rfl : m = L.length := by omega
          have hend : L.length = 8 ∨ (L.length < 8 ∧ 8 * j + L.length = nb) := by have := HLN.out; omega
          have hsum : bsum (L.take L.length) = byteOf xs j := by rw [List.take_length]; unfold byteOf; rw [HLL.out]
          have hbs := byteOf_small xs j
          rw [hsum]
          have HBS := Lib.hid hbs
          obtain ⟨y, hy⟩ : ∃ y, byteOf xs j = y := ⟨_, rfl⟩
          rw [hy] at hbs ⊢
          have HY := Lib.hid hy
          have hu8 : IntKind.u8.wrap y = y := by rw [IntKind.wrap_u8]; omega
          clear hsum hy
          obtain ⟨q, hq⟩ : ∃ q, 8 * j + L.length = q := ⟨_, rfl⟩
          have HQ := Lib.hid hq
          have hqq : (q : Int) < 8 * j + 8 ∧ ¬ q < nb ∨ ¬ (q : Int) < 8 * j + 8 := by omega
          rw [hq]
          have hsz := hb.size
          have hjj : j ≤ 1000000 := by omega
          clear hq hend hml hm8
          rcases hqq with ⟨h1, h2⟩ | h1
          · go_wp2_with ((with_reducible refine at_append ?_); refine wpList_append_own _ rfl _ _ 28 rfl w.heap.size 5 i0 (.int .u8 0) 1 1 Tryd.underlying28 hi hz0 hz1 hz2 rfl (by decide) _ _ _ rfl (hown.alloc _) ⟨wr.heap.size, 0, none⟩ 1 1 [.int .u8 y] rfl rfl (World.news_of_block (cs := #[.int .u8 y]) (t := 5) (fr := (0, 0)) (heap_alloc_new wr _)) (by simp [Value.oneCell']) (by unfold maxLen; omega) (by omega) (by simp; omega) ?_; intro v' w1 hown' hgrow _; have hb2 : Below w.heap.size w w1 := (hb.alloc hsz _).grown hgrow (by simp; omega) (fun j hj => (hown.lt j hj).1))
            go_roundw
            case rel =>
              refine ⟨j + 1, by omega, by go_num, ?_, hb2⟩
              rw [HPS.out, HY.out]; simpa using hown'
            case measure => simp [intOf]; omega
          · go_wp2_with ((with_reducible refine at_append ?_); refine wpList_append_own _ rfl _ _ 28 rfl w.heap.size 5 i0 (.int .u8 0) 1 1 Tryd.underlying28 hi hz0 hz1 hz2 rfl (by decide) _ _ _ rfl (hown.alloc _) ⟨wr.heap.size, 0, none⟩ 1 1 [.int .u8 y] rfl rfl (World.news_of_block (cs := #[.int .u8 y]) (t := 5) (fr := (0, 0)) (heap_alloc_new wr _)) (by simp [Value.oneCell']) (by unfold maxLen; omega) (by omega) (by simp; omega) ?_; intro v' w1 hown' hgrow _; have hb2 : Below w.heap.size w w1 := (hb.alloc hsz _).grown hgrow (by simp; omega) (fun j hj => (hown.lt j hj).1))
            go_roundw
            case rel =>
              refine ⟨j + 1, by omega, by go_num, ?_, hb2⟩
              rw [HPS.out, HY.out]; simpa using hown'
            case measure => simp [intOf]; omega
    · go_wp2
      go_ret
      have hjn : j = (nb + 7) / 8 := by omega
      refine ⟨_, rfl, ?_, hb⟩
      rw [packN_len, HL.out, ← hjn]
      have : packN xs = packs xs j := by unfold packN packs; rw [HL.out, ← hjn]
      rw [this]
      exact hown
end Go.Proofs.YtflbiichdjhaeaaDoor
