/- The law ShaNames (closed). -/
import Derived.Test.YtjkhkgdijnhdmaaDoorShaCopies
import Derived.Test.YtjkhkgdijnhdmaaDoorShaBack
import Derived.Test.YtjkhkgdijnhdmaaDoorShaSumNil
import Derived.Lib.SlBytesConst
import Derived.BigRegion
namespace Go.Proofs.YtjkhkgdijnhdmaaDoor
open Go.RowKit

theorem ex_nist : textN (Sh.digest (strN ⟨#[97, 98, 99, 100, 98, 99, 100, 101, 99, 100, 101, 102, 100, 101, 102, 103, 101, 102, 103, 104, 102, 103, 104, 105, 103, 104, 105, 106, 104, 105, 106, 107, 105, 106, 107, 108, 106, 107, 108, 109, 107, 108, 109, 110, 108, 109, 110, 111, 109, 110, 111, 112, 110, 111, 112, 113]⟩)) = ⟨#[50, 52, 56, 100, 54, 97, 54, 49, 100, 50, 48, 54, 51, 56, 98, 56, 101, 53, 99, 48, 50, 54, 57, 51, 48, 99, 51, 101, 54, 48, 51, 57, 97, 51, 51, 99, 101, 52, 53, 57, 54, 52, 102, 102, 50, 49, 54, 55, 102, 54, 101, 99, 101, 100, 100, 52, 49, 57, 100, 98, 48, 54, 99, 49]⟩ := by decide +kernel
def z32 : List Nat := List.replicate 32 0
def dAbc : List Nat := Sh.digest [97, 98, 99]
theorem p_yes (W : World) : Calls Tryd.prog 24 #[.string ⟨#[98, 97, 55, 56, 49, 54, 98, 102, 56, 102, 48, 49, 99, 102, 101, 97, 52, 49, 52, 49, 52, 48, 100, 101, 53, 100, 97, 101, 50, 50, 50, 51, 98, 48, 48, 51, 54, 49, 97, 51, 57, 54, 49, 55, 55, 97, 57, 99, 98, 52, 49, 48, 102, 102, 54, 49, 102, 50, 48, 48, 49, 53, 97, 100]⟩] W fun e w' => e = .returned (.tuple #[.agg (arr8 dAbc), .int .i64 0]) ∧ Below W.heap.size W w' := by
  have h1 : allDig ⟨#[98, 97, 55, 56, 49, 54, 98, 102, 56, 102, 48, 49, 99, 102, 101, 97, 52, 49, 52, 49, 52, 48, 100, 101, 53, 100, 97, 101, 50, 50, 50, 51, 98, 48, 48, 51, 54, 49, 97, 51, 57, 54, 49, 55, 55, 97, 57, 99, 98, 52, 49, 48, 102, 102, 54, 49, 102, 50, 48, 48, 49, 53, 97, 100]⟩ 64 := by show ∀ i, i < 64 → 0 ≤ dig (chr ⟨#[98, 97, 55, 56, 49, 54, 98, 102, 56, 102, 48, 49, 99, 102, 101, 97, 52, 49, 52, 49, 52, 48, 100, 101, 53, 100, 97, 101, 50, 50, 50, 51, 98, 48, 48, 51, 54, 49, 97, 51, 57, 54, 49, 55, 55, 97, 57, 99, 98, 52, 49, 48, 102, 102, 54, 49, 102, 50, 48, 48, 49, 53, 97, 100]⟩ i); decide +kernel
  have h2 : cellsU (fillH ⟨#[98, 97, 55, 56, 49, 54, 98, 102, 56, 102, 48, 49, 99, 102, 101, 97, 52, 49, 52, 49, 52, 48, 100, 101, 53, 100, 97, 101, 50, 50, 50, 51, 98, 48, 48, 51, 54, 49, 97, 51, 57, 54, 49, 55, 55, 97, 57, 99, 98, 52, 49, 48, 102, 102, 54, 49, 102, 50, 48, 48, 49, 53, 97, 100]⟩ 32) = arr8 dAbc := by
    have : fillH ⟨#[98, 97, 55, 56, 49, 54, 98, 102, 56, 102, 48, 49, 99, 102, 101, 97, 52, 49, 52, 49, 52, 48, 100, 101, 53, 100, 97, 101, 50, 50, 50, 51, 98, 48, 48, 51, 54, 49, 97, 51, 57, 54, 49, 55, 55, 97, 57, 99, 98, 52, 49, 48, 102, 102, 54, 49, 102, 50, 48, 48, 49, 53, 97, 100]⟩ 32 = nI dAbc := by decide +kernel
    rw [this]; rfl
  refine (parse_any _ W).mono ?_
  rintro e w' ⟨h | h, hb⟩
  · exact ⟨by rw [← h2]; exact h.2.2, hb⟩
  · exact absurd ⟨rfl, h1⟩ h.1
theorem p_no (s : ByteArray) (hs : ¬ (s.size = 64 ∧ allDig s 64)) (W : World) : Calls Tryd.prog 24 #[.string s] W fun e w' => e = .returned (.tuple #[.agg (arr8 z32), .int .i64 40]) ∧ Below W.heap.size W w' := by
  refine (parse_any _ W).mono ?_
  rintro e w' ⟨h | h, hb⟩
  · exact absurd ⟨h.1, h.2.1⟩ hs
  · exact ⟨h.2, hb⟩
theorem no_2 : ¬ ((⟨#[66, 65, 55, 56, 49, 54, 98, 102, 56, 102, 48, 49, 99, 102, 101, 97, 52, 49, 52, 49, 52, 48, 100, 101, 53, 100, 97, 101, 50, 50, 50, 51, 98, 48, 48, 51, 54, 49, 97, 51, 57, 54, 49, 55, 55, 97, 57, 99, 98, 52, 49, 48, 102, 102, 54, 49, 102, 50, 48, 48, 49, 53, 97, 100]⟩ : ByteArray).size = 64 ∧ allDig ⟨#[66, 65, 55, 56, 49, 54, 98, 102, 56, 102, 48, 49, 99, 102, 101, 97, 52, 49, 52, 49, 52, 48, 100, 101, 53, 100, 97, 101, 50, 50, 50, 51, 98, 48, 48, 51, 54, 49, 97, 51, 57, 54, 49, 55, 55, 97, 57, 99, 98, 52, 49, 48, 102, 102, 54, 49, 102, 50, 48, 48, 49, 53, 97, 100]⟩ 64) := fun h => absurd (h.2 0 (by omega)) (by decide +kernel)
theorem no_3 : ¬ ((⟨#[98, 97, 55, 56]⟩ : ByteArray).size = 64 ∧ allDig ⟨#[98, 97, 55, 56]⟩ 64) := fun h => absurd h.1 (by decide +kernel)
theorem no_4 : ¬ ((⟨#[103, 97, 55, 56, 49, 54, 98, 102, 56, 102, 48, 49, 99, 102, 101, 97, 52, 49, 52, 49, 52, 48, 100, 101, 53, 100, 97, 101, 50, 50, 50, 51, 98, 48, 48, 51, 54, 49, 97, 51, 57, 54, 49, 55, 55, 97, 57, 99, 98, 52, 49, 48, 102, 102, 54, 49, 102, 50, 48, 48, 49, 53, 97, 100]⟩ : ByteArray).size = 64 ∧ allDig ⟨#[103, 97, 55, 56, 49, 54, 98, 102, 56, 102, 48, 49, 99, 102, 101, 97, 52, 49, 52, 49, 52, 48, 100, 101, 53, 100, 97, 101, 50, 50, 50, 51, 98, 48, 48, 51, 54, 49, 97, 51, 57, 54, 49, 55, 55, 97, 57, 99, 98, 52, 49, 48, 102, 102, 54, 49, 102, 50, 48, 48, 49, 53, 97, 100]⟩ 64) := fun h => absurd (h.2 0 (by omega)) (by decide +kernel)
set_option maxHeartbeats 1000000 in
theorem write_nil (A : Option Addr) (n c : Nat) (w : World) : Calls Tryd.prog 14 #[.pointer none, .slice A n c] w fun e w' => (∃ u, e = .returned u) ∧ Below w.heap.size w w' := by
  go_in
  go_wp2
  refine bodyPost_ret (results_none rfl _ _ _) rfl ?_
  exact ⟨⟨_, rfl⟩, (Below.refl _ w).alloc (Nat.le_refl _) _⟩
theorem len_nil (w : World) : Calls Tryd.prog 18 #[.pointer none] w fun e w' => e = .returned (.int .u64 0) ∧ w = w' := by
  go_in
  go_wp2
  go_ret
  exact ⟨rfl, rfl⟩
theorem copy_nil (w : World) : Calls Tryd.prog 17 #[.pointer none] w fun e w' => e = .returned (.pointer none) ∧ w = w' := by
  go_in
  go_wp2
  go_ret
  exact ⟨rfl, rfl⟩
/-- The row of a constant. -/
theorem SlI.const (w : World) (e : TypeId) (l : List Nat) (n m : Nat) (h : l.length = n) (hm : n ≤ 1000000) : SlI (w.alloc (.cells (arr8 l) e (n, m))) (w.alloc (.cells (arr8 l) e (n, m))).heap.size .u8 (some ⟨w.heap.size, 0, none⟩) n n (nI l) := by
  refine ⟨by rw [nI_len]; exact h, Nat.le_refl _, by unfold maxLen; omega, (fun e => by cases e), fun _ => ⟨_, 0, rfl, by simp, fun i x hx => ?_⟩⟩
  rw [Nat.zero_add, World.cell?_alloc_mark]
  obtain ⟨y, rfl, hy⟩ := nI_some hx
  exact arr8_at _ _ _ hy
set_option maxRecDepth 100000 in
set_option maxHeartbeats 4000000 in
theorem law_names (w : World) (hT : Tab w 0 .u32 firstI) (hT2 : Tab w 1 .u32 kI) :
    Calls Tryd.prog 8 #[] w fun e w' => e = .returned (.bool true) ∧ Below w.heap.size w w' := by
  have HT := Lib.hid (fun (W : World) (h : Below w.heap.size w W) => And.intro (hT.up h) (hT2.up h))
  clear hT hT2
  obtain ⟨D, hD⟩ : ∃ D, dAbc = D := ⟨_, rfl⟩
  have hDl : D.length = 32 := by rw [← hD]; exact Sh.digest_len _
  have HP1 := Lib.hid p_yes
  rw [hD] at HP1
  have hsD := hash_size D hDl
  have hs0 := hash_size z32 rfl
  have HDL := Lib.hid hDl
  have HP2 := Lib.hid (p_no _ no_2)
  have HP3 := Lib.hid (p_no _ no_3)
  have HP4 := Lib.hid (p_no _ no_4)
  have HDD := Lib.hid hD
  clear hD hDl
  go_in
  go_wp2_with fail
  refine (HP1.out w).mono ?_
  rintro e w1 ⟨rfl, hb1⟩
  go_wp2_with (first
    | (refine wpList_store_row rfl 35 (.tmp 1) (.tmp 13) rfl w1.heap.size (arr8 D) rfl rfl 35 (arr8 z32) (heap_alloc_new w1 _) hsD (by rw [arr8_size, arr8_size, HDL.out]; rfl) (arr8_one _) ?_
       rw [World.setRow_alloc_new])
    | fail)
  have hA2 : Held (w1.alloc (.cells (arr8 D) 35)) w1.heap.size 35 (arr8 D) := Held.new _ _ _
  have hb2 : Below w.heap.size w (w1.alloc (.cells (arr8 D) 35)) := hb1.alloc hb1.size _
  generalize w1.alloc (.cells (arr8 D) 35) = w2 at hA2 hb2 ⊢
  generalize w1.heap.size = gA at hA2 ⊢
  clear hb1
  refine (HP2.out w2).mono ?_
  rintro e w3 ⟨rfl, hb3⟩
  have hA3 := hA2.below hb3 hA2.lt
  have hb3' := hb2.trans (hb3.mono hb2.size)
  clear hA2 hb2 hb3
  go_wp2_with (first
    | (refine wpList_store_row rfl 35 (.tmp 3) (.tmp 17) rfl w3.heap.size (arr8 z32) rfl rfl 35 (arr8 z32) (heap_alloc_new w3 _) hs0 rfl (arr8_one _) ?_
       rw [World.setRow_alloc_new])
    | fail)
  have hA4 := hA3.alloc (.cells (arr8 z32) 35)
  have hb4 : Below w.heap.size w (w3.alloc (.cells (arr8 z32) 35)) := hb3'.alloc hb3'.size _
  generalize w3.alloc (.cells (arr8 z32) 35) = w4 at hA4 hb4 ⊢
  clear hA3 hb3'
  refine (HP3.out w4).mono ?_
  rintro e w5 ⟨rfl, hb5⟩
  have hA5 := hA4.below hb5 hA4.lt
  have hb5' := hb4.trans (hb5.mono hb4.size)
  clear hA4 hb4 hb5
  go_wp2_with (first
    | (refine wpList_store_row rfl 35 (.tmp 5) (.tmp 21) rfl w5.heap.size (arr8 z32) rfl rfl 35 (arr8 z32) (heap_alloc_new w5 _) hs0 rfl (arr8_one _) ?_
       rw [World.setRow_alloc_new])
    | fail)
  have hA6 := hA5.alloc (.cells (arr8 z32) 35)
  have hb6 : Below w.heap.size w (w5.alloc (.cells (arr8 z32) 35)) := hb5'.alloc hb5'.size _
  generalize w5.alloc (.cells (arr8 z32) 35) = w6 at hA6 hb6 ⊢
  clear hA5 hb5'
  refine (HP4.out w6).mono ?_
  rintro e w7 ⟨rfl, hb7⟩
  have hA7 := hA6.below hb7 hA6.lt
  have hb7' := hb6.trans (hb7.mono hb6.size)
  clear hA6 hb6 hb7
  go_wp2_with (first
    | (refine wpList_store_row rfl 35 (.tmp 7) (.tmp 25) rfl w7.heap.size (arr8 z32) rfl rfl 35 (arr8 z32) (heap_alloc_new w7 _) hs0 rfl (arr8_one _) ?_
       rw [World.setRow_alloc_new]
       have hA8 := hA7.alloc (.cells (arr8 z32) 35)
       have hb8 : Below w.heap.size w (w7.alloc (.cells (arr8 z32) 35)) := hb7'.alloc hb7'.size _
       generalize w7.alloc (.cells (arr8 z32) 35) = w8 at hA8 hb8 ⊢)
    | fail)
  rw [Lib.run_convert_bytes_const w8 _ _ _ 3 3 Tryd.underlying27 Tryd.underlying5]
  simp only [Result.andThen]
  rw [Oper.upon_value]
  have hA9 := hA8.alloc (.cells #[.int .u8 97, .int .u8 98, .int .u8 99] 5 (3, 4))
  have hb9 : Below w.heap.size w (w8.alloc (.cells #[.int .u8 97, .int .u8 98, .int .u8 99] 5 (3, 4))) := hb8.alloc hb8.size _
  go_wp2_with fail
  refine (write_nil _ _ _ _).mono ?_
  rintro e w10 ⟨⟨u10, rfl⟩, hb10⟩
  have hA10 : Held w10 gA 35 (arr8 D) := hA9.below hb10 hA9.lt
  have hb10' : Below w.heap.size w w10 := hb9.trans (hb10.mono hb9.size)
  clear hA9 hb9 hb10 hA8 hb8 hA7 hb7' HP1 HP2 HP3 HP4
  have hcv : (convert 27 27 (.slice (some ⟨w10.heap.size, 0, none⟩) 3 3)).run Tryd.prog (w10.alloc (.cells #[.int .u8 97, .int .u8 98, .int .u8 99] 5)).drew = .ok (.slice (some ⟨w10.heap.size, 0, none⟩) 3 3) (w10.alloc (.cells #[.int .u8 97, .int .u8 98, .int .u8 99] 5 (3, 4))).drew :=
    Lib.run_convert_bytes_const w10.drew _ _ _ 3 3 Tryd.underlying27 Tryd.underlying5
  have hb11 : Below w.heap.size w (w10.alloc (.cells #[.int .u8 97, .int .u8 98, .int .u8 99] 5 (3, 4))).drew := (hb10'.alloc hb10'.size _).drew
  have sl11 : SlI (w10.alloc (.cells #[.int .u8 97, .int .u8 98, .int .u8 99] 5 (3, 4))).drew (w10.alloc (.cells #[.int .u8 97, .int .u8 98, .int .u8 99] 5 (3, 4))).drew.heap.size .u8 (some ⟨w10.heap.size, 0, none⟩) ([97, 98, 99] : List Nat).length 3 (nI [97, 98, 99]) := SlI.const w10 5 [97, 98, 99] 3 4 rfl (by omega)
  have k2 := of_own (some ⟨w10.heap.size, 0, none⟩) 3 [97, 98, 99] (w10.alloc (.cells #[.int .u8 97, .int .u8 98, .int .u8 99] 5 (3, 4))).drew (HT.out _ hb11).1 (HT.out _ hb11).2 sl11 (by decide) (by simp)
  rw [show Sh.digest [97, 98, 99] = D from HDD.out, show ([97, 98, 99] : List Nat).length = 3 from rfl] at k2
  have K2 := Lib.hid k2
  have E1 : ∀ W, (binOp .eql 35 (.agg (arr8 D)) (.agg (arr8 D))).run Tryd.prog W = .ok (.bool true) W := by
    intro W; rw [← HDD.out]; exact eql_digest _ W
  have hA11 : Held (w10.alloc (.cells #[.int .u8 97, .int .u8 98, .int .u8 99] 5)).drew gA 35 (arr8 D) := hA10.alloc _
  have hA12 : Held (w10.alloc (.cells #[.int .u8 97, .int .u8 98, .int .u8 99] 5 (3, 4))).drew gA 35 (arr8 D) := hA10.alloc _
  have hA10d : Held w10.drew gA 35 (arr8 D) := hA10
  have hu := Tryd.underlying35
  clear k2 sl11
  have C1 := Lib.hid (fun (W : World) (h : Below w.heap.size w W) => alive_own W (HT.out W h).1 (HT.out W h).2)
  have C2 := Lib.hid (fun (W : World) (h : Below w.heap.size w W) => hashed_own _ _ W (by decide) ex_nist (HT.out W h).1 (HT.out W h).2)
  have C3 := Lib.hid (fun (W : World) (h : Below w.heap.size w W) => sum_nil W (HT.out W h).1 (HT.out W h).2)
  have C4 := Lib.hid (fun (W : World) (h : Below w.heap.size w W) => by
    have k := of_own none 0 [] W (HT.out W h).1 (HT.out W h).2 (SlI.nil W _ _) (by simp) (by simp)
    rw [List.length_nil] at k
    exact k)
  have E0 := eql_digest []
  generalize Sh.digest [] = D0 at C3 C4 E0
  go_wp2
  refine wp_region_orders (by kernel_rfl) [[0, 1, 2, 3, 4, 5, 6, 7, 8, 9, 10, 11, 12, 13, 14, 15, 16, 17, 18, 19, 20, 21], [0, 1, 2, 4, 3, 5, 6, 7, 8, 9, 10, 11, 12, 13, 14, 15, 16, 17, 18, 19, 20, 21], [0, 1, 2, 4, 5, 3, 6, 7, 8, 9, 10, 11, 12, 13, 14, 15, 16, 17, 18, 19, 20, 21], [0, 1, 2, 4, 5, 6, 3, 7, 8, 9, 10, 11, 12, 13, 14, 15, 16, 17, 18, 19, 20, 21]] (by kernel_rfl) ?_
  intro o ho
  simp only [List.mem_cons, List.not_mem_nil, or_false] at ho
  rcases ho with rfl | rfl | rfl | rfl
  all_goals
    simp only [opsAt_cons, opsAt_nil, List.getElem?_toArray, List.getElem?_cons_succ, List.getElem?_cons_zero, Option.toList_some, List.cons_append, List.nil_append]
    go_wp2_with (first
      | (refine load_want (by rfl) 35 (.tmp 1) rfl gA rfl _ (by first | exact hA10d | exact hA11 | exact hA12 | exact hA13) hu rfl hsD ?_)
      | (go_at_call 19; (with_reducible refine K2.out.mono ?_); rintro e w13 ⟨rfl, hb13⟩; have hA13 := hA12.below hb13 hA12.lt)
      | fail)
    have b13 := hb11.trans (hb13.mono hb11.size)
    refine (C1.out w13 b13).mono ?_
    rintro e w14 ⟨rfl, hb14⟩
    have b14 := b13.trans (hb14.mono b13.size)
    go_wp2_with fail
    refine (C2.out w14 b14).mono ?_
    rintro e w15 ⟨rfl, hb15⟩
    have b15 := b14.trans (hb15.mono b14.size)
    go_wp2_with fail
    refine (C3.out w15 b15).mono ?_
    rintro e w16 ⟨rfl, hb16⟩
    have b16 := b15.trans (hb16.mono b15.size)
    go_wp2_with fail
    refine (C4.out w16 b16).mono ?_
    rintro e w17 ⟨rfl, hb17⟩
    have b17 := b16.trans (hb17.mono b16.size)
    go_wp2_with fail
    refine (len_nil w17).mono ?_
    rintro e w18 ⟨rfl, rfl⟩
    go_wp2_with fail
    refine (copy_nil w17).mono ?_
    rintro e w18 ⟨rfl, rfl⟩
    go_wp2
    go_ret
    exact ⟨retb (by simp), b17⟩
end Go.Proofs.YtjkhkgdijnhdmaaDoor
