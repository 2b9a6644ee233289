/- Calls on no Mac; the law MacNames. -/
import Derived.Test.YtjkhkgdijnhdmaaDoorMacPieces
import Derived.Test.YtjkhkgdijnhdmaaDoorShaCopies
namespace Go.Proofs.YtjkhkgdijnhdmaaDoor
open Go.RowKit

/-- A hash of noughts, written out. -/
def zH : Value := .agg #[.int .u8 0, .int .u8 0, .int .u8 0, .int .u8 0, .int .u8 0, .int .u8 0, .int .u8 0, .int .u8 0, .int .u8 0, .int .u8 0, .int .u8 0, .int .u8 0, .int .u8 0, .int .u8 0, .int .u8 0, .int .u8 0, .int .u8 0, .int .u8 0, .int .u8 0, .int .u8 0, .int .u8 0, .int .u8 0, .int .u8 0, .int .u8 0, .int .u8 0, .int .u8 0, .int .u8 0, .int .u8 0, .int .u8 0, .int .u8 0, .int .u8 0, .int .u8 0]
theorem eql_zero (w : World) : (binOp .eql 35 (.agg (arr8 zz32)) (.agg #[.int .u8 0, .int .u8 0, .int .u8 0, .int .u8 0, .int .u8 0, .int .u8 0, .int .u8 0, .int .u8 0, .int .u8 0, .int .u8 0, .int .u8 0, .int .u8 0, .int .u8 0, .int .u8 0, .int .u8 0, .int .u8 0, .int .u8 0, .int .u8 0, .int .u8 0, .int .u8 0, .int .u8 0, .int .u8 0, .int .u8 0, .int .u8 0, .int .u8 0, .int .u8 0, .int .u8 0, .int .u8 0, .int .u8 0, .int .u8 0, .int .u8 0, .int .u8 0])).run Tryd.prog w = .ok (.bool true) w := by
  have h := eql_two zz32 zz32 rfl rfl (by decide) (by decide) w
  rw [show decide (zz32 = zz32) = true by simp] at h
  exact h
theorem mwrite_none (a : Option Addr) (A : Option Addr) (n c : Nat) (w : World) (h : Calls Tryd.prog 52 #[.pointer a] w fun e w' => e = .returned (.bool true) ∧ w = w') :
    Calls Tryd.prog 29 #[.pointer a, .slice A n c] w fun e w' => (∃ u, e = .returned u) ∧ w = w' := by
  have H := Lib.hid h
  clear h
  go_in
  go_wp2_with fail
  refine H.out.mono ?_
  rintro e w1 ⟨rfl, rfl⟩
  go_wp2
  go_end0
  exact ⟨⟨_, rfl⟩, rfl⟩
set_option maxRecDepth 100000 in
theorem msum_none (a : Option Addr) (w : World) (h : ∀ W, Below w.heap.size w W → Calls Tryd.prog 52 #[.pointer a] W fun e w' => e = .returned (.bool true) ∧ W = w') :
    Calls Tryd.prog 32 #[.pointer a] w fun e w' => e = .returned (.agg (arr8 zz32)) ∧ Below w.heap.size w w' := by
  have H := Lib.hid h
  obtain ⟨w1, hw1⟩ : ∃ w1, w.alloc (.cells (arr8 zz32) 35) = w1 := ⟨_, rfl⟩
  have hb1 : Below w.heap.size w w1 := by rw [← hw1]; exact (Below.refl _ w).alloc (Nat.le_refl _) _
  have hO1 : Held w1 w.heap.size 35 (arr8 zz32) := by rw [← hw1]; exact Held.new _ _ _
  have hs := hash_size zz32 rfl
  clear h
  go_in
  go_wp2_with fail
  change Calls _ _ _ (w.alloc (.cells (arr8 zz32) 35)) _
  rw [hw1]
  refine (H.out w1 hb1).mono ?_
  rintro e w9 ⟨rfl, rfl⟩
  go_wp2_with (refine wpList_store_row rfl 35 (.tmp 2) (.tmp 6) rfl w.heap.size (arr8 zz32) rfl rfl 35 (arr8 zz32) hO1 hs rfl (arr8_one _) ?_)
  refine bodyPost_ret (v := .agg (arr8 zz32)) (results_cell_row Tryd.results32 _ _ w.heap.size 35 (arr8 zz32) (0, 0) _ rfl (setRow_heap _ _ _ _ _ _ hO1) Tryd.underlying35 rfl hs) rfl ⟨rfl, below_setRow hb1 _ _ (Nat.le_refl _)⟩
set_option maxRecDepth 100000 in
theorem mis_none (w : World) :
    Calls Tryd.prog 33 #[.pointer none, .agg #[.int .u8 0, .int .u8 0, .int .u8 0, .int .u8 0, .int .u8 0, .int .u8 0, .int .u8 0, .int .u8 0, .int .u8 0, .int .u8 0, .int .u8 0, .int .u8 0, .int .u8 0, .int .u8 0, .int .u8 0, .int .u8 0, .int .u8 0, .int .u8 0, .int .u8 0, .int .u8 0, .int .u8 0, .int .u8 0, .int .u8 0, .int .u8 0, .int .u8 0, .int .u8 0, .int .u8 0, .int .u8 0, .int .u8 0, .int .u8 0, .int .u8 0, .int .u8 0]] w fun e w' => e = .returned (.bool false) ∧ Below w.heap.size w w' := by
  obtain ⟨w1, hw1⟩ : ∃ w1, w.alloc (.cells #[.int .u8 0, .int .u8 0, .int .u8 0, .int .u8 0, .int .u8 0, .int .u8 0, .int .u8 0, .int .u8 0, .int .u8 0, .int .u8 0, .int .u8 0, .int .u8 0, .int .u8 0, .int .u8 0, .int .u8 0, .int .u8 0, .int .u8 0, .int .u8 0, .int .u8 0, .int .u8 0, .int .u8 0, .int .u8 0, .int .u8 0, .int .u8 0, .int .u8 0, .int .u8 0, .int .u8 0, .int .u8 0, .int .u8 0, .int .u8 0, .int .u8 0, .int .u8 0] 35) = w1 := ⟨_, rfl⟩
  have hb1 : Below w.heap.size w w1 := by rw [← hw1]; exact (Below.refl _ w).alloc (Nat.le_refl _) _
  have HN : ∀ W, Calls Tryd.prog 52 #[.pointer none] W fun e w' => e = .returned (.bool true) ∧ w' = W := fun W => (none_nil W).mono fun e w' h => ⟨h.1, h.2.symm⟩
  have H := Lib.hid HN
  clear HN
  go_in
  go_wp2_with fail
  go_quiet (first | exact Calls.quiet_of_same (H.out _) | fail)
  go_wp2_with fail
  go_ret
  exact ⟨rfl, below_drewN hb1 _⟩
theorem mcopy_none (w : World) :
    Calls Tryd.prog 36 #[.pointer none] w fun e w' => e = .returned (.pointer none) ∧ w = w' := by
  have H := Lib.hid (none_nil w)
  go_in
  go_wp2_with fail
  refine H.out.mono ?_
  rintro e w1 ⟨rfl, rfl⟩
  go_wp2
  go_ret
  exact ⟨rfl, rfl⟩
def hiT : List Nat := [72, 105, 32, 84, 104, 101, 114, 101]
theorem ex_hi : textN (mtag (mkey (List.replicate 20 11)) hiT) = ⟨#[98, 48, 51, 52, 52, 99, 54, 49, 100, 56, 100, 98, 51, 56, 53, 51, 53, 99, 97, 56, 97, 102, 99, 101, 97, 102, 48, 98, 102, 49, 50, 98, 56, 56, 49, 100, 99, 50, 48, 48, 99, 57, 56, 51, 51, 100, 97, 55, 50, 54, 101, 57, 51, 55, 54, 99, 50, 101, 51, 50, 99, 102, 102, 55]⟩ := by decide +kernel
def z20 : List Nat := List.replicate 20 0
def fillE (k : Nat) : List Nat := List.replicate k 11 ++ List.replicate (20 - k) 0
theorem fillE_get (k : Nat) (h : k < 20) : (fillE k)[k]? = some 0 := by
  unfold fillE
  rw [List.getElem?_append_right (by simp), List.length_replicate, Nat.sub_self, List.getElem?_replicate, if_pos (by omega)]
theorem fillE_set (k : Nat) (h : k < 20) : (fillE k).set k 11 = fillE (k + 1) := by
  unfold fillE
  obtain ⟨m, hm⟩ : ∃ m, 20 - k = m + 1 := ⟨20 - (k + 1), by omega⟩
  have hm2 : 20 - (k + 1) = m := by omega
  rw [hm, hm2, List.replicate_succ, List.set_append_right _ _ (by simp), List.length_replicate, Nat.sub_self, List.replicate_succ']
  simp
theorem make20 (w : World) : (Instr.makeSlice 27 (.int .i64 20) (.int .i64 20)).run Tryd.prog w = .ok (.slice (some ⟨w.heap.size, 0, none⟩) 20 20) (w.alloc (.cells (arr8 z20) 5)) := by
  kernel_rfl
set_option maxRecDepth 100000 in
set_option maxHeartbeats 8000000 in
theorem law_mnames (w : World) (hT : Tab w 0 .u32 firstI) (hT2 : Tab w 1 .u32 kI) :
    Calls Tryd.prog 12 #[] w fun e w' => e = .returned (.bool true) ∧ Below w.heap.size w w' := by
  have HTB := Lib.hid (fun (W : World) (h : Below w.heap.size w W) => And.intro (hT.up h) (hT2.up h))
  have HAL := Lib.hid (fun (W : World) (h : Below w.heap.size w W) => alive5_own W (hT.up h) (hT2.up h))
  have hmk := make20
  obtain ⟨w1, hw1⟩ : ∃ w1, w.alloc (.cells (arr8 z20) 5) = w1 := ⟨_, rfl⟩
  have hb1 : Below w.heap.size w w1 := by rw [← hw1]; exact (Below.refl _ w).alloc (Nat.le_refl _) _
  have hX1 : Held w1 w.heap.size 5 (arr8 (fillE 0)) := by rw [← hw1]; exact Held.new _ _ _
  clear hT hT2
  go_in
  go_wp2_with fail
  go_loopw [2] (fun u2 wx => ∃ k : Nat, k ≤ 20 ∧ u2 = .int .i64 k ∧ Held wx w.heap.size 5 (arr8 (fillE k)) ∧ Below w.heap.size w wx) (fun i _ => 20 - (intOf i).toNat)
  case atStart => exact ⟨0, by omega, rfl, by first | exact hX1 | (rw [hw1]; exact hX1), by first | exact hb1 | (rw [hw1]; exact hb1)⟩
  case round =>
    clear hX1 hb1
    obtain ⟨k, hk, rfl, hX, hbx⟩ := hrel
    by_cases hlt : k < 20
    · have hck : wr.cell? ⟨w.heap.size, k, none⟩ = some (.int .u8 ((0 : Nat) : Int)) := (hX.cell k).trans (arr8_at _ _ _ (fillE_get k hlt))
      have hfk := hX.frozen k
      have hX2 := hX.set k (.int .u8 ((11 : Nat) : Int))
      rw [arr8_set, fillE_set k hlt] at hX2
      have hb2 := hbx.setCell (p := ⟨w.heap.size, k, none⟩) (by show w.heap.size ≤ w.heap.size; omega) (.int .u8 ((11 : Nat) : Int))
      clear hX hbx
      go_wp2
      exact ⟨⟨k + 1, by omega, by go_num, hX2, hb2⟩, by simp [intOf]; omega⟩
    · obtain rfl : k = 20 := by omega
      have hXE : Held wr w.heap.size 5 (arr8 (List.replicate 20 11)) := hX
      have HX := Lib.hid ex_hi
      obtain ⟨KY, hKY⟩ : ∃ KY, List.replicate 20 11 = KY := ⟨_, rfl⟩
      rw [hKY] at hXE HX
      have hKl : KY.length = 20 := by rw [← hKY]; rfl
      have hKi : ∀ x ∈ KY, x < 256 := by rw [← hKY]; decide
      obtain ⟨D, hD⟩ : ∃ D, mtag (mkey KY) hiT = D := ⟨_, rfl⟩
      have hDl : D.length = 32 := by rw [← hD]; exact mtag_len _ _
      have hDi : ∀ x ∈ D, x < 256 := by rw [← hD]; exact mtag_in _ _
      rw [hD] at HX
      have HD := Lib.hid hD
      have HTX := Lib.hid (fun (W : World) => text_any (nI D) (by rw [nI_len]; exact hDl) (nI_in hDi) W)
      have hsD := hash_size D hDl
      have hs0 : (arr8 zz32).size = (arr8 D).size := by rw [arr8_size, arr8_size, hDl]; rfl
      have HDI := Lib.hid hDi
      clear hX hKY hD hDi
      go_wp2_with fail
      rw [Lib.run_convert_bytes_const wr _ _ _ 8 8 Tryd.underlying27 Tryd.underlying5]
      simp only [Result.andThen]
      rw [Oper.upon_value]
      have hb2 : Below wr.heap.size wr (wr.alloc (.cells #[.int .u8 72, .int .u8 105, .int .u8 32, .int .u8 84, .int .u8 104, .int .u8 101, .int .u8 114, .int .u8 101] 5 (8, 9))) := (Below.refl _ wr).alloc (Nat.le_refl _) _
      have s2 : SlI (wr.alloc (.cells #[.int .u8 72, .int .u8 105, .int .u8 32, .int .u8 84, .int .u8 104, .int .u8 101, .int .u8 114, .int .u8 101] 5 (8, 9))) (wr.alloc (.cells #[.int .u8 72, .int .u8 105, .int .u8 32, .int .u8 84, .int .u8 104, .int .u8 101, .int .u8 114, .int .u8 101] 5 (8, 9))).heap.size .u8 (some ⟨wr.heap.size, 0, none⟩) 8 8 (nI hiT) := SlI.constM wr 5 hiT 8 9 rfl (by omega)
      generalize wr.alloc (.cells #[.int .u8 72, .int .u8 105, .int .u8 32, .int .u8 84, .int .u8 104, .int .u8 101, .int .u8 114, .int .u8 101] 5 (8, 9)) = w2 at hb2 s2 ⊢
      have hzx := hbx.size
      have hb2w := hbx.trans (hb2.mono hzx)
      have hX2 := hXE.below hb2 hXE.lt
      have hzz2 := hb2.size
      have s1 := SlI.held hX2 hKl (by omega)
      have ko := macof_own (some ⟨w.heap.size, 0, none⟩) 20 KY (some ⟨wr.heap.size, 0, none⟩) 8 hiT w2 (HTB.out w2 hb2w).1 (HTB.out w2 hb2w).2 s1 hKi (by omega) s2 (by decide) (by decide)
      rw [HD.out, hKl, show hiT.length = 8 from rfl] at ko
      have HO := Lib.hid ko
      clear ko s1 s2 hX2 hXE hKi
      go_wp2_with fail
      refine HO.out.mono ?_
      rintro e w3 ⟨rfl, hb3⟩
      have hzz3 := hb3.size
      obtain ⟨w4, hw4⟩ : ∃ w4, w3.alloc (.cells (arr8 D) 35) = w4 := ⟨_, rfl⟩
      have hb4 : Below w.heap.size w w4 := by rw [← hw4]; exact (hb2w.trans (hb3.mono (by omega))).alloc (by omega) _
      have hO4 : Held w4 w3.heap.size 35 (arr8 D) := by rw [← hw4]; exact Held.new _ _ _
      have hzz4 : w4.heap.size = w3.heap.size + 1 := by rw [← hw4]; simp
      go_wp2_with (first
        | (refine wpList_store_row rfl 35 (.tmp 3) (.tmp 17) rfl w3.heap.size (arr8 D) rfl rfl 35 (arr8 zz32) (heap_alloc_new w3 _) hsD hs0 (arr8_one _) ?_
           rw [World.setRow_alloc_new, hw4])
        | fail)
      obtain ⟨w5, hw5⟩ : ∃ w5, w4.alloc (.cells Tryd.zeroCells63 63) = w5 := ⟨_, rfl⟩
      have hb5 : Below w.heap.size w w5 := by rw [← hw5]; exact hb4.alloc hb4.size _
      have hO5 : Held w5 w3.heap.size 35 (arr8 D) := by rw [← hw5]; exact hO4.alloc _
      have hZ5 : Held w5 w4.heap.size 63 Tryd.zeroCells63 := by rw [← hw5]; exact Held.new _ _ _
      rw [hzz4] at hZ5
      have hzz5 : w5.heap.size = w4.heap.size + 1 := by rw [← hw5]; simp
      rw [hw5]
      have hz5 : ∀ W, Below w5.heap.size w5 W → W.cell? ⟨w3.heap.size + 1, 64, none⟩ = some (.pointer none) := fun W h => ((hZ5.below h hZ5.lt).cell 64).trans (by kernel_rfl)
      have H5 := Lib.hid hb5
      have KW1 := Lib.hid (mwrite_none none (some ⟨w.heap.size, 0, none⟩) 20 20 w5 (none_nil w5))
      have KW2 := Lib.hid (mwrite_none (some ⟨w3.heap.size + 1, 0, none⟩) (some ⟨w.heap.size, 0, none⟩) 20 20 w5 (none_zero w5 _ (hz5 w5 (Below.refl _ _))))
      have KAL : Hid (∀ W, Below w5.heap.size w5 W → Calls Tryd.prog 35 #[] W fun e W' => e = .returned (.bool true) ∧ Below W.heap.size W W') := Lib.hid (fun W h => HAL.out W (hb5.trans (h.mono hb5.size)))
      have KS1 : Hid (∀ W, Calls Tryd.prog 32 #[.pointer none] W fun e W' => e = .returned (.agg (arr8 zz32)) ∧ Below W.heap.size W W') := Lib.hid (fun W => msum_none none W (fun Z _ => none_nil Z))
      have KS2 : Hid (∀ W, Below w5.heap.size w5 W → Calls Tryd.prog 32 #[.pointer (some ⟨w3.heap.size + 1, 0, none⟩)] W fun e W' => e = .returned (.agg (arr8 zz32)) ∧ Below W.heap.size W W') := Lib.hid (fun W h => msum_none _ W (fun Z hZ => none_zero Z _ (hz5 Z (h.trans (hZ.mono h.size)))))
      have KSH : Hid (∀ (n : Int) (m : Nat), m ≤ 32 → max 0 (min n 32) = (m : Int) → ∀ W, Calls Tryd.prog 30 #[.agg (arr8 D), .int .i64 n] W fun e W' => (∃ A c, e = .returned (.slice A m c)) ∧ Below W.heap.size W W') := Lib.hid (fun n m h1 h2 W => (short_own n D W hDl m h1 h2).mono fun e W' ⟨v, he, ho, hb⟩ => by
        obtain ⟨A, c, rfl, _⟩ := SlI.of_own ho
        exact ⟨⟨A, c, he⟩, hb⟩)
      have hez := eql_zero
      have hu := Tryd.underlying35
      have hinf := hash_info D hDl
      have HL : Hid (∀ W, Below w5.heap.size w5 W → W.rangeAt w3.heap.size 0 ((nI D).map (Value.int .u8))) := Lib.hid (fun W h => held_range (hO5.below h hO5.lt))
      have e1 : (⟨(bytesOf (hexL (nI D))).toArray⟩ : ByteArray) = ⟨#[98, 48, 51, 52, 52, 99, 54, 49, 100, 56, 100, 98, 51, 56, 53, 51, 53, 99, 97, 56, 97, 102, 99, 101, 97, 102, 48, 98, 102, 49, 50, 98, 56, 56, 49, 100, 99, 50, 48, 48, 99, 57, 56, 51, 51, 100, 97, 55, 50, 54, 101, 57, 51, 55, 54, 99, 50, 101, 51, 50, 99, 102, 102, 55]⟩ := HX.out
      have HE1 := Lib.hid e1
      clear e1 hw5 hb5 hb4 hO4 hO5 hZ5 hz5 hb3 hb2 hb2w hbx HO HX HAL HTB hw4
      refine KW1.out.mono ?_
      rintro e w6 ⟨⟨u6, rfl⟩, rfl⟩
      go_wp2_with fail
      refine KW2.out.mono ?_
      rintro e w6 ⟨⟨u7, rfl⟩, rfl⟩
      go_wp2_with fail
      refine (KAL.out w5 (Below.refl _ _)).mono ?_
      rintro e w6 ⟨rfl, hb6⟩
      have hS := hb6
      have HR6 := HL.out w6 hS
      go_wp2_with (first | (refine wpList_load_want (by rfl) 35 (.tmp 3) rfl w3.heap.size 0 rfl ((nI D).map (Value.int .u8)) _ HR6 hu rfl hinf ?_) | fail)
      refine (HTX.out _).mono ?_
      rintro e w7 ⟨rfl, hb7⟩
      have hS := hS.trans (hb7.mono hS.size)
      rw [HE1.out]
      go_wp2_with fail
      refine (KS1.out _).mono ?_
      rintro e w8 ⟨rfl, hb8⟩
      have hS := hS.trans (hb8.mono hS.size)
      go_wp2_with (rw [hez])
      refine (KS2.out w8 hS).mono ?_
      rintro e w9 ⟨rfl, hb9⟩
      have hS := hS.trans (hb9.mono hS.size)
      go_wp2_with (rw [hez])
      refine (mis_none _).mono ?_
      rintro e w10 ⟨rfl, hb10⟩
      have hS := hS.trans (hb10.mono hS.size)
      go_wp2_with fail
      refine (mcopy_none _).mono ?_
      rintro e w11 ⟨rfl, rfl⟩
      have HR11 := HL.out _ hS
      go_wp2_with (first | (refine wpList_load_want (by rfl) 35 (.tmp 3) rfl w3.heap.size 0 rfl ((nI D).map (Value.int .u8)) _ HR11 hu rfl hinf ?_) | fail)
      refine (KSH.out (-1) 0 (by omega) (by decide) _).mono ?_
      rintro e w12 ⟨⟨A12, c12, rfl⟩, hb12⟩
      have hS := hS.trans (hb12.mono hS.size)
      have HR12 := HL.out _ hS
      go_wp2_with (first | (refine wpList_load_want (by rfl) 35 (.tmp 3) rfl w3.heap.size 0 rfl ((nI D).map (Value.int .u8)) _ HR12 hu rfl hinf ?_) | fail)
      refine (KSH.out 99 32 (by omega) (by decide) _).mono ?_
      rintro e w13 ⟨⟨A13, c13, rfl⟩, hb13⟩
      have hS := hS.trans (hb13.mono hS.size)
      go_wp2_with fail
      go_ret
      exact ⟨retb (by simp), H5.out.trans (hS.mono H5.out.size)⟩
end Go.Proofs.YtjkhkgdijnhdmaaDoor
