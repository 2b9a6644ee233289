/- kilowattlaw04.root, for third and second roots. -/
import Derived.Test.YtjkhkgdijnhdmaaDoorRootTimes
import Derived.Test.YtjkhkgdijnhdmaaDoorShaBackP
namespace Go.Proofs.YtjkhkgdijnhdmaaDoor
open Go.RowKit

theorem join32 (h d : Nat) (hh : h < 20) (hd : d < 4294967296) : bits BinOp.or IntKind.u64 ((h : Int) * 4294967296) (d : Int) = ((h * 4294967296 + d : Nat) : Int) := by
  have e : (h : Int) * 4294967296 = ((h * 4294967296 : Nat) : Int) := by omega
  rw [e, u64_or_nat _ _ (by omega) (by omega)]
  have := Nat.two_pow_add_eq_or_of_lt (i := 32) (b := d) (by omega) h
  rw [Nat.mul_comm h, show (4294967296 : Nat) = 2 ^ 32 by decide, ← this]
theorem mul_lt2 (x : Nat) (hx : x ≤ 2 ^ 37) : x * x < 2 ^ 200 := Nat.lt_of_le_of_lt (Nat.mul_le_mul hx hx) (by decide)
theorem mul_lt3 (x : Nat) (hx : x ≤ 2 ^ 37) : x * x * x < 2 ^ 200 := Nat.lt_of_le_of_lt (Nat.mul_le_mul (Nat.mul_le_mul hx hx) hx) (by decide)
theorem wpList_load_rowG {P : Program} {ops : Array Oper} {rest : List Oper} {op : Oper} {a : Act} {w : World} {Q : Exit → Act → World → Prop} (hw : Region.wanted op (yielded ops a.tmps) = true) (ty : TypeId) (x : Operand) (ho : op.op = .load ty x)
    (b : Nat) (hx : a.eval x = .pointer (some ⟨b, 0, none⟩)) (t : TypeId) (C : Array Value) (d : TypeDesc) (hH : Held w b t C)
    (hu : P.underlying ty = some d) (hd : d.isRow = true) (hi : (P.info? ty).map (·.size) = some C.size)
    (h : wpList P ops Q rest (a.put op.dst (.agg C)) w) : wpList P ops Q (op :: rest) a w :=
  wpList_load_want hw ty x ho b 0 hx C.toList d (range_of_block (H := C.toList) (t := t) (by rw [Array.toArray_toList]; exact hH)) hu hd (by rw [Array.length_toList]; exact hi) (by rw [Array.toArray_toList]; exact h)
set_option maxRecDepth 100000 in
set_option maxHeartbeats 8000000 in
theorem root3 (p wd W0 : Nat) (hp : p < 512) (hwd : wd < 4294967296) (h1 : 1 ≤ W0) (h2 : W0 < 20) (hc1 : (W0 * 4294967296 + wd) * (W0 * 4294967296 + wd) * (W0 * 4294967296 + wd) ≤ p * 2 ^ 96) (hc2 : p * 2 ^ 96 < (W0 * 4294967296 + wd + 1) * (W0 * 4294967296 + wd + 1) * (W0 * 4294967296 + wd + 1)) (w : World) :
    Calls Tryd.prog 23 #[.int .u64 (p : Int), .bool true, .int .u32 (wd : Int)] w fun e w' => e = .returned (.bool true) ∧ Below w.heap.size w w' := by
  have HC1 := Lib.hid hc1
  have HC2 := Lib.hid hc2
  have hu := Tryd.underlying74
  have hzz := zero_num
  clear hc1 hc2
  go_in
  go_wp2_with fail
  go_loopw [7] (fun u7 wx => ∃ h : Nat, 1 ≤ h ∧ h ≤ W0 ∧ u7 = .int .u64 (h : Int) ∧ Below w.heap.size w wx) (fun i _ => 20 - (intOf i).toNat)
  case atStart => exact ⟨1, by omega, by omega, rfl, Below.refl _ _⟩
  case round =>
    obtain ⟨h, hh1, hh2, rfl, hbx⟩ := hrel
    have hj := join32 h wd (by omega) hwd
    obtain ⟨X, hX⟩ : ∃ X, h * 4294967296 + wd = X := ⟨_, rfl⟩
    have hXl : X < 137438953471 := by omega
    obtain ⟨Y, hY⟩ : ∃ Y, X + 1 = Y := ⟨_, rfl⟩
    have hYi : (X : Int) + 1 = (Y : Int) := by omega
    have hYl : Y < 137438953472 := by omega
    rw [hX] at hj
    have HX := Lib.hid hX
    have HY := Lib.hid hY
    have X2 := Lib.hid (mul_lt2 X (by omega))
    have Y2 := Lib.hid (mul_lt2 Y (by omega))
    have X3 := Lib.hid (mul_lt3 X (by omega))
    have Y3 := Lib.hid (mul_lt3 Y (by omega))
    obtain ⟨P1, hP1⟩ : ∃ P, p * 2 ^ 64 = P := ⟨_, rfl⟩
    obtain ⟨P2, hP2⟩ : ∃ P, p * 2 ^ 96 = P := ⟨_, rfl⟩
    have KP1 := Lib.hid (fun W : World => by have k := num_power p 64 (by omega) (by omega) W; rw [hP1] at k; exact k)
    have KP2 := Lib.hid (fun W : World => by have k := num_power p 96 (by omega) (by omega) W; rw [hP2] at k; exact k)
    have PL1 := Lib.hid (show P1 < 2 ^ 200 by omega)
    have PL2 := Lib.hid (show P2 < 2 ^ 200 by omega)
    have HP1 := Lib.hid hP1
    have HP2 := Lib.hid hP2
    clear hX hY hP1 hP2
    have hbw0 := hbx
    have hs0 := hbx.size
    obtain ⟨w0, rfl⟩ : ∃ w0, w0 = wr := ⟨wr, rfl⟩
    go_wp2_with (first
      | (rw [hj])
      | (rw [hYi])
      | fail)
    refine (num_of X (by omega) w0).mono ?_
    rintro e w1 ⟨rfl, hb1⟩
    have hs1 := hb1.size
    obtain ⟨w2, hw2⟩ : ∃ w', w1.alloc (.cells (numA (bitsL (X))) 74) = w' := ⟨_, rfl⟩
    have hb2 : Below w0.heap.size w0 w2 := by rw [← hw2]; exact hb1.alloc hb1.size _
    have H8 : Held w2 w1.heap.size 74 (numA (bitsL (X))) := by rw [← hw2]; exact Held.new _ _ _
    have hs2 : w1.heap.size < w2.heap.size := by rw [← hw2]; simp
    have hbw2 := hbw0.trans (hb2.mono (by omega))
    clear hb2 hb1
    go_wp2_with (first
      | (rw [hj])
      | (rw [hYi])
      | (refine wpList_load_row rfl 74 (.tmp 8) rfl w1.heap.size rfl 74 (numA (bitsL (X))) (0, 0) _ H8 hu rfl (num_size _ (bitsL_len _)) ?_)
      | (refine wpList_store_row rfl 74 (.tmp 8) (.tmp 22) rfl w1.heap.size (numA (bitsL (X))) rfl rfl 74 (numA z200) (heap_alloc_new w1 _) (num_size _ (bitsL_len _)) (by rw [numA_size, numA_size, bitsL_len]; rfl) (numA_one _) ?_
         rw [World.setRow_alloc_new, hw2])
      | fail)
    refine (num_of Y (by omega) w2).mono ?_
    rintro e w3 ⟨rfl, hb3⟩
    have hs3 := hb3.size
    obtain ⟨w4, hw4⟩ : ∃ w', w3.alloc (.cells (numA (bitsL (Y))) 74) = w' := ⟨_, rfl⟩
    have hb4 : Below w2.heap.size w2 w4 := by rw [← hw4]; exact hb3.alloc hb3.size _
    have H8 := H8.below hb4 H8.lt
    have H9 : Held w4 w3.heap.size 74 (numA (bitsL (Y))) := by rw [← hw4]; exact Held.new _ _ _
    have hs4 : w3.heap.size < w4.heap.size := by rw [← hw4]; simp
    have hbw4 := hbw2.trans (hb4.mono (by omega))
    clear hb4 hb3
    go_wp2_with (first
      | (rw [hj])
      | (rw [hYi])
      | (refine wpList_load_row rfl 74 (.tmp 8) rfl w1.heap.size rfl 74 (numA (bitsL (X))) (0, 0) _ H8 hu rfl (num_size _ (bitsL_len _)) ?_)
      | (refine wpList_load_row rfl 74 (.tmp 9) rfl w3.heap.size rfl 74 (numA (bitsL (Y))) (0, 0) _ H9 hu rfl (num_size _ (bitsL_len _)) ?_)
      | (refine wpList_store_row rfl 74 (.tmp 9) (.tmp 29) rfl w3.heap.size (numA (bitsL (Y))) rfl rfl 74 (numA z200) (heap_alloc_new w3 _) (num_size _ (bitsL_len _)) (by rw [numA_size, numA_size, bitsL_len]; rfl) (numA_one _) ?_
         rw [World.setRow_alloc_new, hw4])
      | fail)
    refine (num_times X X X2.out (Nat.lt_trans (show X < 2 ^ 37 by omega) (by decide)) w4).mono ?_
    rintro e w5 ⟨rfl, hb5⟩
    have hs5 := hb5.size
    obtain ⟨w6, hw6⟩ : ∃ w', w5.alloc (.cells (numA (bitsL (X * X))) 74) = w' := ⟨_, rfl⟩
    have hb6 : Below w4.heap.size w4 w6 := by rw [← hw6]; exact hb5.alloc hb5.size _
    have H8 := H8.below hb6 H8.lt
    have H9 := H9.below hb6 H9.lt
    have H10 : Held w6 w5.heap.size 74 (numA (bitsL (X * X))) := by rw [← hw6]; exact Held.new _ _ _
    have hs6 : w5.heap.size < w6.heap.size := by rw [← hw6]; simp
    have hbw6 := hbw4.trans (hb6.mono (by omega))
    clear hb6 hb5
    go_wp2_with (first
      | (rw [hj])
      | (rw [hYi])
      | (refine wpList_load_row rfl 74 (.tmp 8) rfl w1.heap.size rfl 74 (numA (bitsL (X))) (0, 0) _ H8 hu rfl (num_size _ (bitsL_len _)) ?_)
      | (refine wpList_load_row rfl 74 (.tmp 9) rfl w3.heap.size rfl 74 (numA (bitsL (Y))) (0, 0) _ H9 hu rfl (num_size _ (bitsL_len _)) ?_)
      | (refine wpList_load_row rfl 74 (.tmp 10) rfl w5.heap.size rfl 74 (numA (bitsL (X * X))) (0, 0) _ H10 hu rfl (num_size _ (bitsL_len _)) ?_)
      | (refine wpList_store_row rfl 74 (.tmp 10) (.tmp 32) rfl w5.heap.size (numA (bitsL (X * X))) rfl rfl 74 (numA z200) (heap_alloc_new w5 _) (num_size _ (bitsL_len _)) (by rw [numA_size, numA_size, bitsL_len]; rfl) (numA_one _) ?_
         rw [World.setRow_alloc_new, hw6])
      | fail)
    refine (num_times Y Y Y2.out (Nat.lt_of_le_of_lt (show Y ≤ 2 ^ 37 by omega) (by decide)) w6).mono ?_
    rintro e w7 ⟨rfl, hb7⟩
    have hs7 := hb7.size
    obtain ⟨w8, hw8⟩ : ∃ w', w7.alloc (.cells (numA (bitsL (Y * Y))) 74) = w' := ⟨_, rfl⟩
    have hb8 : Below w6.heap.size w6 w8 := by rw [← hw8]; exact hb7.alloc hb7.size _
    have H8 := H8.below hb8 H8.lt
    have H9 := H9.below hb8 H9.lt
    have H10 := H10.below hb8 H10.lt
    have H11 : Held w8 w7.heap.size 74 (numA (bitsL (Y * Y))) := by rw [← hw8]; exact Held.new _ _ _
    have hs8 : w7.heap.size < w8.heap.size := by rw [← hw8]; simp
    have hbw8 := hbw6.trans (hb8.mono (by omega))
    clear hb8 hb7
    go_wp2_with (first
      | (rw [hj])
      | (rw [hYi])
      | (refine wpList_load_row rfl 74 (.tmp 8) rfl w1.heap.size rfl 74 (numA (bitsL (X))) (0, 0) _ H8 hu rfl (num_size _ (bitsL_len _)) ?_)
      | (refine wpList_load_row rfl 74 (.tmp 9) rfl w3.heap.size rfl 74 (numA (bitsL (Y))) (0, 0) _ H9 hu rfl (num_size _ (bitsL_len _)) ?_)
      | (refine wpList_load_row rfl 74 (.tmp 10) rfl w5.heap.size rfl 74 (numA (bitsL (X * X))) (0, 0) _ H10 hu rfl (num_size _ (bitsL_len _)) ?_)
      | (refine wpList_load_row rfl 74 (.tmp 11) rfl w7.heap.size rfl 74 (numA (bitsL (Y * Y))) (0, 0) _ H11 hu rfl (num_size _ (bitsL_len _)) ?_)
      | (refine wpList_store_row rfl 74 (.tmp 11) (.tmp 35) rfl w7.heap.size (numA (bitsL (Y * Y))) rfl rfl 74 (numA z200) (heap_alloc_new w7 _) (num_size _ (bitsL_len _)) (by rw [numA_size, numA_size, bitsL_len]; rfl) (numA_one _) ?_
         rw [World.setRow_alloc_new, hw8])
      | fail)
    refine (KP1.out w8).mono ?_
    rintro e w9 ⟨rfl, hb9⟩
    have hs9 := hb9.size
    obtain ⟨w10, hw10⟩ : ∃ w', w9.alloc (.cells (numA (bitsL (P1))) 74) = w' := ⟨_, rfl⟩
    have hb10 : Below w8.heap.size w8 w10 := by rw [← hw10]; exact hb9.alloc hb9.size _
    have H8 := H8.below hb10 H8.lt
    have H9 := H9.below hb10 H9.lt
    have H10 := H10.below hb10 H10.lt
    have H11 := H11.below hb10 H11.lt
    have H12 : Held w10 w9.heap.size 74 (numA (bitsL (P1))) := by rw [← hw10]; exact Held.new _ _ _
    have hs10 : w9.heap.size < w10.heap.size := by rw [← hw10]; simp
    have hbw10 := hbw8.trans (hb10.mono (by omega))
    clear hb10 hb9
    go_wp2_with (first
      | (rw [hj])
      | (rw [hYi])
      | (refine wpList_load_row rfl 74 (.tmp 8) rfl w1.heap.size rfl 74 (numA (bitsL (X))) (0, 0) _ H8 hu rfl (num_size _ (bitsL_len _)) ?_)
      | (refine wpList_load_row rfl 74 (.tmp 9) rfl w3.heap.size rfl 74 (numA (bitsL (Y))) (0, 0) _ H9 hu rfl (num_size _ (bitsL_len _)) ?_)
      | (refine wpList_load_row rfl 74 (.tmp 10) rfl w5.heap.size rfl 74 (numA (bitsL (X * X))) (0, 0) _ H10 hu rfl (num_size _ (bitsL_len _)) ?_)
      | (refine wpList_load_row rfl 74 (.tmp 11) rfl w7.heap.size rfl 74 (numA (bitsL (Y * Y))) (0, 0) _ H11 hu rfl (num_size _ (bitsL_len _)) ?_)
      | (refine wpList_load_row rfl 74 (.tmp 12) rfl w9.heap.size rfl 74 (numA (bitsL (P1))) (0, 0) _ H12 hu rfl (num_size _ (bitsL_len _)) ?_)
      | (refine wpList_store_row rfl 74 (.tmp 12) (.tmp 37) rfl w9.heap.size (numA (bitsL (P1))) rfl rfl 74 (numA z200) (heap_alloc_new w9 _) (num_size _ (bitsL_len _)) (by rw [numA_size, numA_size, bitsL_len]; rfl) (numA_one _) ?_
         rw [World.setRow_alloc_new, hw10])
      | fail)
    refine (num_times (X * X) X X3.out (Nat.lt_trans (show X < 2 ^ 37 by omega) (by decide)) w10).mono ?_
    rintro e w11 ⟨rfl, hb11⟩
    have hs11 := hb11.size
    have H8 := H8.below hb11 H8.lt
    have H9 := H9.below hb11 H9.lt
    have H10 := H10.below hb11 H10.lt
    have H11 := H11.below hb11 H11.lt
    have H12 := H12.below hb11 H12.lt
    have hbw11 := hbw10.trans (hb11.mono (by omega))
    clear hb11
    obtain ⟨w12, hw12⟩ : ∃ w', w11.setRow w5.heap.size (numA (bitsL (X * X * X))) = w' := ⟨_, rfl⟩
    have hO12 := H10
    have H8 : Held w12 w1.heap.size 74 (numA (bitsL (X))) := by rw [← hw12]; exact H8.setRowR (by omega) _
    have H9 : Held w12 w3.heap.size 74 (numA (bitsL (Y))) := by rw [← hw12]; exact H9.setRowR (by omega) _
    have H11 : Held w12 w7.heap.size 74 (numA (bitsL (Y * Y))) := by rw [← hw12]; exact H11.setRowR (by omega) _
    have H12 : Held w12 w9.heap.size 74 (numA (bitsL (P1))) := by rw [← hw12]; exact H12.setRowR (by omega) _
    have H10 : Held w12 w5.heap.size 74 (numA (bitsL (X * X * X))) := by rw [← hw12]; exact setRow_heap _ _ _ _ _ _ H10
    have hs12 : w11.heap.size = w12.heap.size := by rw [← hw12]; simp
    have hs12 : w11.heap.size ≤ w12.heap.size := by omega
    have hbw12 : Below w.heap.size w w12 := by rw [← hw12]; exact below_setRow hbw11 _ _ (by omega)
    go_wp2_with (first
      | (rw [hj])
      | (rw [hYi])
      | (refine wpList_load_row rfl 74 (.tmp 8) rfl w1.heap.size rfl 74 (numA (bitsL (X))) (0, 0) _ H8 hu rfl (num_size _ (bitsL_len _)) ?_)
      | (refine wpList_load_row rfl 74 (.tmp 9) rfl w3.heap.size rfl 74 (numA (bitsL (Y))) (0, 0) _ H9 hu rfl (num_size _ (bitsL_len _)) ?_)
      | (refine wpList_load_row rfl 74 (.tmp 10) rfl w5.heap.size rfl 74 (numA (bitsL (X * X * X))) (0, 0) _ H10 hu rfl (num_size _ (bitsL_len _)) ?_)
      | (refine wpList_load_row rfl 74 (.tmp 11) rfl w7.heap.size rfl 74 (numA (bitsL (Y * Y))) (0, 0) _ H11 hu rfl (num_size _ (bitsL_len _)) ?_)
      | (refine wpList_load_row rfl 74 (.tmp 12) rfl w9.heap.size rfl 74 (numA (bitsL (P1))) (0, 0) _ H12 hu rfl (num_size _ (bitsL_len _)) ?_)
      | (refine wpList_store_row rfl 74 (.tmp 10) (.tmp 41) rfl (w5.heap.size) (numA (bitsL (X * X * X))) rfl rfl 74 (numA (bitsL (X * X))) hO12 (num_size _ (bitsL_len _)) (by rw [numA_size, numA_size, bitsL_len, bitsL_len]) (numA_one _) ?_
         rw [hw12])
      | fail)
    refine (num_times (Y * Y) Y Y3.out (Nat.lt_of_le_of_lt (show Y ≤ 2 ^ 37 by omega) (by decide)) w12).mono ?_
    rintro e w13 ⟨rfl, hb13⟩
    have hs13 := hb13.size
    have H8 := H8.below hb13 H8.lt
    have H9 := H9.below hb13 H9.lt
    have H10 := H10.below hb13 H10.lt
    have H11 := H11.below hb13 H11.lt
    have H12 := H12.below hb13 H12.lt
    have hbw13 := hbw12.trans (hb13.mono (by omega))
    clear hb13
    obtain ⟨w14, hw14⟩ : ∃ w', w13.setRow w7.heap.size (numA (bitsL (Y * Y * Y))) = w' := ⟨_, rfl⟩
    have hO14 := H11
    have H8 : Held w14 w1.heap.size 74 (numA (bitsL (X))) := by rw [← hw14]; exact H8.setRowR (by omega) _
    have H9 : Held w14 w3.heap.size 74 (numA (bitsL (Y))) := by rw [← hw14]; exact H9.setRowR (by omega) _
    have H10 : Held w14 w5.heap.size 74 (numA (bitsL (X * X * X))) := by rw [← hw14]; exact H10.setRowR (by omega) _
    have H12 : Held w14 w9.heap.size 74 (numA (bitsL (P1))) := by rw [← hw14]; exact H12.setRowR (by omega) _
    have H11 : Held w14 w7.heap.size 74 (numA (bitsL (Y * Y * Y))) := by rw [← hw14]; exact setRow_heap _ _ _ _ _ _ H11
    have hs14 : w13.heap.size = w14.heap.size := by rw [← hw14]; simp
    have hs14 : w13.heap.size ≤ w14.heap.size := by omega
    have hbw14 : Below w.heap.size w w14 := by rw [← hw14]; exact below_setRow hbw13 _ _ (by omega)
    go_wp2_with (first
      | (rw [hj])
      | (rw [hYi])
      | (refine wpList_load_row rfl 74 (.tmp 8) rfl w1.heap.size rfl 74 (numA (bitsL (X))) (0, 0) _ H8 hu rfl (num_size _ (bitsL_len _)) ?_)
      | (refine wpList_load_row rfl 74 (.tmp 9) rfl w3.heap.size rfl 74 (numA (bitsL (Y))) (0, 0) _ H9 hu rfl (num_size _ (bitsL_len _)) ?_)
      | (refine wpList_load_row rfl 74 (.tmp 10) rfl w5.heap.size rfl 74 (numA (bitsL (X * X * X))) (0, 0) _ H10 hu rfl (num_size _ (bitsL_len _)) ?_)
      | (refine wpList_load_row rfl 74 (.tmp 11) rfl w7.heap.size rfl 74 (numA (bitsL (Y * Y * Y))) (0, 0) _ H11 hu rfl (num_size _ (bitsL_len _)) ?_)
      | (refine wpList_load_row rfl 74 (.tmp 12) rfl w9.heap.size rfl 74 (numA (bitsL (P1))) (0, 0) _ H12 hu rfl (num_size _ (bitsL_len _)) ?_)
      | (refine wpList_store_row rfl 74 (.tmp 11) (.tmp 44) rfl (w7.heap.size) (numA (bitsL (Y * Y * Y))) rfl rfl 74 (numA (bitsL (Y * Y))) hO14 (num_size _ (bitsL_len _)) (by rw [numA_size, numA_size, bitsL_len, bitsL_len]) (numA_one _) ?_
         rw [hw14])
      | fail)
    refine (KP2.out w14).mono ?_
    rintro e w15 ⟨rfl, hb15⟩
    have hs15 := hb15.size
    have H8 := H8.below hb15 H8.lt
    have H9 := H9.below hb15 H9.lt
    have H10 := H10.below hb15 H10.lt
    have H11 := H11.below hb15 H11.lt
    have H12 := H12.below hb15 H12.lt
    have hbw15 := hbw14.trans (hb15.mono (by omega))
    clear hb15
    obtain ⟨w16, hw16⟩ : ∃ w', w15.setRow w9.heap.size (numA (bitsL (P2))) = w' := ⟨_, rfl⟩
    have hO16 := H12
    have H8 : Held w16 w1.heap.size 74 (numA (bitsL (X))) := by rw [← hw16]; exact H8.setRowR (by omega) _
    have H9 : Held w16 w3.heap.size 74 (numA (bitsL (Y))) := by rw [← hw16]; exact H9.setRowR (by omega) _
    have H10 : Held w16 w5.heap.size 74 (numA (bitsL (X * X * X))) := by rw [← hw16]; exact H10.setRowR (by omega) _
    have H11 : Held w16 w7.heap.size 74 (numA (bitsL (Y * Y * Y))) := by rw [← hw16]; exact H11.setRowR (by omega) _
    have H12 : Held w16 w9.heap.size 74 (numA (bitsL (P2))) := by rw [← hw16]; exact setRow_heap _ _ _ _ _ _ H12
    have hs16 : w15.heap.size = w16.heap.size := by rw [← hw16]; simp
    have hs16 : w15.heap.size ≤ w16.heap.size := by omega
    have hbw16 : Below w.heap.size w w16 := by rw [← hw16]; exact below_setRow hbw15 _ _ (by omega)
    go_wp2_with (first
      | (rw [hj])
      | (rw [hYi])
      | (refine wpList_load_row rfl 74 (.tmp 8) rfl w1.heap.size rfl 74 (numA (bitsL (X))) (0, 0) _ H8 hu rfl (num_size _ (bitsL_len _)) ?_)
      | (refine wpList_load_row rfl 74 (.tmp 9) rfl w3.heap.size rfl 74 (numA (bitsL (Y))) (0, 0) _ H9 hu rfl (num_size _ (bitsL_len _)) ?_)
      | (refine wpList_load_row rfl 74 (.tmp 10) rfl w5.heap.size rfl 74 (numA (bitsL (X * X * X))) (0, 0) _ H10 hu rfl (num_size _ (bitsL_len _)) ?_)
      | (refine wpList_load_row rfl 74 (.tmp 11) rfl w7.heap.size rfl 74 (numA (bitsL (Y * Y * Y))) (0, 0) _ H11 hu rfl (num_size _ (bitsL_len _)) ?_)
      | (refine wpList_load_row rfl 74 (.tmp 12) rfl w9.heap.size rfl 74 (numA (bitsL (P2))) (0, 0) _ H12 hu rfl (num_size _ (bitsL_len _)) ?_)
      | (refine wpList_store_row rfl 74 (.tmp 12) (.tmp 46) rfl (w9.heap.size) (numA (bitsL (P2))) rfl rfl 74 (numA (bitsL (P1))) hO16 (num_size _ (bitsL_len _)) (by rw [numA_size, numA_size, bitsL_len, bitsL_len]) (numA_one _) ?_
         rw [hw16])
      | fail)
    have hcond : h = W0 → X * X * X ≤ P2 ∧ P2 < Y * Y * Y := fun e => by
      subst e
      rw [← HP2.out, ← HY.out, ← HX.out]
      exact ⟨HC1.out, HC2.out⟩
    have HCD := Lib.hid hcond
    clear hcond
    refine (num_bare (X * X * X) P2 X3.out PL2.out w16).mono ?_
    rintro e wa ⟨⟨z, rfl, hza, hzb⟩, hba⟩
    have H8 := H8.below hba H8.lt
    have H9 := H9.below hba H9.lt
    have H10 := H10.below hba H10.lt
    have H11 := H11.below hba H11.lt
    have H12 := H12.below hba H12.lt
    have hbwa := hbw16.trans (hba.mono (by omega))
    by_cases c1 : X * X * X ≤ P2
    · have hz : z ≤ 0 := by omega
      clear hza hzb
      go_wp2_with (first
        | (refine wpList_load_rowG (by rfl) 74 (.tmp 8) rfl (w1.heap.size) rfl 74 (numA (bitsL (X))) _ H8 hu rfl (num_size _ (bitsL_len _)) ?_)
        | (refine wpList_load_rowG (by rfl) 74 (.tmp 9) rfl (w3.heap.size) rfl 74 (numA (bitsL (Y))) _ H9 hu rfl (num_size _ (bitsL_len _)) ?_)
        | (refine wpList_load_rowG (by rfl) 74 (.tmp 10) rfl (w5.heap.size) rfl 74 (numA (bitsL (X * X * X))) _ H10 hu rfl (num_size _ (bitsL_len _)) ?_)
        | (refine wpList_load_rowG (by rfl) 74 (.tmp 11) rfl (w7.heap.size) rfl 74 (numA (bitsL (Y * Y * Y))) _ H11 hu rfl (num_size _ (bitsL_len _)) ?_)
        | (refine wpList_load_rowG (by rfl) 74 (.tmp 12) rfl (w9.heap.size) rfl 74 (numA (bitsL (P2))) _ H12 hu rfl (num_size _ (bitsL_len _)) ?_)
        | fail)
      refine (num_bare P2 (Y * Y * Y) PL2.out Y3.out wa).mono ?_
      rintro e wb ⟨⟨y, rfl, hya, hyb⟩, hbb⟩
      have hbwb := hbwa.trans (hbb.mono hbwa.size)
      by_cases c2 : P2 < Y * Y * Y
      · have hy : y < 0 := by omega
        go_wp2_with fail
        go_ret
        exact ⟨rfl, hbwb⟩
      · have hy : ¬ y < 0 := by omega
        have hne : h ≠ W0 := fun e => c2 (HCD.out e).2
        clear hya hyb
        go_wp2_with fail
        go_roundw
        case rel => exact ⟨h + 1, by omega, by omega, by go_num, hbwb⟩
        case measure => simp [intOf]; omega
    · have hz : decide (z ≤ 0) = false := decide_eq_false (by omega)
      have hne : h ≠ W0 := fun e => c1 (HCD.out e).1
      clear hza hzb
      go_wp2_with fail
      go_roundw
      case rel => exact ⟨h + 1, by omega, by omega, by go_num, hbwa⟩
      case measure => simp [intOf]; omega
set_option maxRecDepth 100000 in
set_option maxHeartbeats 8000000 in
theorem root2 (p wd W0 : Nat) (hp : p < 512) (hwd : wd < 4294967296) (h1 : 1 ≤ W0) (h2 : W0 < 20) (hc1 : (W0 * 4294967296 + wd) * (W0 * 4294967296 + wd) ≤ p * 2 ^ 64) (hc2 : p * 2 ^ 64 < (W0 * 4294967296 + wd + 1) * (W0 * 4294967296 + wd + 1)) (w : World) :
    Calls Tryd.prog 23 #[.int .u64 (p : Int), .bool false, .int .u32 (wd : Int)] w fun e w' => e = .returned (.bool true) ∧ Below w.heap.size w w' := by
  have HC1 := Lib.hid hc1
  have HC2 := Lib.hid hc2
  have hu := Tryd.underlying74
  have hzz := zero_num
  clear hc1 hc2
  go_in
  go_wp2_with fail
  go_loopw [7] (fun u7 wx => ∃ h : Nat, 1 ≤ h ∧ h ≤ W0 ∧ u7 = .int .u64 (h : Int) ∧ Below w.heap.size w wx) (fun i _ => 20 - (intOf i).toNat)
  case atStart => exact ⟨1, by omega, by omega, rfl, Below.refl _ _⟩
  case round =>
    obtain ⟨h, hh1, hh2, rfl, hbx⟩ := hrel
    have hj := join32 h wd (by omega) hwd
    obtain ⟨X, hX⟩ : ∃ X, h * 4294967296 + wd = X := ⟨_, rfl⟩
    have hXl : X < 137438953471 := by omega
    obtain ⟨Y, hY⟩ : ∃ Y, X + 1 = Y := ⟨_, rfl⟩
    have hYi : (X : Int) + 1 = (Y : Int) := by omega
    have hYl : Y < 137438953472 := by omega
    rw [hX] at hj
    have HX := Lib.hid hX
    have HY := Lib.hid hY
    have X2 := Lib.hid (mul_lt2 X (by omega))
    have Y2 := Lib.hid (mul_lt2 Y (by omega))
    have X3 := Lib.hid (mul_lt3 X (by omega))
    have Y3 := Lib.hid (mul_lt3 Y (by omega))
    obtain ⟨P1, hP1⟩ : ∃ P, p * 2 ^ 64 = P := ⟨_, rfl⟩
    obtain ⟨P2, hP2⟩ : ∃ P, p * 2 ^ 96 = P := ⟨_, rfl⟩
    have KP1 := Lib.hid (fun W : World => by have k := num_power p 64 (by omega) (by omega) W; rw [hP1] at k; exact k)
    have KP2 := Lib.hid (fun W : World => by have k := num_power p 96 (by omega) (by omega) W; rw [hP2] at k; exact k)
    have PL1 := Lib.hid (show P1 < 2 ^ 200 by omega)
    have PL2 := Lib.hid (show P2 < 2 ^ 200 by omega)
    have HP1 := Lib.hid hP1
    have HP2 := Lib.hid hP2
    clear hX hY hP1 hP2
    have hbw0 := hbx
    have hs0 := hbx.size
    obtain ⟨w0, rfl⟩ : ∃ w0, w0 = wr := ⟨wr, rfl⟩
    go_wp2_with (first
      | (rw [hj])
      | (rw [hYi])
      | fail)
    refine (num_of X (by omega) w0).mono ?_
    rintro e w1 ⟨rfl, hb1⟩
    have hs1 := hb1.size
    obtain ⟨w2, hw2⟩ : ∃ w', w1.alloc (.cells (numA (bitsL (X))) 74) = w' := ⟨_, rfl⟩
    have hb2 : Below w0.heap.size w0 w2 := by rw [← hw2]; exact hb1.alloc hb1.size _
    have H8 : Held w2 w1.heap.size 74 (numA (bitsL (X))) := by rw [← hw2]; exact Held.new _ _ _
    have hs2 : w1.heap.size < w2.heap.size := by rw [← hw2]; simp
    have hbw2 := hbw0.trans (hb2.mono (by omega))
    clear hb2 hb1
    go_wp2_with (first
      | (rw [hj])
      | (rw [hYi])
      | (refine wpList_load_row rfl 74 (.tmp 8) rfl w1.heap.size rfl 74 (numA (bitsL (X))) (0, 0) _ H8 hu rfl (num_size _ (bitsL_len _)) ?_)
      | (refine wpList_store_row rfl 74 (.tmp 8) (.tmp 22) rfl w1.heap.size (numA (bitsL (X))) rfl rfl 74 (numA z200) (heap_alloc_new w1 _) (num_size _ (bitsL_len _)) (by rw [numA_size, numA_size, bitsL_len]; rfl) (numA_one _) ?_
         rw [World.setRow_alloc_new, hw2])
      | fail)
    refine (num_of Y (by omega) w2).mono ?_
    rintro e w3 ⟨rfl, hb3⟩
    have hs3 := hb3.size
    obtain ⟨w4, hw4⟩ : ∃ w', w3.alloc (.cells (numA (bitsL (Y))) 74) = w' := ⟨_, rfl⟩
    have hb4 : Below w2.heap.size w2 w4 := by rw [← hw4]; exact hb3.alloc hb3.size _
    have H8 := H8.below hb4 H8.lt
    have H9 : Held w4 w3.heap.size 74 (numA (bitsL (Y))) := by rw [← hw4]; exact Held.new _ _ _
    have hs4 : w3.heap.size < w4.heap.size := by rw [← hw4]; simp
    have hbw4 := hbw2.trans (hb4.mono (by omega))
    clear hb4 hb3
    go_wp2_with (first
      | (rw [hj])
      | (rw [hYi])
      | (refine wpList_load_row rfl 74 (.tmp 8) rfl w1.heap.size rfl 74 (numA (bitsL (X))) (0, 0) _ H8 hu rfl (num_size _ (bitsL_len _)) ?_)
      | (refine wpList_load_row rfl 74 (.tmp 9) rfl w3.heap.size rfl 74 (numA (bitsL (Y))) (0, 0) _ H9 hu rfl (num_size _ (bitsL_len _)) ?_)
      | (refine wpList_store_row rfl 74 (.tmp 9) (.tmp 29) rfl w3.heap.size (numA (bitsL (Y))) rfl rfl 74 (numA z200) (heap_alloc_new w3 _) (num_size _ (bitsL_len _)) (by rw [numA_size, numA_size, bitsL_len]; rfl) (numA_one _) ?_
         rw [World.setRow_alloc_new, hw4])
      | fail)
    refine (num_times X X X2.out (Nat.lt_trans (show X < 2 ^ 37 by omega) (by decide)) w4).mono ?_
    rintro e w5 ⟨rfl, hb5⟩
    have hs5 := hb5.size
    obtain ⟨w6, hw6⟩ : ∃ w', w5.alloc (.cells (numA (bitsL (X * X))) 74) = w' := ⟨_, rfl⟩
    have hb6 : Below w4.heap.size w4 w6 := by rw [← hw6]; exact hb5.alloc hb5.size _
    have H8 := H8.below hb6 H8.lt
    have H9 := H9.below hb6 H9.lt
    have H10 : Held w6 w5.heap.size 74 (numA (bitsL (X * X))) := by rw [← hw6]; exact Held.new _ _ _
    have hs6 : w5.heap.size < w6.heap.size := by rw [← hw6]; simp
    have hbw6 := hbw4.trans (hb6.mono (by omega))
    clear hb6 hb5
    go_wp2_with (first
      | (rw [hj])
      | (rw [hYi])
      | (refine wpList_load_row rfl 74 (.tmp 8) rfl w1.heap.size rfl 74 (numA (bitsL (X))) (0, 0) _ H8 hu rfl (num_size _ (bitsL_len _)) ?_)
      | (refine wpList_load_row rfl 74 (.tmp 9) rfl w3.heap.size rfl 74 (numA (bitsL (Y))) (0, 0) _ H9 hu rfl (num_size _ (bitsL_len _)) ?_)
      | (refine wpList_load_row rfl 74 (.tmp 10) rfl w5.heap.size rfl 74 (numA (bitsL (X * X))) (0, 0) _ H10 hu rfl (num_size _ (bitsL_len _)) ?_)
      | (refine wpList_store_row rfl 74 (.tmp 10) (.tmp 32) rfl w5.heap.size (numA (bitsL (X * X))) rfl rfl 74 (numA z200) (heap_alloc_new w5 _) (num_size _ (bitsL_len _)) (by rw [numA_size, numA_size, bitsL_len]; rfl) (numA_one _) ?_
         rw [World.setRow_alloc_new, hw6])
      | fail)
    refine (num_times Y Y Y2.out (Nat.lt_of_le_of_lt (show Y ≤ 2 ^ 37 by omega) (by decide)) w6).mono ?_
    rintro e w7 ⟨rfl, hb7⟩
    have hs7 := hb7.size
    obtain ⟨w8, hw8⟩ : ∃ w', w7.alloc (.cells (numA (bitsL (Y * Y))) 74) = w' := ⟨_, rfl⟩
    have hb8 : Below w6.heap.size w6 w8 := by rw [← hw8]; exact hb7.alloc hb7.size _
    have H8 := H8.below hb8 H8.lt
    have H9 := H9.below hb8 H9.lt
    have H10 := H10.below hb8 H10.lt
    have H11 : Held w8 w7.heap.size 74 (numA (bitsL (Y * Y))) := by rw [← hw8]; exact Held.new _ _ _
    have hs8 : w7.heap.size < w8.heap.size := by rw [← hw8]; simp
    have hbw8 := hbw6.trans (hb8.mono (by omega))
    clear hb8 hb7
    go_wp2_with (first
      | (rw [hj])
      | (rw [hYi])
      | (refine wpList_load_row rfl 74 (.tmp 8) rfl w1.heap.size rfl 74 (numA (bitsL (X))) (0, 0) _ H8 hu rfl (num_size _ (bitsL_len _)) ?_)
      | (refine wpList_load_row rfl 74 (.tmp 9) rfl w3.heap.size rfl 74 (numA (bitsL (Y))) (0, 0) _ H9 hu rfl (num_size _ (bitsL_len _)) ?_)
      | (refine wpList_load_row rfl 74 (.tmp 10) rfl w5.heap.size rfl 74 (numA (bitsL (X * X))) (0, 0) _ H10 hu rfl (num_size _ (bitsL_len _)) ?_)
      | (refine wpList_load_row rfl 74 (.tmp 11) rfl w7.heap.size rfl 74 (numA (bitsL (Y * Y))) (0, 0) _ H11 hu rfl (num_size _ (bitsL_len _)) ?_)
      | (refine wpList_store_row rfl 74 (.tmp 11) (.tmp 35) rfl w7.heap.size (numA (bitsL (Y * Y))) rfl rfl 74 (numA z200) (heap_alloc_new w7 _) (num_size _ (bitsL_len _)) (by rw [numA_size, numA_size, bitsL_len]; rfl) (numA_one _) ?_
         rw [World.setRow_alloc_new, hw8])
      | fail)
    refine (KP1.out w8).mono ?_
    rintro e w9 ⟨rfl, hb9⟩
    have hs9 := hb9.size
    obtain ⟨w10, hw10⟩ : ∃ w', w9.alloc (.cells (numA (bitsL (P1))) 74) = w' := ⟨_, rfl⟩
    have hb10 : Below w8.heap.size w8 w10 := by rw [← hw10]; exact hb9.alloc hb9.size _
    have H8 := H8.below hb10 H8.lt
    have H9 := H9.below hb10 H9.lt
    have H10 := H10.below hb10 H10.lt
    have H11 := H11.below hb10 H11.lt
    have H12 : Held w10 w9.heap.size 74 (numA (bitsL (P1))) := by rw [← hw10]; exact Held.new _ _ _
    have hs10 : w9.heap.size < w10.heap.size := by rw [← hw10]; simp
    have hbw10 := hbw8.trans (hb10.mono (by omega))
    clear hb10 hb9
    go_wp2_with (first
      | (rw [hj])
      | (rw [hYi])
      | (refine wpList_load_row rfl 74 (.tmp 8) rfl w1.heap.size rfl 74 (numA (bitsL (X))) (0, 0) _ H8 hu rfl (num_size _ (bitsL_len _)) ?_)
      | (refine wpList_load_row rfl 74 (.tmp 9) rfl w3.heap.size rfl 74 (numA (bitsL (Y))) (0, 0) _ H9 hu rfl (num_size _ (bitsL_len _)) ?_)
      | (refine wpList_load_row rfl 74 (.tmp 10) rfl w5.heap.size rfl 74 (numA (bitsL (X * X))) (0, 0) _ H10 hu rfl (num_size _ (bitsL_len _)) ?_)
      | (refine wpList_load_row rfl 74 (.tmp 11) rfl w7.heap.size rfl 74 (numA (bitsL (Y * Y))) (0, 0) _ H11 hu rfl (num_size _ (bitsL_len _)) ?_)
      | (refine wpList_load_row rfl 74 (.tmp 12) rfl w9.heap.size rfl 74 (numA (bitsL (P1))) (0, 0) _ H12 hu rfl (num_size _ (bitsL_len _)) ?_)
      | (refine wpList_store_row rfl 74 (.tmp 12) (.tmp 37) rfl w9.heap.size (numA (bitsL (P1))) rfl rfl 74 (numA z200) (heap_alloc_new w9 _) (num_size _ (bitsL_len _)) (by rw [numA_size, numA_size, bitsL_len]; rfl) (numA_one _) ?_
         rw [World.setRow_alloc_new, hw10])
      | fail)
    have hcond : h = W0 → X * X ≤ P1 ∧ P1 < Y * Y := fun e => by
      subst e
      rw [← HP1.out, ← HY.out, ← HX.out]
      exact ⟨HC1.out, HC2.out⟩
    have HCD := Lib.hid hcond
    clear hcond
    refine (num_bare (X * X) P1 X2.out PL1.out w10).mono ?_
    rintro e wa ⟨⟨z, rfl, hza, hzb⟩, hba⟩
    have H8 := H8.below hba H8.lt
    have H9 := H9.below hba H9.lt
    have H10 := H10.below hba H10.lt
    have H11 := H11.below hba H11.lt
    have H12 := H12.below hba H12.lt
    have hbwa := hbw10.trans (hba.mono (by omega))
    by_cases c1 : X * X ≤ P1
    · have hz : z ≤ 0 := by omega
      clear hza hzb
      go_wp2_with (first
        | (refine wpList_load_rowG (by rfl) 74 (.tmp 8) rfl (w1.heap.size) rfl 74 (numA (bitsL (X))) _ H8 hu rfl (num_size _ (bitsL_len _)) ?_)
        | (refine wpList_load_rowG (by rfl) 74 (.tmp 9) rfl (w3.heap.size) rfl 74 (numA (bitsL (Y))) _ H9 hu rfl (num_size _ (bitsL_len _)) ?_)
        | (refine wpList_load_rowG (by rfl) 74 (.tmp 10) rfl (w5.heap.size) rfl 74 (numA (bitsL (X * X))) _ H10 hu rfl (num_size _ (bitsL_len _)) ?_)
        | (refine wpList_load_rowG (by rfl) 74 (.tmp 11) rfl (w7.heap.size) rfl 74 (numA (bitsL (Y * Y))) _ H11 hu rfl (num_size _ (bitsL_len _)) ?_)
        | (refine wpList_load_rowG (by rfl) 74 (.tmp 12) rfl (w9.heap.size) rfl 74 (numA (bitsL (P1))) _ H12 hu rfl (num_size _ (bitsL_len _)) ?_)
        | fail)
      refine (num_bare P1 (Y * Y) PL1.out Y2.out wa).mono ?_
      rintro e wb ⟨⟨y, rfl, hya, hyb⟩, hbb⟩
      have hbwb := hbwa.trans (hbb.mono hbwa.size)
      by_cases c2 : P1 < Y * Y
      · have hy : y < 0 := by omega
        go_wp2_with fail
        go_ret
        exact ⟨rfl, hbwb⟩
      · have hy : ¬ y < 0 := by omega
        have hne : h ≠ W0 := fun e => c2 (HCD.out e).2
        clear hya hyb
        go_wp2_with fail
        go_roundw
        case rel => exact ⟨h + 1, by omega, by omega, by go_num, hbwb⟩
        case measure => simp [intOf]; omega
    · have hz : decide (z ≤ 0) = false := decide_eq_false (by omega)
      have hne : h ≠ W0 := fun e => c1 (HCD.out e).1
      clear hza hzb
      go_wp2_with fail
      go_roundw
      case rel => exact ⟨h + 1, by omega, by omega, by go_num, hbwa⟩
      case measure => simp [intOf]; omega
end Go.Proofs.YtjkhkgdijnhdmaaDoor
