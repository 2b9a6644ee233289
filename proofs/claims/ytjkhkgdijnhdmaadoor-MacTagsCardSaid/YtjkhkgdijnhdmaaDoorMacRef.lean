/- kilowattref05.Of. -/
import Derived.Test.YtjkhkgdijnhdmaaDoorMacOps
import Derived.Test.YtjkhkgdijnhdmaaDoorShaRefOf
namespace Go.Proofs.YtjkhkgdijnhdmaaDoor
open Go.RowKit

/-- The first k bytes, and noughts. -/
def fillS (l : List Nat) (k : Nat) : List Nat := l.take k ++ List.replicate (64 - k) 0
theorem fillS_zero (l : List Nat) : fillS l 0 = z64 := rfl
theorem fillS_end (l : List Nat) (k : Nat) (h : k = l.length) : fillS l k = fill64 l := by
  subst h; simp [fillS, fill64]
theorem fillS_get (l : List Nat) (k : Nat) (h : k < 64) (hk : k ≤ l.length) : (fillS l k)[k]? = some 0 := by
  unfold fillS
  rw [List.getElem?_append_right (by rw [List.length_take]; omega), List.length_take, Nat.min_eq_left hk, Nat.sub_self, List.getElem?_replicate, if_pos (by omega)]
theorem fillS_set (l : List Nat) (k x : Nat) (h : k < 64) (hx : l[k]? = some x) : (fillS l k).set k x = fillS l (k + 1) := by
  have hk : k < l.length := (List.getElem?_eq_some_iff.1 hx).1
  unfold fillS
  obtain ⟨m, hm⟩ : ∃ m, 64 - k = m + 1 := ⟨64 - (k + 1), by omega⟩
  have hm2 : 64 - (k + 1) = m := by omega
  rw [hm, hm2, List.replicate_succ, List.take_add_one, hx, List.set_append_right _ _ (by rw [List.length_take]; omega), List.length_take, Nat.min_eq_left (by omega), Nat.sub_self]
  simp
theorem mpad_get (K : List Nat) (x k y : Nat) (h : K[k]? = some y) : (mpad K x)[k]? = some (y ^^^ x) := by simp [mpad, h]
theorem take_snoc (l : List Nat) (k x : Nat) (h : l[k]? = some x) : nI (l.take k) ++ [(x : Int)] = nI (l.take (k + 1)) := by
  rw [List.take_add_one, h]; simp [nI]
theorem make64 (w : World) : (Instr.makeSlice 27 (.int .i64 64) (.int .i64 64)).run Tryd.prog w = .ok (.slice (some ⟨w.heap.size, 0, none⟩) 64 64) (w.alloc (.cells (arr8 z64) 5)) := by
  kernel_rfl
set_option maxRecDepth 100000 in
set_option maxHeartbeats 8000000 in
theorem of_ref5 (A : Option Addr) (cap : Nat) (key : List Nat) (A2 : Option Addr) (cap2 : Nat) (bs : List Nat) (w : World)
    (hR : SlI w w.heap.size .u8 A key.length cap (nI key)) (hki : ∀ x ∈ key, x < 256) (hkm : key.length ≤ 800000) (hR2 : SlI w w.heap.size .u8 A2 bs.length cap2 (nI bs)) (hbi : ∀ x ∈ bs, x < 256) (hbm : bs.length ≤ 800000) :
    Calls Tryd.prog 27 #[.slice A key.length cap, .slice A2 bs.length cap2] w fun e w' => e = .returned (.agg (arr8 (mtag (mkey key) bs))) ∧ Below w.heap.size w w' := by
  obtain ⟨i0, hi0, hz0, hz1, hz2⟩ := info_parts infoB
  have hmk := make64
  obtain ⟨w1, hw1⟩ : ∃ w1, (w.alloc (.cells (arr8 zz32) 35)).alloc (.cells (arr8 z64) 5) = w1 := ⟨_, rfl⟩
  have hb1 : Below w.heap.size w w1 := by rw [← hw1]; exact ((Below.refl _ w).alloc (Nat.le_refl _) _).alloc (by simp) _
  have hO1 : Held w1 w.heap.size 35 (arr8 zz32) := by rw [← hw1]; exact (Held.new w _ _).alloc _
  have hX1 : Held w1 (w.heap.size + 1) 5 (arr8 z64) := by rw [← hw1]; have := Held.new (w.alloc (.cells (arr8 zz32) 35)) 5 (arr8 z64); rw [World.size_alloc] at this; exact this
  have hq1 : w1.heap.size = w.heap.size + 2 := by rw [← hw1]; simp
  have HKI := Lib.hid (mkey_in key hki)
  have HKL := Lib.hid (mkey_len key)
  have HR := Lib.hid hR
  have HR2 := Lib.hid hR2
  have HKY := Lib.hid hki
  have HBI := Lib.hid hbi
  clear hR hR2 hki hbi
  by_cases hl : 64 < key.length
  · have hk : mkey key = fill64 (Sh.digest key) := by unfold mkey; rw [if_pos hl]
    have ko := of_ref A cap key w1 (HR.out.up hb1) HKY.out (by omega)
    obtain ⟨D, hD⟩ : ∃ D, Sh.digest key = D := ⟨_, rfl⟩
    have hdl : D.length = 32 := by rw [← hD]; exact Sh.digest_len _
    rw [hD] at ko hk
    have HO := Lib.hid ko
    have HKE := Lib.hid hk
    clear ko hk hD
    go_in
    go_wp2_with fail
    change Calls _ _ _ ((w.alloc (.cells (arr8 zz32) 35)).alloc (.cells (arr8 z64) 5)) _
    rw [hw1]
    refine HO.out.mono ?_
    rintro e w2 ⟨rfl, hb2⟩
    obtain ⟨w3, hw3⟩ : ∃ w3, w2.alloc (.cells (arr8 D) 35) = w3 := ⟨_, rfl⟩
    have hb3 : Below w1.heap.size w1 w3 := by rw [← hw3]; exact hb2.alloc hb2.size _
    have hH3 : Held w3 w2.heap.size 35 (arr8 D) := by rw [← hw3]; exact Held.new _ _ _
    have hX3 := hX1.below hb3 (by omega)
    have hO3 := hO1.below hb3 (by omega)
    have hb3w := hb1.trans (hb3.mono (by omega))
    have hzz2 := hb2.size
    have hzz3 : w3.heap.size = w2.heap.size + 1 := by rw [← hw3]; simp
    have hsD := hash_size D hdl
    have hs0 : (arr8 zz32).size = (arr8 D).size := by rw [arr8_size, arr8_size, hdl]; rfl
    clear hX1 hO1 hb1 hb2
    go_wp2_with (first
      | (refine wpList_store_row rfl 35 (.tmp 6) (.tmp 19) rfl w2.heap.size (arr8 D) rfl rfl 35 (arr8 zz32) (heap_alloc_new w2 _) hsD hs0 (arr8_one _) ?_
         rw [World.setRow_alloc_new, hw3])
      | fail)
    go_loopw [7] (fun u7 wx => ∃ k : Nat, k ≤ 32 ∧ u7 = .int .i64 k ∧ Held wx (w.heap.size + 1) 5 (arr8 (fillS D k)) ∧ Held wx w2.heap.size 35 (arr8 D) ∧ Held wx w.heap.size 35 (arr8 zz32) ∧ Below w.heap.size w wx) (fun i _ => 32 - (intOf i).toNat)
    case atStart => exact ⟨0, by omega, rfl, by rw [fillS_zero]; exact hX3, hH3, hO3, hb3w⟩
    case round =>
      clear hX3 hH3 hO3 hb3w hb3 hw3
      obtain ⟨k, hk, rfl, hX, hH, hO, hbx⟩ := hrel
      by_cases hlt : k < 32
      · obtain ⟨x, hx⟩ : ∃ x, D[k]? = some x := ⟨_, List.getElem?_eq_getElem (by omega)⟩
        have hc6 : wr.cell? ⟨w2.heap.size, k, none⟩ = some (.int .u8 (x : Int)) := (hH.cell k).trans (arr8_at _ _ _ hx)
        have hck : wr.cell? ⟨w.heap.size + 1, k, none⟩ = some (.int .u8 ((0 : Nat) : Int)) := (hX.cell k).trans (arr8_at _ _ _ (fillS_get D k (by omega) (by omega)))
        have hfk := hX.frozen k
        have hX2 := hX.set k (.int .u8 (x : Int))
        rw [arr8_set, fillS_set D k x (by omega) hx] at hX2
        have hH2 := hH.far (p := ⟨w.heap.size + 1, k, none⟩) (by show w2.heap.size ≠ w.heap.size + 1; omega) (.int .u8 (x : Int))
        have hO2 := hO.far (p := ⟨w.heap.size + 1, k, none⟩) (by show w.heap.size ≠ w.heap.size + 1; omega) (.int .u8 (x : Int))
        have hb2 := hbx.setCell (p := ⟨w.heap.size + 1, k, none⟩) (by show w.heap.size ≤ w.heap.size + 1; omega) (.int .u8 (x : Int))
        clear hX hH hO hbx hx
        go_wp2
        exact ⟨⟨k + 1, by omega, by go_num, hX2, hH2, hO2, hb2⟩, by simp [intOf]; omega⟩
      · obtain rfl : k = 32 := by omega
        have hXK : Held wr (w.heap.size + 1) 5 (arr8 (mkey key)) := by rw [HKE.out, ← fillS_end D 32 hdl.symm]; exact hX
        clear hX hH
        go_wp2_with fail
        obtain ⟨K, hKK⟩ : ∃ K, mkey key = K := ⟨_, rfl⟩
        have HKK := Lib.hid hKK
        have hkl := HKL.out
        have hki := HKI.out
        rw [hKK] at hXK hkl hki
        have HKI2 := Lib.hid hki
        clear hKK hki
        obtain ⟨wq, rfl⟩ : ∃ wq, wq = wr := ⟨wr, rfl⟩
        have hKB := hXK.lt
        have m54 : (mpad K 54).length = 64 := by rw [mpad_len]; exact hkl
        have m92 : (mpad K 92).length = 64 := by rw [mpad_len]; exact hkl
        have M54 := Lib.hid m54
        have M92 := Lib.hid m92
        clear m54 m92
        go_loopw [9, 10, 11] (fun u9 u10 u11 wx => ∃ (k : Nat) (A9 A10 : Option Addr) (c9 c10 : Nat), k ≤ 64 ∧ u9 = .slice A9 k c9 ∧ u10 = .slice A10 k c10 ∧ u11 = .int .i64 k ∧ wx.ownsRow wq.heap.size 5 1 (.slice A9 k c9) k ((nI ((mpad K 54).take k)).map (Value.int .u8)) ∧ wx.ownsRow wq.heap.size 5 1 (.slice A10 k c10) k ((nI ((mpad K 92).take k)).map (Value.int .u8)) ∧ (∀ b, (Value.slice A9 k c9).ownBlock = some b → (Value.slice A10 k c10).ownBlock ≠ some b) ∧ Below wq.heap.size wq wx) (fun _ _ i _ => 64 - (intOf i).toNat)
        case atStart => exact ⟨0, none, none, 0, 0, by omega, rfl, rfl, rfl, World.ownsRow_nil _ _ _ _, World.ownsRow_nil _ _ _ _, fun b e => by simp [Value.ownBlock] at e, Below.refl _ _⟩
        case round =>
          obtain ⟨k, A9, A10, c9, c10, hk, rfl, rfl, rfl, h9, h10, hsep, hbr⟩ := hrel
          have hzr := hbr.size
          by_cases hlt : k < 64
          · obtain ⟨y, hy⟩ : ∃ y, K[k]? = some y := ⟨_, List.getElem?_eq_getElem (by omega)⟩
            have hy256 := HKI2.out y (List.mem_of_getElem? hy)
            have hc : wr.cell? ⟨w.heap.size + 1, k, none⟩ = some (.int .u8 (y : Int)) := ((hbr.cell (p := ⟨w.heap.size + 1, k, none⟩) hKB).trans (hXK.cell k)).trans (arr8_at _ _ _ hy)
            obtain ⟨X, hX⟩ : ∃ X, y ^^^ 54 = X := ⟨_, rfl⟩
            obtain ⟨Y, hY⟩ : ∃ Y, y ^^^ 92 = Y := ⟨_, rfl⟩
            have hx54 : bits BinOp.xor IntKind.u8 (y : Int) 54 = (X : Int) := by rw [← hX]; exact u8_xor_nat y 54 hy256 (by decide)
            have hx92 : bits BinOp.xor IntKind.u8 (y : Int) 92 = (Y : Int) := by rw [← hY]; exact u8_xor_nat y 92 hy256 (by decide)
            have P9 := Lib.hid (take_snoc (mpad K 54) k X (by rw [← hX]; exact mpad_get K 54 k y hy))
            have P10 := Lib.hid (take_snoc (mpad K 92) k Y (by rw [← hY]; exact mpad_get K 92 k y hy))
            have L9 := Lib.hid h9.lt
            have L10 := Lib.hid h10.lt
            have h9a := own_same (w' := wr.alloc (.cells #[.int .u8 (X : Int)] 5)) h9 (fun b e => Lib.alloc_old wr _ b (L9.out b e).2)
            have sX : SlI (wr.alloc (.cells #[.int .u8 (X : Int)] 5)) (wr.alloc (.cells #[.int .u8 (X : Int)] 5)).heap.size .u8 (some ⟨wr.heap.size, 0, none⟩) 1 1 [(X : Int)] := SlI.lit_at rfl rfl rfl (by omega)
            have HM := Lib.hid (show k + 1 ≤ maxLen ∧ (k + 1) * 1 ≤ 140737488355328 ∧ wq.heap.size ≤ (wr.alloc (.cells #[.int .u8 (X : Int)] 5)).heap.size by unfold maxLen; simp; omega)
            have HSEP := Lib.hid hsep
            clear hX hY hsep
            go_wp2_with (first
              | (rw [hx54])
              | (rw [hx92])
              | ((with_reducible refine at_append ?_); refine wpList_append_sl (wr.alloc (.cells #[.int .u8 (X : Int)] 5)) rfl (.tmp 47) (.tmp 53) 27 rfl wq.heap.size 5 i0 (.int .u8 0) 1 Tryd.underlying27 hi0 hz0 hz1 hz2 rfl (.slice A9 k c9) k _ rfl h9a _ .u8 (some ⟨wr.heap.size, 0, none⟩) 1 1 [(X : Int)] rfl sX HM.out.1 HM.out.2.1 HM.out.2.2 ?_
                 intro v7 w7 hO7 hg7 hv7
                 rw [← List.map_append, P9.out] at hO7
                 obtain ⟨A7, c7, rfl, hs7⟩ := SlI.of_own hO7
                 have hz7 := hg7.size
                 have hb7 : Below wq.heap.size wq w7 := (hbr.alloc hzr _).grown hg7 (by simp; omega) (fun b e => (L9.out b e).1)
                 have hc7 : w7.cell? ⟨w.heap.size + 1, k, none⟩ = some (.int .u8 (y : Int)) := ((hb7.cell (p := ⟨w.heap.size + 1, k, none⟩) hKB).trans (hXK.cell k)).trans (arr8_at _ _ _ hy)
                 have h10b := own_same (w' := w7) h10 (fun b e => (hg7.block b (by have := (L10.out b e).2; simp; omega) (fun e' => HSEP.out b e'.symm e)).trans (Lib.alloc_old wr _ b (L10.out b e).2))
                 have h10a := own_same (w' := w7.alloc (.cells #[.int .u8 (Y : Int)] 5)) h10b (fun b e => Lib.alloc_old w7 _ b (by have := (L10.out b e).2; simp at hz7; omega))
                 have sY : SlI (w7.alloc (.cells #[.int .u8 (Y : Int)] 5)) (w7.alloc (.cells #[.int .u8 (Y : Int)] 5)).heap.size .u8 (some ⟨w7.heap.size, 0, none⟩) 1 1 [(Y : Int)] := SlI.lit_at rfl rfl rfl (by omega)
                 have HM7 := Lib.hid (show k + 1 ≤ maxLen ∧ (k + 1) * 1 ≤ 140737488355328 ∧ wq.heap.size ≤ (w7.alloc (.cells #[.int .u8 (Y : Int)] 5)).heap.size by unfold maxLen; simp at hz7 ⊢; omega))
              | ((with_reducible refine at_append ?_); refine wpList_append_sl (w7.alloc (.cells #[.int .u8 (Y : Int)] 5)) rfl (.tmp 55) (.tmp 61) 27 rfl wq.heap.size 5 i0 (.int .u8 0) 1 Tryd.underlying27 hi0 hz0 hz1 hz2 rfl (.slice A10 k c10) k _ rfl h10a _ .u8 (some ⟨w7.heap.size, 0, none⟩) 1 1 [(Y : Int)] rfl sY HM7.out.1 HM7.out.2.1 HM7.out.2.2 ?_
                 intro v8 w8 hO8 hg8 hv8
                 rw [← List.map_append, P10.out] at hO8
                 obtain ⟨A8, c8, rfl, hs8⟩ := SlI.of_own hO8)
              | fail)
            have hz8 := hg8.size
            have l7 := hO7.lt
            have hd78 : ∀ b, (Value.slice A7 (k + 1) c7).ownBlock = some b → (Value.slice A10 k c10).ownBlock ≠ some b := fun b e e' => by
              rcases hv7 with h | h
              · exact HSEP.out b (h.symm.trans e) e'
              · rw [h] at e; have := Option.some.inj e; have := (L10.out b e').2; simp at *; omega
            have hO7b := own_same (w' := w8) hO7 (fun b e => (hg8.block b (by have := (l7 b e).2; simp; omega) (fun e' => hd78 b e e'.symm)).trans (Lib.alloc_old w7 _ b (l7 b e).2))
            have hb8 : Below wq.heap.size wq w8 := (hb7.alloc (by have := hb7.size; omega) _).grown hg8 (by have := hb7.size; simp; omega) (fun b e => (L10.out b e).1)
            have hsep8 : ∀ b, (Value.slice A7 (k + 1) c7).ownBlock = some b → (Value.slice A8 (k + 1) c8).ownBlock ≠ some b := fun b e e' => by
              rcases hv8 with h | h
              · exact hd78 b e (h.symm.trans e')
              · rw [h] at e'
                have := Option.some.inj e'
                have := (l7 b e).2
                simp at *
                omega
            go_roundw
            case rel => first | exact ⟨k + 1, A7, A8, c7, c8, by omega, rfl, rfl, by go_num, hO7b, hO8, hsep8, hb8⟩ | exact ⟨_, _, _, _, _, _, _, _, _, _, _, _, _, _, _, _, _, _, _, _, _, _, _, ⟨k + 1, A7, A8, c7, c8, by omega, rfl, rfl, by go_num, hO7b, hO8, hsep8, hb8⟩, rfl⟩
            case measure => simp [intOf]; omega
          · obtain rfl : k = 64 := by omega
            rw [List.take_of_length_le (by rw [M54.out]; omega)] at h9
            rw [List.take_of_length_le (by rw [M92.out]; omega)] at h10
            have hbw5 : Below w.heap.size w wr := hbx.trans (hbr.mono (by have := hbx.size; omega))
            have sB := HR2.out.up hbw5
            have L10 := Lib.hid h10.lt
            have L9 := Lib.hid h9.lt
            have HM := Lib.hid (show 64 + bs.length ≤ maxLen ∧ (64 + bs.length) * 1 ≤ 140737488355328 ∧ wq.heap.size ≤ wr.heap.size by unfold maxLen; omega)
            have hbwq := hbx.size
            go_wp2_with (first
              | ((with_reducible refine at_append ?_); refine wpList_append_sl wr rfl (.tmp 63) (.tmp 64) 27 rfl wq.heap.size 5 i0 (.int .u8 0) 1 Tryd.underlying27 hi0 hz0 hz1 hz2 rfl (.slice A9 64 c9) 64 _ rfl h9 _ .u8 A2 bs.length cap2 (nI bs) rfl sB HM.out.1 HM.out.2.1 HM.out.2.2 ?_
                 intro v5 w5 hO5 hg5 hv5
                 rw [← List.map_append, show nI (mpad K 54) ++ nI bs = nI (mpad K 54 ++ bs) by simp [nI]] at hO5
                 obtain ⟨A5, c5, rfl, hs5⟩ := SlI.of_own hO5)
              | fail)
            have hz5 := hg5.size
            have hb5 : Below wq.heap.size wq w5 := hbr.grown hg5 hzr (fun b e => (L9.out b e).1)
            have h10b := own_same (w' := w5) h10 (fun b e => hg5.block b (L10.out b e).2 (fun e' => hsep b e'.symm e))
            rw [show 64 + bs.length = (mpad K 54 ++ bs).length by rw [List.length_append, M54.out]] at hs5 ⊢
            have k5 := of_ref A5 c5 (mpad K 54 ++ bs) w5 hs5 (fun x hx => (List.mem_append.1 hx).elim (mpad_in K 54 HKI2.out (by decide) x) (HBI.out x)) (by rw [List.length_append, M54.out]; omega)
            obtain ⟨D1, hD1⟩ : ∃ D, Sh.digest (mpad K 54 ++ bs) = D := ⟨_, rfl⟩
            have hdl1 : D1.length = 32 := by rw [← hD1]; exact Sh.digest_len _
            have hdi1 : ∀ x ∈ D1, x < 256 := by rw [← hD1]; exact Sh.digest_in _
            rw [hD1] at k5
            have HD1 := Lib.hid hD1
            have HDI1 := Lib.hid hdi1
            have hsD1 := hash_size D1 hdl1
            have hs01 : (arr8 zz32).size = (arr8 D1).size := by rw [arr8_size, arr8_size, hdl1]; rfl
            clear hD1 hdi1 h9 h10 hsep hO5 sB hs5
            refine k5.mono ?_
            rintro e w6 ⟨rfl, hb6⟩
            obtain ⟨w7, hw7⟩ : ∃ w7, w6.alloc (.cells (arr8 D1) 35) = w7 := ⟨_, rfl⟩
            have hb7 : Below w5.heap.size w5 w7 := by rw [← hw7]; exact hb6.alloc hb6.size _
            have hH7 : Held w7 w6.heap.size 35 (arr8 D1) := by rw [← hw7]; exact Held.new _ _ _
            have hz6 := hb6.size
            have hz7 : w7.heap.size = w6.heap.size + 1 := by rw [← hw7]; simp
            have h10c := own_up2 h10b hb7
            have hz75 := hb5.size
            have hb7q := hb5.trans (hb7.mono hz75)
            clear h10b hb6 hb7 hb5 k5
            go_wp2_with (first
              | (refine wpList_store_row rfl 35 (.tmp 12) (.tmp 67) rfl w6.heap.size (arr8 D1) rfl rfl 35 (arr8 zz32) (heap_alloc_new w6 _) hsD1 hs01 (arr8_one _) ?_
                 rw [World.setRow_alloc_new, hw7])
              | fail)
            have hwO := hO.lt
            clear HM L9 L10 hg5 hz5 hv5 hbr hzr hbw5 hw7
            go_loopw [10, 13] (fun u10 u13 wx => ∃ (k : Nat) (A10 : Option Addr) (c10 : Nat), k ≤ 32 ∧ u10 = .slice A10 (64 + k) c10 ∧ u13 = .int .i64 k ∧ wx.ownsRow wq.heap.size 5 1 (.slice A10 (64 + k) c10) (64 + k) ((nI (mpad K 92 ++ D1.take k)).map (Value.int .u8)) ∧ Held wx w6.heap.size 35 (arr8 D1) ∧ Below wq.heap.size wq wx) (fun _ i _ => 32 - (intOf i).toNat)
            case atStart => exact ⟨0, A10, c10, by omega, rfl, rfl, by simpa using h10c, hH7, hb7q⟩
            case round =>
              clear h10c hH7 hb7q
              obtain ⟨k, A10, c10, hk, rfl, rfl, h10, hH, hbr⟩ := hrel
              have hzr := hbr.size
              have L10 := Lib.hid h10.lt
              by_cases hlt : k < 32
              · obtain ⟨X, hX⟩ : ∃ X, D1[k]? = some X := ⟨_, List.getElem?_eq_getElem (by omega)⟩
                have hc : wr.cell? ⟨w6.heap.size, k, none⟩ = some (.int .u8 (X : Int)) := (hH.cell k).trans (arr8_at _ _ _ hX)
                have PD := Lib.hid (show nI (mpad K 92 ++ D1.take k) ++ [(X : Int)] = nI (mpad K 92 ++ D1.take (k + 1)) by rw [List.take_add_one, hX]; simp [nI])
                have h10a := own_same (w' := wr.alloc (.cells #[.int .u8 (X : Int)] 5)) h10 (fun b e => Lib.alloc_old wr _ b (L10.out b e).2)
                have hHa := hH.alloc (.cells #[.int .u8 (X : Int)] 5)
                have sX : SlI (wr.alloc (.cells #[.int .u8 (X : Int)] 5)) (wr.alloc (.cells #[.int .u8 (X : Int)] 5)).heap.size .u8 (some ⟨wr.heap.size, 0, none⟩) 1 1 [(X : Int)] := SlI.lit_at rfl rfl rfl (by omega)
                have HM := Lib.hid (show 64 + k + 1 ≤ maxLen ∧ (64 + k + 1) * 1 ≤ 140737488355328 ∧ wq.heap.size ≤ (wr.alloc (.cells #[.int .u8 (X : Int)] 5)).heap.size by unfold maxLen; simp; omega)
                clear hX
                go_wp2_with (first
                  | ((with_reducible refine at_append ?_); refine wpList_append_sl (wr.alloc (.cells #[.int .u8 (X : Int)] 5)) rfl (.tmp 72) (.tmp 76) 27 rfl wq.heap.size 5 i0 (.int .u8 0) 1 Tryd.underlying27 hi0 hz0 hz1 hz2 rfl (.slice A10 (64 + k) c10) (64 + k) _ rfl h10a _ .u8 (some ⟨wr.heap.size, 0, none⟩) 1 1 [(X : Int)] rfl sX HM.out.1 HM.out.2.1 HM.out.2.2 ?_
                     intro v8 w8 hO8 hg8 hv8
                     rw [← List.map_append, PD.out] at hO8
                     obtain ⟨A8, c8, rfl, hs8⟩ := SlI.of_own hO8)
                  | fail)
                have hH8 := hHa.kept hg8 (hHa.not_row (by decide) h10a)
                have hb8 : Below wq.heap.size wq w8 := (hbr.alloc hzr _).grown hg8 (by simp; omega) (fun b e => (L10.out b e).1)
                go_roundw
                case rel => first | exact ⟨k + 1, A8, c8, by omega, rfl, by go_num, hO8, hH8, hb8⟩ | exact ⟨_, _, _, _, _, _, _, _, _, _, _, _, ⟨k + 1, A8, c8, by omega, rfl, by go_num, hO8, hH8, hb8⟩, rfl⟩
                case measure => simp [intOf]; omega
              · obtain rfl : k = 32 := by omega
                rw [List.take_of_length_le (by omega)] at h10
                obtain ⟨_, _, e10, s10⟩ := SlI.of_own h10
                injection e10 with e1 e2 e3
                subst e1 e3
                have hln : (mpad K 92 ++ D1).length = 96 := by rw [List.length_append, M92.out, hdl1]
                have k6 := of_ref A10 c10 (mpad K 92 ++ D1) wr (by rw [hln]; exact s10) (fun x hx => (List.mem_append.1 hx).elim (mpad_in K 92 HKI2.out (by decide) x) (HDI1.out x)) (by rw [hln]; omega)
                rw [hln] at k6
                obtain ⟨D2, hD2⟩ : ∃ D, Sh.digest (mpad K 92 ++ D1) = D := ⟨_, rfl⟩
                have hdl2 : D2.length = 32 := by rw [← hD2]; exact Sh.digest_len _
                rw [hD2] at k6
                have HE2 := Lib.hid (show mtag (mkey key) bs = D2 by rw [HKK.out, ← hD2, ← HD1.out]; rfl)
                have hsD2 := hash_size D2 hdl2
                have hs02 : (arr8 zz32).size = (arr8 D2).size := by rw [arr8_size, arr8_size, hdl2]; rfl
                have HK6 := Lib.hid k6
                have hOr := hO.below hbr hwO
                have hbwr := hbx.trans (hbr.mono (by omega))
                clear hD2 k6 h10 s10 hln
                go_wp2_with fail
                refine HK6.out.mono ?_
                rintro e w8 ⟨rfl, hb8⟩
                have hO8 := hOr.below hb8 hOr.lt
                have hbw8 := hbwr.trans (hb8.mono (by have := hbwr.size; omega))
                go_wp2_with (refine wpList_store_row rfl 35 (.tmp 4) (.tmp 79) rfl w.heap.size (arr8 D2) rfl rfl 35 (arr8 zz32) hO8 hsD2 hs02 (arr8_one _) ?_)
                refine bodyPost_ret (v := .agg (arr8 D2)) (results_cell_row Tryd.results27 _ _ w.heap.size 35 (arr8 D2) (0, 0) _ rfl (setRow_heap _ _ _ _ _ _ hO8) Tryd.underlying35 rfl hsD2) rfl ⟨by rw [HE2.out], below_setRow hbw8 _ _ (Nat.le_refl _)⟩
  · have hk : mkey key = fill64 key := by unfold mkey; rw [if_neg hl]
    have HKE := Lib.hid hk
    have hl64 : key.length ≤ 64 := by omega
    have hsl := HR.out
    have hA0 : 0 < key.length → ∃ g off, A = some ⟨g, off, none⟩ := fun h => by obtain ⟨g, off, e, _⟩ := hsl.some_ h; exact ⟨g, off, e⟩
    clear hk hsl
    go_in
    go_wp2_with fail
    change Code.wp _ _ _ _ ((w.alloc (.cells (arr8 zz32) 35)).alloc (.cells (arr8 z64) 5))
    rw [hw1]
    go_loopw [8] (fun u8 wx => ∃ k : Nat, k ≤ key.length ∧ u8 = .int .i64 k ∧ Held wx (w.heap.size + 1) 5 (arr8 (fillS key k)) ∧ Held wx w.heap.size 35 (arr8 zz32) ∧ Below w.heap.size w wx) (fun i _ => key.length - (intOf i).toNat)
    case atStart => exact ⟨0, by omega, rfl, by rw [fillS_zero]; exact hX1, hO1, hb1⟩
    case round =>
      clear hX1 hO1 hb1
      obtain ⟨k, hk, rfl, hX, hO, hbx⟩ := hrel
      by_cases hlt : k < key.length
      · obtain ⟨ga, oa, rfl⟩ := hA0 (by omega)
        obtain ⟨x, hx⟩ : ∃ x, key[k]? = some x := ⟨_, List.getElem?_eq_getElem hlt⟩
        have hc6 : wr.cell? ⟨ga, oa + k, none⟩ = some (.int .u8 (x : Int)) := by
          obtain ⟨ad, e, hc⟩ := (HR.out.up hbx).src (by rw [nI_len]; omega)
          injection e with e; subst e
          have := hc k (.int .u8 (x : Int)) (by simp [nI, hx])
          rwa [Addr.add_mid] at this
        have hck : wr.cell? ⟨w.heap.size + 1, k, none⟩ = some (.int .u8 ((0 : Nat) : Int)) := (hX.cell k).trans (arr8_at _ _ _ (fillS_get key k (by omega) (by omega)))
        have hfk := hX.frozen k
        have hX2 := hX.set k (.int .u8 (x : Int))
        rw [arr8_set, fillS_set key k x (by omega) hx] at hX2
        have hO2 := hO.far (p := ⟨w.heap.size + 1, k, none⟩) (by show w.heap.size ≠ w.heap.size + 1; omega) (.int .u8 (x : Int))
        have hb2 := hbx.setCell (p := ⟨w.heap.size + 1, k, none⟩) (by show w.heap.size ≤ w.heap.size + 1; omega) (.int .u8 (x : Int))
        clear hX hO hbx hx
        go_wp2
        exact ⟨⟨k + 1, by omega, by go_num, hX2, hO2, hb2⟩, by simp [intOf]; omega⟩
      · obtain rfl : k = key.length := by omega
        have hXK : Held wr (w.heap.size + 1) 5 (arr8 (mkey key)) := by rw [HKE.out, ← fillS_end key key.length rfl]; exact hX
        clear hX
        go_wp2_with fail
        obtain ⟨K, hKK⟩ : ∃ K, mkey key = K := ⟨_, rfl⟩
        have HKK := Lib.hid hKK
        have hkl := HKL.out
        have hki := HKI.out
        rw [hKK] at hXK hkl hki
        have HKI2 := Lib.hid hki
        clear hKK hki
        obtain ⟨wq, rfl⟩ : ∃ wq, wq = wr := ⟨wr, rfl⟩
        have hKB := hXK.lt
        have m54 : (mpad K 54).length = 64 := by rw [mpad_len]; exact hkl
        have m92 : (mpad K 92).length = 64 := by rw [mpad_len]; exact hkl
        have M54 := Lib.hid m54
        have M92 := Lib.hid m92
        clear m54 m92
        go_loopw [9, 10, 11] (fun u9 u10 u11 wx => ∃ (k : Nat) (A9 A10 : Option Addr) (c9 c10 : Nat), k ≤ 64 ∧ u9 = .slice A9 k c9 ∧ u10 = .slice A10 k c10 ∧ u11 = .int .i64 k ∧ wx.ownsRow wq.heap.size 5 1 (.slice A9 k c9) k ((nI ((mpad K 54).take k)).map (Value.int .u8)) ∧ wx.ownsRow wq.heap.size 5 1 (.slice A10 k c10) k ((nI ((mpad K 92).take k)).map (Value.int .u8)) ∧ (∀ b, (Value.slice A9 k c9).ownBlock = some b → (Value.slice A10 k c10).ownBlock ≠ some b) ∧ Below wq.heap.size wq wx) (fun _ _ i _ => 64 - (intOf i).toNat)
        case atStart => exact ⟨0, none, none, 0, 0, by omega, rfl, rfl, rfl, World.ownsRow_nil _ _ _ _, World.ownsRow_nil _ _ _ _, fun b e => by simp [Value.ownBlock] at e, Below.refl _ _⟩
        case round =>
          obtain ⟨k, A9, A10, c9, c10, hk, rfl, rfl, rfl, h9, h10, hsep, hbr⟩ := hrel
          have hzr := hbr.size
          by_cases hlt : k < 64
          · obtain ⟨y, hy⟩ : ∃ y, K[k]? = some y := ⟨_, List.getElem?_eq_getElem (by omega)⟩
            have hy256 := HKI2.out y (List.mem_of_getElem? hy)
            have hc : wr.cell? ⟨w.heap.size + 1, k, none⟩ = some (.int .u8 (y : Int)) := ((hbr.cell (p := ⟨w.heap.size + 1, k, none⟩) hKB).trans (hXK.cell k)).trans (arr8_at _ _ _ hy)
            obtain ⟨X, hX⟩ : ∃ X, y ^^^ 54 = X := ⟨_, rfl⟩
            obtain ⟨Y, hY⟩ : ∃ Y, y ^^^ 92 = Y := ⟨_, rfl⟩
            have hx54 : bits BinOp.xor IntKind.u8 (y : Int) 54 = (X : Int) := by rw [← hX]; exact u8_xor_nat y 54 hy256 (by decide)
            have hx92 : bits BinOp.xor IntKind.u8 (y : Int) 92 = (Y : Int) := by rw [← hY]; exact u8_xor_nat y 92 hy256 (by decide)
            have P9 := Lib.hid (take_snoc (mpad K 54) k X (by rw [← hX]; exact mpad_get K 54 k y hy))
            have P10 := Lib.hid (take_snoc (mpad K 92) k Y (by rw [← hY]; exact mpad_get K 92 k y hy))
            have L9 := Lib.hid h9.lt
            have L10 := Lib.hid h10.lt
            have h9a := own_same (w' := wr.alloc (.cells #[.int .u8 (X : Int)] 5)) h9 (fun b e => Lib.alloc_old wr _ b (L9.out b e).2)
            have sX : SlI (wr.alloc (.cells #[.int .u8 (X : Int)] 5)) (wr.alloc (.cells #[.int .u8 (X : Int)] 5)).heap.size .u8 (some ⟨wr.heap.size, 0, none⟩) 1 1 [(X : Int)] := SlI.lit_at rfl rfl rfl (by omega)
            have HM := Lib.hid (show k + 1 ≤ maxLen ∧ (k + 1) * 1 ≤ 140737488355328 ∧ wq.heap.size ≤ (wr.alloc (.cells #[.int .u8 (X : Int)] 5)).heap.size by unfold maxLen; simp; omega)
            have HSEP := Lib.hid hsep
            clear hX hY hsep
            go_wp2_with (first
              | (rw [hx54])
              | (rw [hx92])
              | ((with_reducible refine at_append ?_); refine wpList_append_sl (wr.alloc (.cells #[.int .u8 (X : Int)] 5)) rfl (.tmp 47) (.tmp 53) 27 rfl wq.heap.size 5 i0 (.int .u8 0) 1 Tryd.underlying27 hi0 hz0 hz1 hz2 rfl (.slice A9 k c9) k _ rfl h9a _ .u8 (some ⟨wr.heap.size, 0, none⟩) 1 1 [(X : Int)] rfl sX HM.out.1 HM.out.2.1 HM.out.2.2 ?_
                 intro v7 w7 hO7 hg7 hv7
                 rw [← List.map_append, P9.out] at hO7
                 obtain ⟨A7, c7, rfl, hs7⟩ := SlI.of_own hO7
                 have hz7 := hg7.size
                 have hb7 : Below wq.heap.size wq w7 := (hbr.alloc hzr _).grown hg7 (by simp; omega) (fun b e => (L9.out b e).1)
                 have hc7 : w7.cell? ⟨w.heap.size + 1, k, none⟩ = some (.int .u8 (y : Int)) := ((hb7.cell (p := ⟨w.heap.size + 1, k, none⟩) hKB).trans (hXK.cell k)).trans (arr8_at _ _ _ hy)
                 have h10b := own_same (w' := w7) h10 (fun b e => (hg7.block b (by have := (L10.out b e).2; simp; omega) (fun e' => HSEP.out b e'.symm e)).trans (Lib.alloc_old wr _ b (L10.out b e).2))
                 have h10a := own_same (w' := w7.alloc (.cells #[.int .u8 (Y : Int)] 5)) h10b (fun b e => Lib.alloc_old w7 _ b (by have := (L10.out b e).2; simp at hz7; omega))
                 have sY : SlI (w7.alloc (.cells #[.int .u8 (Y : Int)] 5)) (w7.alloc (.cells #[.int .u8 (Y : Int)] 5)).heap.size .u8 (some ⟨w7.heap.size, 0, none⟩) 1 1 [(Y : Int)] := SlI.lit_at rfl rfl rfl (by omega)
                 have HM7 := Lib.hid (show k + 1 ≤ maxLen ∧ (k + 1) * 1 ≤ 140737488355328 ∧ wq.heap.size ≤ (w7.alloc (.cells #[.int .u8 (Y : Int)] 5)).heap.size by unfold maxLen; simp at hz7 ⊢; omega))
              | ((with_reducible refine at_append ?_); refine wpList_append_sl (w7.alloc (.cells #[.int .u8 (Y : Int)] 5)) rfl (.tmp 55) (.tmp 61) 27 rfl wq.heap.size 5 i0 (.int .u8 0) 1 Tryd.underlying27 hi0 hz0 hz1 hz2 rfl (.slice A10 k c10) k _ rfl h10a _ .u8 (some ⟨w7.heap.size, 0, none⟩) 1 1 [(Y : Int)] rfl sY HM7.out.1 HM7.out.2.1 HM7.out.2.2 ?_
                 intro v8 w8 hO8 hg8 hv8
                 rw [← List.map_append, P10.out] at hO8
                 obtain ⟨A8, c8, rfl, hs8⟩ := SlI.of_own hO8)
              | fail)
            have hz8 := hg8.size
            have l7 := hO7.lt
            have hd78 : ∀ b, (Value.slice A7 (k + 1) c7).ownBlock = some b → (Value.slice A10 k c10).ownBlock ≠ some b := fun b e e' => by
              rcases hv7 with h | h
              · exact HSEP.out b (h.symm.trans e) e'
              · rw [h] at e; have := Option.some.inj e; have := (L10.out b e').2; simp at *; omega
            have hO7b := own_same (w' := w8) hO7 (fun b e => (hg8.block b (by have := (l7 b e).2; simp; omega) (fun e' => hd78 b e e'.symm)).trans (Lib.alloc_old w7 _ b (l7 b e).2))
            have hb8 : Below wq.heap.size wq w8 := (hb7.alloc (by have := hb7.size; omega) _).grown hg8 (by have := hb7.size; simp; omega) (fun b e => (L10.out b e).1)
            have hsep8 : ∀ b, (Value.slice A7 (k + 1) c7).ownBlock = some b → (Value.slice A8 (k + 1) c8).ownBlock ≠ some b := fun b e e' => by
              rcases hv8 with h | h
              · exact hd78 b e (h.symm.trans e')
              · rw [h] at e'
                have := Option.some.inj e'
                have := (l7 b e).2
                simp at *
                omega
            go_roundw
            case rel => first | exact ⟨k + 1, A7, A8, c7, c8, by omega, rfl, rfl, by go_num, hO7b, hO8, hsep8, hb8⟩ | exact ⟨_, _, _, _, _, _, _, _, _, _, _, _, _, _, _, _, _, _, _, _, _, _, _, ⟨k + 1, A7, A8, c7, c8, by omega, rfl, rfl, by go_num, hO7b, hO8, hsep8, hb8⟩, rfl⟩
            case measure => simp [intOf]; omega
          · obtain rfl : k = 64 := by omega
            rw [List.take_of_length_le (by rw [M54.out]; omega)] at h9
            rw [List.take_of_length_le (by rw [M92.out]; omega)] at h10
            have hbw5 : Below w.heap.size w wr := hbx.trans (hbr.mono (by have := hbx.size; omega))
            have sB := HR2.out.up hbw5
            have L10 := Lib.hid h10.lt
            have L9 := Lib.hid h9.lt
            have HM := Lib.hid (show 64 + bs.length ≤ maxLen ∧ (64 + bs.length) * 1 ≤ 140737488355328 ∧ wq.heap.size ≤ wr.heap.size by unfold maxLen; omega)
            have hbwq := hbx.size
            go_wp2_with (first
              | ((with_reducible refine at_append ?_); refine wpList_append_sl wr rfl (.tmp 63) (.tmp 64) 27 rfl wq.heap.size 5 i0 (.int .u8 0) 1 Tryd.underlying27 hi0 hz0 hz1 hz2 rfl (.slice A9 64 c9) 64 _ rfl h9 _ .u8 A2 bs.length cap2 (nI bs) rfl sB HM.out.1 HM.out.2.1 HM.out.2.2 ?_
                 intro v5 w5 hO5 hg5 hv5
                 rw [← List.map_append, show nI (mpad K 54) ++ nI bs = nI (mpad K 54 ++ bs) by simp [nI]] at hO5
                 obtain ⟨A5, c5, rfl, hs5⟩ := SlI.of_own hO5)
              | fail)
            have hz5 := hg5.size
            have hb5 : Below wq.heap.size wq w5 := hbr.grown hg5 hzr (fun b e => (L9.out b e).1)
            have h10b := own_same (w' := w5) h10 (fun b e => hg5.block b (L10.out b e).2 (fun e' => hsep b e'.symm e))
            rw [show 64 + bs.length = (mpad K 54 ++ bs).length by rw [List.length_append, M54.out]] at hs5 ⊢
            have k5 := of_ref A5 c5 (mpad K 54 ++ bs) w5 hs5 (fun x hx => (List.mem_append.1 hx).elim (mpad_in K 54 HKI2.out (by decide) x) (HBI.out x)) (by rw [List.length_append, M54.out]; omega)
            obtain ⟨D1, hD1⟩ : ∃ D, Sh.digest (mpad K 54 ++ bs) = D := ⟨_, rfl⟩
            have hdl1 : D1.length = 32 := by rw [← hD1]; exact Sh.digest_len _
            have hdi1 : ∀ x ∈ D1, x < 256 := by rw [← hD1]; exact Sh.digest_in _
            rw [hD1] at k5
            have HD1 := Lib.hid hD1
            have HDI1 := Lib.hid hdi1
            have hsD1 := hash_size D1 hdl1
            have hs01 : (arr8 zz32).size = (arr8 D1).size := by rw [arr8_size, arr8_size, hdl1]; rfl
            clear hD1 hdi1 h9 h10 hsep hO5 sB hs5
            refine k5.mono ?_
            rintro e w6 ⟨rfl, hb6⟩
            obtain ⟨w7, hw7⟩ : ∃ w7, w6.alloc (.cells (arr8 D1) 35) = w7 := ⟨_, rfl⟩
            have hb7 : Below w5.heap.size w5 w7 := by rw [← hw7]; exact hb6.alloc hb6.size _
            have hH7 : Held w7 w6.heap.size 35 (arr8 D1) := by rw [← hw7]; exact Held.new _ _ _
            have hz6 := hb6.size
            have hz7 : w7.heap.size = w6.heap.size + 1 := by rw [← hw7]; simp
            have h10c := own_up2 h10b hb7
            have hz75 := hb5.size
            have hb7q := hb5.trans (hb7.mono hz75)
            clear h10b hb6 hb7 hb5 k5
            go_wp2_with (first
              | (refine wpList_store_row rfl 35 (.tmp 12) (.tmp 67) rfl w6.heap.size (arr8 D1) rfl rfl 35 (arr8 zz32) (heap_alloc_new w6 _) hsD1 hs01 (arr8_one _) ?_
                 rw [World.setRow_alloc_new, hw7])
              | fail)
            have hwO := hO.lt
            clear HM L9 L10 hg5 hz5 hv5 hbr hzr hbw5 hw7
            go_loopw [10, 13] (fun u10 u13 wx => ∃ (k : Nat) (A10 : Option Addr) (c10 : Nat), k ≤ 32 ∧ u10 = .slice A10 (64 + k) c10 ∧ u13 = .int .i64 k ∧ wx.ownsRow wq.heap.size 5 1 (.slice A10 (64 + k) c10) (64 + k) ((nI (mpad K 92 ++ D1.take k)).map (Value.int .u8)) ∧ Held wx w6.heap.size 35 (arr8 D1) ∧ Below wq.heap.size wq wx) (fun _ i _ => 32 - (intOf i).toNat)
            case atStart => exact ⟨0, A10, c10, by omega, rfl, rfl, by simpa using h10c, hH7, hb7q⟩
            case round =>
              clear h10c hH7 hb7q
              obtain ⟨k, A10, c10, hk, rfl, rfl, h10, hH, hbr⟩ := hrel
              have hzr := hbr.size
              have L10 := Lib.hid h10.lt
              by_cases hlt : k < 32
              · obtain ⟨X, hX⟩ : ∃ X, D1[k]? = some X := ⟨_, List.getElem?_eq_getElem (by omega)⟩
                have hc : wr.cell? ⟨w6.heap.size, k, none⟩ = some (.int .u8 (X : Int)) := (hH.cell k).trans (arr8_at _ _ _ hX)
                have PD := Lib.hid (show nI (mpad K 92 ++ D1.take k) ++ [(X : Int)] = nI (mpad K 92 ++ D1.take (k + 1)) by rw [List.take_add_one, hX]; simp [nI])
                have h10a := own_same (w' := wr.alloc (.cells #[.int .u8 (X : Int)] 5)) h10 (fun b e => Lib.alloc_old wr _ b (L10.out b e).2)
                have hHa := hH.alloc (.cells #[.int .u8 (X : Int)] 5)
                have sX : SlI (wr.alloc (.cells #[.int .u8 (X : Int)] 5)) (wr.alloc (.cells #[.int .u8 (X : Int)] 5)).heap.size .u8 (some ⟨wr.heap.size, 0, none⟩) 1 1 [(X : Int)] := SlI.lit_at rfl rfl rfl (by omega)
                have HM := Lib.hid (show 64 + k + 1 ≤ maxLen ∧ (64 + k + 1) * 1 ≤ 140737488355328 ∧ wq.heap.size ≤ (wr.alloc (.cells #[.int .u8 (X : Int)] 5)).heap.size by unfold maxLen; simp; omega)
                clear hX
                go_wp2_with (first
                  | ((with_reducible refine at_append ?_); refine wpList_append_sl (wr.alloc (.cells #[.int .u8 (X : Int)] 5)) rfl (.tmp 72) (.tmp 76) 27 rfl wq.heap.size 5 i0 (.int .u8 0) 1 Tryd.underlying27 hi0 hz0 hz1 hz2 rfl (.slice A10 (64 + k) c10) (64 + k) _ rfl h10a _ .u8 (some ⟨wr.heap.size, 0, none⟩) 1 1 [(X : Int)] rfl sX HM.out.1 HM.out.2.1 HM.out.2.2 ?_
                     intro v8 w8 hO8 hg8 hv8
                     rw [← List.map_append, PD.out] at hO8
                     obtain ⟨A8, c8, rfl, hs8⟩ := SlI.of_own hO8)
                  | fail)
                have hH8 := hHa.kept hg8 (hHa.not_row (by decide) h10a)
                have hb8 : Below wq.heap.size wq w8 := (hbr.alloc hzr _).grown hg8 (by simp; omega) (fun b e => (L10.out b e).1)
                go_roundw
                case rel => first | exact ⟨k + 1, A8, c8, by omega, rfl, by go_num, hO8, hH8, hb8⟩ | exact ⟨_, _, _, _, _, _, _, _, _, _, _, _, ⟨k + 1, A8, c8, by omega, rfl, by go_num, hO8, hH8, hb8⟩, rfl⟩
                case measure => simp [intOf]; omega
              · obtain rfl : k = 32 := by omega
                rw [List.take_of_length_le (by omega)] at h10
                obtain ⟨_, _, e10, s10⟩ := SlI.of_own h10
                injection e10 with e1 e2 e3
                subst e1 e3
                have hln : (mpad K 92 ++ D1).length = 96 := by rw [List.length_append, M92.out, hdl1]
                have k6 := of_ref A10 c10 (mpad K 92 ++ D1) wr (by rw [hln]; exact s10) (fun x hx => (List.mem_append.1 hx).elim (mpad_in K 92 HKI2.out (by decide) x) (HDI1.out x)) (by rw [hln]; omega)
                rw [hln] at k6
                obtain ⟨D2, hD2⟩ : ∃ D, Sh.digest (mpad K 92 ++ D1) = D := ⟨_, rfl⟩
                have hdl2 : D2.length = 32 := by rw [← hD2]; exact Sh.digest_len _
                rw [hD2] at k6
                have HE2 := Lib.hid (show mtag (mkey key) bs = D2 by rw [HKK.out, ← hD2, ← HD1.out]; rfl)
                have hsD2 := hash_size D2 hdl2
                have hs02 : (arr8 zz32).size = (arr8 D2).size := by rw [arr8_size, arr8_size, hdl2]; rfl
                have HK6 := Lib.hid k6
                have hOr := hO.below hbr hwO
                have hbwr := hbx.trans (hbr.mono (by omega))
                clear hD2 k6 h10 s10 hln
                go_wp2_with fail
                refine HK6.out.mono ?_
                rintro e w8 ⟨rfl, hb8⟩
                have hO8 := hOr.below hb8 hOr.lt
                have hbw8 := hbwr.trans (hb8.mono (by have := hbwr.size; omega))
                go_wp2_with (refine wpList_store_row rfl 35 (.tmp 4) (.tmp 79) rfl w.heap.size (arr8 D2) rfl rfl 35 (arr8 zz32) hO8 hsD2 hs02 (arr8_one _) ?_)
                refine bodyPost_ret (v := .agg (arr8 D2)) (results_cell_row Tryd.results27 _ _ w.heap.size 35 (arr8 D2) (0, 0) _ rfl (setRow_heap _ _ _ _ _ _ hO8) Tryd.underlying35 rfl hsD2) rfl ⟨by rw [HE2.out], below_setRow hbw8 _ _ (Nat.le_refl _)⟩
end Go.Proofs.YtjkhkgdijnhdmaaDoor
