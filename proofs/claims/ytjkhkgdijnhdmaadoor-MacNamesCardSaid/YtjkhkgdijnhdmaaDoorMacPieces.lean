/- The law MacPieces. -/
import Derived.Test.YtjkhkgdijnhdmaaDoorMacKeys
namespace Go.Proofs.YtjkhkgdijnhdmaaDoor
open Go.RowKit

theorem MacAt.belowP {w w' : World} {B gm gs : Nat} {v : Value} {K all : List Nat} (h : MacAt w B gm gs v K all) (hb : Below w.heap.size w w') : MacAt w' B gm gs v K all :=
  ⟨h.held.below hb h.held.lt, h.len, h.lt, h.low, h.ne, h.nv, h.sha.below hb⟩
/-- Another's writing leaves this one. -/
theorem MacAt.apart {w w' : World} {B gm gs : Nat} {v v' : Value} {K all : List Nat} {g' : Nat} (h : MacAt w B gm gs v K all) (hK : KeepW w w' g' v') (h1 : gm ≠ g') (h2 : some gm ≠ v'.ownBlock) (h3 : gs ≠ g') (h4 : some gs ≠ v'.ownBlock) (h5 : ∀ b, v.ownBlock = some b → b ≠ g' ∧ some b ≠ v'.ownBlock) : MacAt w' B gm gs v K all :=
  ⟨(hK.block gm h.held.lt h1 h2).trans h.held, h.len, h.lt, h.low, h.ne, h.nv, h.sha.apart hK h3 h4 h5⟩
set_option maxRecDepth 100000 in
set_option maxHeartbeats 8000000 in
theorem law_mpieces (A0 : Option Addr) (c0 : Nat) (key : List Nat) (A1 : Option Addr) (c1 : Nat) (xa : List Nat) (A2 : Option Addr) (c2 : Nat) (xb : List Nat) (w : World) (hT : Tab w 0 .u32 firstI) (hT2 : Tab w 1 .u32 kI)
    (h0 : SlI w w.heap.size .u8 A0 key.length c0 (nI key)) (h0i : ∀ x ∈ key, x < 256) (h1 : SlI w w.heap.size .u8 A1 xa.length c1 (nI xa)) (h1i : ∀ x ∈ xa, x < 256) (h2 : SlI w w.heap.size .u8 A2 xb.length c2 (nI xb)) (h2i : ∀ x ∈ xb, x < 256) :
    Calls Tryd.prog 11 #[.slice A0 key.length c0, .slice A1 xa.length c1, .slice A2 xb.length c2] w fun e w' => e = .returned (.bool true) ∧ Below w.heap.size w w' := by
  have HAL := Lib.hid (alive5_own w hT hT2)
  by_cases hg : 300 < key.length ∨ 500 < xa.length ∨ 500 < xb.length
  · clear hT hT2 h0 h2 h0i h2i h1 h1i
    by_cases h3 : 300 < key.length
    · go_in
      go_wp2_with fail
      refine HAL.out.mono ?_
      rintro e w1 ⟨rfl, hb1⟩
      go_wp2
      go_ret
      exact ⟨rfl, hb1⟩
    · by_cases h4 : 500 < xa.length
      · go_in
        go_wp2_with fail
        refine HAL.out.mono ?_
        rintro e w1 ⟨rfl, hb1⟩
        go_wp2
        go_ret
        exact ⟨rfl, hb1⟩
      · have h5 : 500 < xb.length := by omega
        go_in
        go_wp2_with fail
        refine HAL.out.mono ?_
        rintro e w1 ⟨rfl, hb1⟩
        go_wp2
        go_ret
        exact ⟨rfl, hb1⟩
  · have h3 : key.length ≤ 300 := by omega
    have h4 : xa.length ≤ 500 := by omega
    have h5 : xb.length ≤ 500 := by omega
    obtain ⟨i0, hi0, hz0, hz1, hz2⟩ := info_parts infoB
    have hf := hT.lt (by decide)
    have hk := hT2.lt (by decide)
    have HTB := Lib.hid (fun (W : World) (h : Below w.heap.size w W) => And.intro (hT.up h) (hT2.up h))
    have H0 := Lib.hid (fun (W : World) (h : Below w.heap.size w W) => h0.up h)
    have H1 := Lib.hid (fun (W : World) (h : Below w.heap.size w W) => h1.up h)
    have H2 := Lib.hid (fun (W : World) (h : Below w.heap.size w W) => h2.up h)
    have H0I := Lib.hid h0i
    have H1I := Lib.hid h1i
    have H2I := Lib.hid h2i
    obtain ⟨P, hP⟩ : ∃ D, mtag (mkey key) xa = D := ⟨_, rfl⟩
    obtain ⟨Q, hQ⟩ : ∃ D, mtag (mkey key) (xa ++ xb) = D := ⟨_, rfl⟩
    have hPl : P.length = 32 := by rw [← hP]; exact mtag_len _ _
    have hQl : Q.length = 32 := by rw [← hQ]; exact mtag_len _ _
    have hPi : ∀ x ∈ P, x < 256 := by rw [← hP]; exact mtag_in _ _
    have hQi : ∀ x ∈ Q, x < 256 := by rw [← hQ]; exact mtag_in _ _
    have hE1 := eql_two P P hPl hPl hPi hPi
    have hE2 := eql_two Q Q hQl hQl hQi hQi
    rw [show decide (P = P) = true by simp] at hE1
    rw [show decide (Q = Q) = true by simp] at hE2
    have HP := Lib.hid hP
    have HQ := Lib.hid hQ
    have hsP := hash_size P hPl
    have hsQ := hash_size Q hQl
    have hp0 : (arr8 zz32).size = (arr8 P).size := by rw [arr8_size, arr8_size, hPl]; rfl
    have hq0 : (arr8 zz32).size = (arr8 Q).size := by rw [arr8_size, arr8_size, hQl]; rfl
    clear hg hT hT2 h0 h1 h2 h0i h1i h2i hP hQ hPi hQi
    go_in
    go_wp2_with fail
    refine HAL.out.mono ?_
    rintro e w1 ⟨rfl, hb1⟩
    have hzz1 := hb1.size
    have sX := (H1.out w1 hb1).alloc (.cells #[] 5)
    have HM1 := Lib.hid (show 0 + xa.length ≤ maxLen ∧ (0 + xa.length) * 1 ≤ 140737488355328 ∧ w1.heap.size ≤ (w1.alloc (.cells #[] 5)).heap.size by unfold maxLen; simp; omega)
    go_wp2_with (first
      | ((with_reducible refine at_append ?_); refine wpList_append_sl (w1.alloc (.cells #[] 5)) rfl (.tmp 33) (.tmp 34) 27 rfl w1.heap.size 5 i0 (.int .u8 0) 1 Tryd.underlying27 hi0 hz0 hz1 hz2 rfl (.slice (some ⟨w1.heap.size, 0, none⟩) 0 0) 0 [] rfl (World.ownsRow_lit w1 #[] 0 (Nat.le_refl _) (by unfold maxLen; omega) rfl) _ .u8 A1 xa.length c1 (nI xa) rfl sX HM1.out.1 HM1.out.2.1 HM1.out.2.2 ?_
         intro v2 w2 hO2 hg2 hv2
         simp only [Nat.zero_add, List.nil_append] at hO2
         have hb2 : Below w1.heap.size w1 w2 := ((Below.refl _ w1).alloc (Nat.le_refl _) _).grown hg2 (by simp) (fun k e => by simp [Value.ownBlock] at e; omega)
         have hb2w := hb1.trans (hb2.mono hzz1)
         have hzz2 := hb2.size
         obtain ⟨A22, c22, rfl, hs2⟩ := SlI.of_own hO2
         have sB := H2.out w2 hb2w
         have L2 := Lib.hid hO2.lt
         have HM2 := Lib.hid (show xa.length + xb.length ≤ maxLen ∧ (xa.length + xb.length) * 1 ≤ 140737488355328 ∧ w1.heap.size ≤ w2.heap.size by unfold maxLen; omega))
      | ((with_reducible refine at_append ?_); refine wpList_append_sl w2 rfl (.tmp 35) (.tmp 36) 27 rfl w1.heap.size 5 i0 (.int .u8 0) 1 Tryd.underlying27 hi0 hz0 hz1 hz2 rfl (.slice A22 xa.length c22) xa.length _ rfl hO2 _ .u8 A2 xb.length c2 (nI xb) rfl sB HM2.out.1 HM2.out.2.1 HM2.out.2.2 ?_
         intro v3 w3 hO3 hg3 hv3
         rw [← List.map_append, show nI xa ++ nI xb = nI (xa ++ xb) by simp [nI]] at hO3
         obtain ⟨A3, c3, rfl, hs3⟩ := SlI.of_own hO3
         have hb3 : Below w.heap.size w w3 := hb2w.grown hg3 (by omega) (fun b e => by have := (L2.out b e).1; omega))
      | fail)
    have hzz3 := hb3.size
    have h31 := hg3.size
    have HN := Lib.hid (new_own A0 c0 key w3 (HTB.out w3 hb3).1 (HTB.out w3 hb3).2 (H0.out w3 hb3) H0I.out (by omega))
    have HS3 := Lib.hid hs3
    clear sX sB hs2 hs3 hO2 hO3 hg2 hg3 hv2 hv3 hb2 hb2w
    refine HN.out.mono ?_
    rintro e w4 ⟨gm, gs, v, rfl, hM4, hb4⟩
    have hzz4 := hb4.size
    have hb4w := hb3.trans (hb4.mono (by omega))
    have hlo := hM4.sha.low
    have hlt := hM4.sha.lt
    have hml := hM4.held.lt
    have hAg : ∀ (gq : Nat), w.heap.size ≤ gq → 0 < xa.length → ∀ a, A1 = some a → a.block ≠ gq := fun gq hq h a ha => by
      obtain ⟨g, off, e, hg⟩ := (H1.out w (Below.refl _ w)).some_ h
      rw [ha] at e
      injection e with e
      rw [e]
      show g ≠ _
      omega
    have hBg : ∀ (gq : Nat), w.heap.size ≤ gq → 0 < xb.length → ∀ a, A2 = some a → a.block ≠ gq := fun gq hq h a ha => by
      obtain ⟨g, off, e, hg⟩ := (H2.out w (Below.refl _ w)).some_ h
      rw [ha] at e
      injection e with e
      rw [e]
      show g ≠ _
      omega
    have HAG := Lib.hid hAg
    have HBG := Lib.hid hBg
    have HW1 := Lib.hid (mwrite_own w3.heap.size gm gs v (mkey key) [] xa A1 c1 w4 hzz4 (by omega) (by omega) (HTB.out w4 hb4w).1 (HTB.out w4 hb4w).2 hM4 (H1.out w4 hb4w) (hAg gs (by omega)) H1I.out (by simp; omega))
    clear hM4 hAg hBg
    go_wp2_with fail
    refine HW1.out.mono ?_
    rintro e w5 ⟨⟨u5, rfl⟩, v5, hM5, hK5, hv5⟩
    rw [List.nil_append] at hM5
    have hzz5 := hK5.size
    have hb5 : Below w3.heap.size w3 w5 := hb4.trans (hK5.below hzz4 hlo (fun k e => (hlt.2 k e).1))
    have hb5w := hb3.trans (hb5.mono (by omega))
    have hlt5 := hM5.sha.lt
    have hml5 := hM5.held.lt
    have HC := Lib.hid (mcopy_own w3.heap.size gm gs v5 (mkey key) xa w5 hM5)
    clear hK5 hb4 hb4w
    go_wp2_with fail
    refine HC.out.mono ?_
    rintro e w6 ⟨gm', gs', v', rfl, hC6, hb6⟩
    have hzz6 := hb6.size
    have hM6 := hM5.belowP hb6
    have hb6q := hb5.trans (hb6.mono (by omega))
    have hb6w := hb5w.trans (hb6.mono (by omega))
    have hlC := hC6.sha.low
    have hmC := hC6.low
    have hcl6 := hC6.sha.lt
    have hcm6 := hC6.held.lt
    have ks6 := msum_own w3.heap.size gm gs v5 (mkey key) xa w6 (by omega) (by omega) (by omega) (HTB.out w6 hb6w).1 (HTB.out w6 hb6w).2 hM6 (by omega)
    rw [HP.out] at ks6
    have HS6 := Lib.hid ks6
    clear hM5 ks6 hb5 hb6
    go_wp2_with fail
    refine HS6.out.mono ?_
    rintro e w7 ⟨rfl, hb7⟩
    obtain ⟨w8, hw8⟩ : ∃ w8, w7.alloc (.cells (arr8 P) 35) = w8 := ⟨_, rfl⟩
    have hb8 : Below w6.heap.size w6 w8 := by rw [← hw8]; exact hb7.alloc hb7.size _
    have hP8 : Held w8 w7.heap.size 35 (arr8 P) := by rw [← hw8]; exact Held.new _ _ _
    have hzz7 := hb7.size
    have hzz8 : w8.heap.size = w7.heap.size + 1 := by rw [← hw8]; simp
    have hM8 := hM6.belowP hb8
    have hC8 := hC6.belowP hb8
    have hb8w := hb6w.trans (hb8.mono (by omega))
    have hb8q := hb6q.trans (hb8.mono (by omega))
    have HW2 := Lib.hid (mwrite_own w3.heap.size gm gs v5 (mkey key) xa xb A2 c2 w8 (by omega) (by omega) (by omega) (HTB.out w8 hb8w).1 (HTB.out w8 hb8w).2 hM8 (H2.out w8 hb8w) (HBG.out gs (by omega)) H2I.out (by omega))
    clear hM6 hC6 hb7 hb8 hM8
    go_wp2_with (first
      | (refine wpList_store_row rfl 35 (.tmp 11) (.tmp 46) rfl w7.heap.size (arr8 P) rfl rfl 35 (arr8 zz32) (heap_alloc_new w7 _) hsP hp0 (arr8_one _) ?_
         rw [World.setRow_alloc_new, hw8])
      | fail)
    refine HW2.out.mono ?_
    rintro e w9 ⟨⟨u9, rfl⟩, v9, hM9, hK9, hv9⟩
    have hzz9 := hK9.size
    have hC9 := hC8.apart hK9 (by omega) (fun e => by have := (hlt5.2 _ e.symm).2; omega) (by omega) (fun e => by have := (hlt5.2 _ e.symm).2; omega) (fun b e => ⟨by have := (hcl6.2 b e).1; omega, fun e' => by have := (hlt5.2 b e'.symm).2; have := (hcl6.2 b e).1; omega⟩)
    have hP9 : Held w9 w7.heap.size 35 (arr8 P) := (hK9.block _ hP8.lt (by omega) (fun e => by have := (hlt5.2 _ e.symm).2; omega)).trans hP8
    have hb9q := hb8q.trans (hK9.below (B := w3.heap.size) (by omega) hlo (fun k e => (hlt5.2 k e).1))
    have hb9w := hb8w.trans ((hK9.below (B := w3.heap.size) (by omega) hlo (fun k e => (hlt5.2 k e).1)).mono (by omega))
    have ks9 := msum_own w3.heap.size gm gs v9 (mkey key) (xa ++ xb) w9 (by omega) (by omega) (by omega) (HTB.out w9 hb9w).1 (HTB.out w9 hb9w).2 hM9 (by rw [List.length_append]; omega)
    rw [HQ.out] at ks9
    have HS9 := Lib.hid ks9
    clear hM9 hK9 hP8 hC8 hb8w ks9 hw8
    go_wp2_with fail
    refine HS9.out.mono ?_
    rintro e w10 ⟨rfl, hb10⟩
    obtain ⟨w11, hw11⟩ : ∃ w11, w10.alloc (.cells (arr8 Q) 35) = w11 := ⟨_, rfl⟩
    have hb11 : Below w9.heap.size w9 w11 := by rw [← hw11]; exact hb10.alloc hb10.size _
    have hQ11 : Held w11 w10.heap.size 35 (arr8 Q) := by rw [← hw11]; exact Held.new _ _ _
    have hzz10 := hb10.size
    have hzz11 : w11.heap.size = w10.heap.size + 1 := by rw [← hw11]; simp
    have hC11 := hC9.belowP hb11
    have hP11 := hP9.below hb11 hP9.lt
    have hb11q := hb9q.trans (hb11.mono (by have := hb9q.size; omega))
    have hb11w := hb9w.trans (hb11.mono (by have := hb9w.size; omega))
    have ks11 := msum_own w5.heap.size gm' gs' v' (mkey key) xa w11 (by omega) (by omega) (by omega) (HTB.out w11 hb11w).1 (HTB.out w11 hb11w).2 hC11 (by omega)
    rw [HP.out] at ks11
    have HS11 := Lib.hid ks11
    clear hC9 hP9 hb10 hb11 hb9w ks11
    go_wp2_with (first
      | (refine wpList_store_row rfl 35 (.tmp 12) (.tmp 51) rfl w10.heap.size (arr8 Q) rfl rfl 35 (arr8 zz32) (heap_alloc_new w10 _) hsQ hq0 (arr8_one _) ?_
         rw [World.setRow_alloc_new, hw11])
      | fail)
    refine HS11.out.mono ?_
    rintro e w12 ⟨rfl, hb12⟩
    obtain ⟨w13, hw13⟩ : ∃ w13, w12.alloc (.cells (arr8 P) 35) = w13 := ⟨_, rfl⟩
    have hb13 : Below w11.heap.size w11 w13 := by rw [← hw13]; exact hb12.alloc hb12.size _
    have hP13 : Held w13 w12.heap.size 35 (arr8 P) := by rw [← hw13]; exact Held.new _ _ _
    have hzz12 := hb12.size
    have hzz13 : w13.heap.size = w12.heap.size + 1 := by rw [← hw13]; simp
    have hC13 := hC11.belowP hb13
    have hP13' := hP11.below hb13 hP11.lt
    have hQ13 := hQ11.below hb13 hQ11.lt
    have hb13q := hb11q.trans (hb13.mono (by have := hb11q.size; omega))
    have hb13w := hb11w.trans (hb13.mono (by have := hb11w.size; omega))
    have HW3 := Lib.hid (mwrite_own w5.heap.size gm' gs' v' (mkey key) xa xb A2 c2 w13 (by omega) (by omega) (by omega) (HTB.out w13 hb13w).1 (HTB.out w13 hb13w).2 hC13 (H2.out w13 hb13w) (HBG.out gs' (by omega)) H2I.out (by omega))
    clear hC11 hP11 hQ11 hb12 hb13 hb11w hw11 hC13
    go_wp2_with (first
      | (refine wpList_store_row rfl 35 (.tmp 13) (.tmp 53) rfl w12.heap.size (arr8 P) rfl rfl 35 (arr8 zz32) (heap_alloc_new w12 _) hsP hp0 (arr8_one _) ?_
         rw [World.setRow_alloc_new, hw13])
      | fail)
    refine HW3.out.mono ?_
    rintro e w14 ⟨⟨u14, rfl⟩, v14, hM14, hK14, hv14⟩
    have hzz14 := hK14.size
    have hP14 : Held w14 w12.heap.size 35 (arr8 P) := (hK14.block _ hP13.lt (by omega) (fun e => by have := (hcl6.2 _ e.symm).2; omega)).trans hP13
    have hP14' : Held w14 w7.heap.size 35 (arr8 P) := (hK14.block _ hP13'.lt (by omega) (fun e => by have := (hcl6.2 _ e.symm).2; omega)).trans hP13'
    have hQ14 : Held w14 w10.heap.size 35 (arr8 Q) := (hK14.block _ hQ13.lt (by omega) (fun e => by have := (hcl6.2 _ e.symm).2; omega)).trans hQ13
    have hb314 := hb13q.trans ((hK14.below (B := w5.heap.size) (by omega) hlC (fun k e => (hcl6.2 k e).1)).mono (by omega))
    have hb14w := hb13w.trans ((hK14.below (B := w5.heap.size) (by omega) hlC (fun k e => (hcl6.2 k e).1)).mono (by omega))
    clear hP13 hP13' hQ13 hK14 hb13w hw13
    have HTW : ∀ W, Below w14.heap.size w14 W → Below w.heap.size w W := fun W h => hb14w.trans (h.mono hb14w.size)
    have KO1 : Hid (∀ W, Below w14.heap.size w14 W → Calls Tryd.prog 31 #[.slice A0 key.length c0, .slice A1 xa.length c1] W fun e W' => e = .returned (.agg (arr8 P)) ∧ Below W.heap.size W W') := Lib.hid (fun W h => by
      have k := macof_own A0 c0 key A1 c1 xa W (HTB.out W (HTW W h)).1 (HTB.out W (HTW W h)).2 (H0.out W (HTW W h)) H0I.out (by omega) (H1.out W (HTW W h)) H1I.out (by omega)
      rwa [HP.out] at k)
    have hb3z : ∀ W, Below w14.heap.size w14 W → Below w3.heap.size w3 W := fun W h => hb314.trans (h.mono (by have := hb314.size; omega))
    have KO2 : Hid (∀ W, Below w14.heap.size w14 W → Calls Tryd.prog 31 #[.slice A0 key.length c0, .slice A3 (xa.length + xb.length) c3] W fun e W' => e = .returned (.agg (arr8 Q)) ∧ Below W.heap.size W W') := Lib.hid (fun W h => by
      have s3 := HS3.out.up (hb3z W h)
      rw [← List.length_append] at s3
      have k := macof_own A0 c0 key A3 c3 (xa ++ xb) W (HTB.out W (HTW W h)).1 (HTB.out W (HTW W h)).2 (H0.out W (HTW W h)) H0I.out (by omega) s3 (fun x hx => (List.mem_append.1 hx).elim (H1I.out x) (H2I.out x)) (by rw [List.length_append]; omega)
      rwa [HQ.out, List.length_append] at k)
    have KS2 : Hid (∀ W, Below w14.heap.size w14 W → Calls Tryd.prog 32 #[.pointer (some ⟨gm', 0, none⟩)] W fun e W' => e = .returned (.agg (arr8 Q)) ∧ Below W.heap.size W W') := Lib.hid (fun W h => by
      have k := msum_own w5.heap.size gm' gs' v14 (mkey key) (xa ++ xb) W (by have := h.size; omega) (by omega) (by omega) (HTB.out W (HTW W h)).1 (HTB.out W (HTW W h)).2 (hM14.belowP h) (by rw [List.length_append]; omega)
      rwa [HQ.out] at k)
    have hP := hP14'
    have hP2 := hP14
    have hQ := hQ14
    have HHW := Lib.hid hb14w
    clear HTW hb3z hM14 hb314 hb14w hP14 hP14' hQ14 HN HW1 HC HS6 HW2 HS9 HS11 HW3 HAG HBG
    go_wp2_with fail
    have hS : Below w14.heap.size w14 w14.drew := (Below.refl _ _).drew
    refine wp_region_held (S := Below w14.heap.size w14) (by kernel_rfl) ?_
    change wpAnyH _ _ _ _ _ _ _ _ w14.drew
    generalize w14.drew = wd at hS ⊢
    refine wpAnyH_take (i := 0) (v := ?v0_1) rfl (by kernel_rfl) (by kernel_rfl) (by kernel_rfl) (fun _ _ _ h => h) (Or.inl ⟨by rfl, ?y0_1⟩) hS ?r0_1
    case y0_1 =>
      rintro W hH
      go_simp
      with_reducible rfl
    simp only [Act.put]
    try simp only [List.getElem_toArray, List.getElem_cons_zero]
    try simp only [List.setIfInBounds_toArray, List.set_cons_succ, List.set_cons_zero]
    refine wpAnyH_take (i := 1) (v := ?v1_2) rfl (by kernel_rfl) (by kernel_rfl) (by kernel_rfl) (fun _ _ _ h => h) (Or.inl ⟨by rfl, ?y1_2⟩) hS ?r1_2
    case y1_2 =>
      rintro W hH
      go_simp
      with_reducible rfl
    simp only [Act.put]
    try simp only [List.getElem_toArray, List.getElem_cons_succ, List.getElem_cons_zero]
    try simp only [List.setIfInBounds_toArray, List.set_cons_succ, List.set_cons_zero]
    refine wpAnyH_take (i := 2) (v := .agg (arr8 P)) rfl (by kernel_rfl) (by kernel_rfl) (by kernel_rfl) (fun _ _ _ h => h) ?y2_3 hS ?r2_3
    case y2_3 => exact yieldsIf_load_mid (cs := (nI P).map (Value.int .u8)) (by rfl) 35 (.tmp 11) rfl _ 0 rfl _ (fun W hH => held_range (hP.below hH hP.lt)) Tryd.underlying35 rfl (hash_info P hPl)
    simp only [Act.put]
    try simp only [List.getElem_toArray, List.getElem_cons_succ, List.getElem_cons_zero]
    try simp only [List.setIfInBounds_toArray, List.set_cons_succ, List.set_cons_zero]
    refine wpAnyH_take (i := 3) (v := ?v3_4) rfl (by kernel_rfl) (by kernel_rfl) (by kernel_rfl) (fun _ _ _ h => h) (Or.inl ⟨by rfl, ?y3_4⟩) hS ?r3_4
    case y3_4 =>
      rintro W hH
      go_simp
      with_reducible rfl
    simp only [Act.put]
    try simp only [List.getElem_toArray, List.getElem_cons_succ, List.getElem_cons_zero]
    try simp only [List.setIfInBounds_toArray, List.set_cons_succ, List.set_cons_zero]
    refine wpAnyH_take (i := 4) (v := ?v4_5) rfl (by kernel_rfl) (by kernel_rfl) (by kernel_rfl) (fun _ _ _ h => h) (Or.inl ⟨by rfl, ?y4_5⟩) hS ?r4_5
    case y4_5 =>
      rintro W hH
      go_simp
      with_reducible rfl
    simp only [Act.put]
    try simp only [List.getElem_toArray, List.getElem_cons_succ, List.getElem_cons_zero]
    try simp only [List.setIfInBounds_toArray, List.set_cons_succ, List.set_cons_zero]
    refine wpAnyH_ready (rs := [5]) (by kernel_rfl) (by simp) ?_
    refine AllReadyH.cons rfl (fun K' hK' => ?_) AllReadyH.nil
    go_simp
    refine (KO1.out _ hS).mono ?_
    rintro e W0 ⟨rfl, hb⟩
    have hS2 := hS.trans (hb.mono hS.size)
    clear hS hb
    go_simp
    refine hK'.out _ _ hS2 (fun hS => ?_)
    clear hK' K'
    refine wpAnyH_take (i := 6) (v := ?v6_6) rfl (by kernel_rfl) (by kernel_rfl) (by kernel_rfl) (fun _ _ _ h => h) (Or.inl ⟨by rfl, ?y6_6⟩) hS ?r6_6
    case y6_6 =>
      rintro W hH
      go_simp
      with_reducible rfl
    simp only [Act.put]
    try simp only [List.getElem_toArray, List.getElem_cons_succ, List.getElem_cons_zero]
    try simp only [List.setIfInBounds_toArray, List.set_cons_succ, List.set_cons_zero]
    refine wpAnyH_take (i := 7) (v := ?v7_7) rfl (by kernel_rfl) (by kernel_rfl) (by kernel_rfl) (fun _ _ _ h => h) (Or.inl ⟨by rfl, ?y7_7⟩) hS ?r7_7
    case y7_7 =>
      rintro W hH
      go_simp
      with_reducible rfl
    simp only [Act.put]
    try simp only [List.getElem_toArray, List.getElem_cons_succ, List.getElem_cons_zero]
    try simp only [List.setIfInBounds_toArray, List.set_cons_succ, List.set_cons_zero]
    refine wpAnyH_take (i := 8) (v := ?v8_8) rfl (by kernel_rfl) (by kernel_rfl) (by kernel_rfl) (fun _ _ _ h => h) (Or.inl ⟨by rfl, ?y8_8⟩) hS ?r8_8
    case y8_8 =>
      rintro W hH
      go_simp
      with_reducible rfl
    simp only [Act.put]
    try simp only [List.getElem_toArray, List.getElem_cons_succ, List.getElem_cons_zero]
    try simp only [List.setIfInBounds_toArray, List.set_cons_succ, List.set_cons_zero]
    refine wpAnyH_take (i := 9) (v := .agg (arr8 Q)) rfl (by kernel_rfl) (by kernel_rfl) (by kernel_rfl) (fun _ _ _ h => h) ?y9_9 hS ?r9_9
    case y9_9 => exact yieldsIf_load_mid (cs := (nI Q).map (Value.int .u8)) (by rfl) 35 (.tmp 12) rfl _ 0 rfl _ (fun W hH => held_range (hQ.below hH hQ.lt)) Tryd.underlying35 rfl (hash_info Q hQl)
    simp only [Act.put]
    try simp only [List.getElem_toArray, List.getElem_cons_succ, List.getElem_cons_zero]
    try simp only [List.setIfInBounds_toArray, List.set_cons_succ, List.set_cons_zero]
    refine wpAnyH_take (i := 10) (v := ?v10_10) rfl (by kernel_rfl) (by kernel_rfl) (by kernel_rfl) (fun _ _ _ h => h) (Or.inl ⟨by rfl, ?y10_10⟩) hS ?r10_10
    case y10_10 =>
      rintro W hH
      go_simp
      with_reducible rfl
    simp only [Act.put]
    try simp only [List.getElem_toArray, List.getElem_cons_succ, List.getElem_cons_zero]
    try simp only [List.setIfInBounds_toArray, List.set_cons_succ, List.set_cons_zero]
    refine wpAnyH_take (i := 11) (v := ?v11_11) rfl (by kernel_rfl) (by kernel_rfl) (by kernel_rfl) (fun _ _ _ h => h) (Or.inl ⟨by rfl, ?y11_11⟩) hS ?r11_11
    case y11_11 =>
      rintro W hH
      go_simp
      with_reducible rfl
    simp only [Act.put]
    try simp only [List.getElem_toArray, List.getElem_cons_succ, List.getElem_cons_zero]
    try simp only [List.setIfInBounds_toArray, List.set_cons_succ, List.set_cons_zero]
    refine wpAnyH_ready (rs := [12]) (by kernel_rfl) (by simp) ?_
    refine AllReadyH.cons rfl (fun K' hK' => ?_) AllReadyH.nil
    go_simp
    refine (KO2.out _ hS).mono ?_
    rintro e W1 ⟨rfl, hb⟩
    have hS2 := hS.trans (hb.mono hS.size)
    clear hS hb
    go_simp
    refine hK'.out _ _ hS2 (fun hS => ?_)
    clear hK' K'
    refine wpAnyH_take (i := 13) (v := ?v13_12) rfl (by kernel_rfl) (by kernel_rfl) (by kernel_rfl) (fun _ _ _ h => h) (Or.inl ⟨by rfl, ?y13_12⟩) hS ?r13_12
    case y13_12 =>
      rintro W hH
      go_simp
      with_reducible rfl
    simp only [Act.put]
    try simp only [List.getElem_toArray, List.getElem_cons_succ, List.getElem_cons_zero]
    try simp only [List.setIfInBounds_toArray, List.set_cons_succ, List.set_cons_zero]
    refine wpAnyH_take (i := 14) (v := ?v14_13) rfl (by kernel_rfl) (by kernel_rfl) (by kernel_rfl) (fun _ _ _ h => h) (Or.inl ⟨by rfl, ?y14_13⟩) hS ?r14_13
    case y14_13 =>
      rintro W hH
      go_simp
      with_reducible rfl
    simp only [Act.put]
    try simp only [List.getElem_toArray, List.getElem_cons_succ, List.getElem_cons_zero]
    try simp only [List.setIfInBounds_toArray, List.set_cons_succ, List.set_cons_zero]
    refine wpAnyH_take (i := 15) (v := ?v15_14) rfl (by kernel_rfl) (by kernel_rfl) (by kernel_rfl) (fun _ _ _ h => h) (Or.inl ⟨by rfl, ?y15_14⟩) hS ?r15_14
    case y15_14 =>
      rintro W hH
      go_simp
      with_reducible rfl
    simp only [Act.put]
    try simp only [List.getElem_toArray, List.getElem_cons_succ, List.getElem_cons_zero]
    try simp only [List.setIfInBounds_toArray, List.set_cons_succ, List.set_cons_zero]
    refine wpAnyH_take (i := 16) (v := .agg (arr8 P)) rfl (by kernel_rfl) (by kernel_rfl) (by kernel_rfl) (fun _ _ _ h => h) ?y16_15 hS ?r16_15
    case y16_15 => exact yieldsIf_load_mid (cs := (nI P).map (Value.int .u8)) (by rfl) 35 (.tmp 13) rfl _ 0 rfl _ (fun W hH => held_range (hP2.below hH hP2.lt)) Tryd.underlying35 rfl (hash_info P hPl)
    simp only [Act.put]
    try simp only [List.getElem_toArray, List.getElem_cons_succ, List.getElem_cons_zero]
    try simp only [List.setIfInBounds_toArray, List.set_cons_succ, List.set_cons_zero]
    refine wpAnyH_take (i := 17) (v := .agg (arr8 P)) rfl (by kernel_rfl) (by kernel_rfl) (by kernel_rfl) (fun _ _ _ h => h) ?y17_16 hS ?r17_16
    case y17_16 => exact yieldsIf_load_mid (cs := (nI P).map (Value.int .u8)) (by rfl) 35 (.tmp 11) rfl _ 0 rfl _ (fun W hH => held_range (hP.below hH hP.lt)) Tryd.underlying35 rfl (hash_info P hPl)
    simp only [Act.put]
    try simp only [List.getElem_toArray, List.getElem_cons_succ, List.getElem_cons_zero]
    try simp only [List.setIfInBounds_toArray, List.set_cons_succ, List.set_cons_zero]
    refine wpAnyH_take (i := 18) (v := ?v18_17) rfl (by kernel_rfl) (by kernel_rfl) (by kernel_rfl) (fun _ _ _ h => h) (Or.inl ⟨by rfl, ?y18_17⟩) hS ?r18_17
    case y18_17 =>
      rintro W hH
      go_simp
      with_reducible rfl
    simp only [Act.put]
    try simp only [List.getElem_toArray, List.getElem_cons_succ, List.getElem_cons_zero]
    try simp only [List.setIfInBounds_toArray, List.set_cons_succ, List.set_cons_zero]
    refine wpAnyH_take (i := 19) (v := ?v19_18) rfl (by kernel_rfl) (by kernel_rfl) (by kernel_rfl) (fun _ _ _ h => h) (Or.inl ⟨by rfl, ?y19_18⟩) hS ?r19_18
    case y19_18 =>
      rintro W hH
      go_simp
      with_reducible rfl
    simp only [Act.put]
    try simp only [List.getElem_toArray, List.getElem_cons_succ, List.getElem_cons_zero]
    try simp only [List.setIfInBounds_toArray, List.set_cons_succ, List.set_cons_zero]
    refine wpAnyH_take (i := 20) (v := ?v20_19) rfl (by kernel_rfl) (by kernel_rfl) (by kernel_rfl) (fun _ _ _ h => h) (Or.inl ⟨by rfl, ?y20_19⟩) hS ?r20_19
    case y20_19 =>
      rintro W hH
      go_simp
      with_reducible rfl
    simp only [Act.put]
    try simp only [List.getElem_toArray, List.getElem_cons_succ, List.getElem_cons_zero]
    try simp only [List.setIfInBounds_toArray, List.set_cons_succ, List.set_cons_zero]
    refine wpAnyH_take (i := 21) (v := ?v21_20) rfl (by kernel_rfl) (by kernel_rfl) (by kernel_rfl) (fun _ _ _ h => h) (Or.inl ⟨by rfl, ?y21_20⟩) hS ?r21_20
    case y21_20 =>
      rintro W hH
      go_simp
      with_reducible rfl
    simp only [Act.put]
    try simp only [List.getElem_toArray, List.getElem_cons_succ, List.getElem_cons_zero]
    try simp only [List.setIfInBounds_toArray, List.set_cons_succ, List.set_cons_zero]
    refine wpAnyH_take (i := 23) (v := .agg (arr8 Q)) rfl (by kernel_rfl) (by kernel_rfl) (by kernel_rfl) (fun _ _ _ h => h) ?y23_21 hS ?r23_21
    case y23_21 => exact yieldsIf_load_mid (cs := (nI Q).map (Value.int .u8)) (by rfl) 35 (.tmp 12) rfl _ 0 rfl _ (fun W hH => held_range (hQ.below hH hQ.lt)) Tryd.underlying35 rfl (hash_info Q hQl)
    simp only [Act.put]
    try simp only [List.getElem_toArray, List.getElem_cons_succ, List.getElem_cons_zero]
    try simp only [List.setIfInBounds_toArray, List.set_cons_succ, List.set_cons_zero]
    refine wpAnyH_ready (rs := [22]) (by kernel_rfl) (by simp) ?_
    refine AllReadyH.cons rfl (fun K' hK' => ?_) AllReadyH.nil
    go_simp
    refine (KS2.out _ hS).mono ?_
    rintro e W2 ⟨rfl, hb⟩
    have hS2 := hS.trans (hb.mono hS.size)
    clear hS hb
    go_simp
    refine hK'.out _ _ hS2 (fun hS => ?_)
    clear hK' K'
    refine wpAnyH_take (i := 24) (v := ?v24_22) rfl (by kernel_rfl) (by kernel_rfl) (by kernel_rfl) (fun _ _ _ h => h) (Or.inl ⟨by rfl, ?y24_22⟩) hS ?r24_22
    case y24_22 =>
      rintro W hH
      go_simp
      with_reducible rfl
    simp only [Act.put]
    try simp only [List.getElem_toArray, List.getElem_cons_succ, List.getElem_cons_zero]
    try simp only [List.setIfInBounds_toArray, List.set_cons_succ, List.set_cons_zero]
    refine wpAnyH_take (i := 25) (v := ?v25_23) rfl (by kernel_rfl) (by kernel_rfl) (by kernel_rfl) (fun _ _ _ h => h) (Or.inl ⟨by rfl, ?y25_23⟩) hS ?r25_23
    case y25_23 =>
      rintro W hH
      go_simp
      with_reducible rfl
    simp only [Act.put]
    try simp only [List.getElem_toArray, List.getElem_cons_succ, List.getElem_cons_zero]
    try simp only [List.setIfInBounds_toArray, List.set_cons_succ, List.set_cons_zero]
    refine wpAnyH_take (i := 26) (v := ?v26_24) rfl (by kernel_rfl) (by kernel_rfl) (by kernel_rfl) (fun _ _ _ h => h) (Or.inl ⟨by rfl, ?y26_24⟩) hS ?r26_24
    case y26_24 =>
      rintro W hH
      go_simp
      with_reducible rfl
    simp only [Act.put]
    try simp only [List.getElem_toArray, List.getElem_cons_succ, List.getElem_cons_zero]
    try simp only [List.setIfInBounds_toArray, List.set_cons_succ, List.set_cons_zero]
    refine wpAnyH_done (by kernel_rfl) ?_ _
    go_wp2_with fail
    go_ret
    exact ⟨rfl, HHW.out.trans (hS.mono (by have := HHW.out.size; omega))⟩
end Go.Proofs.YtjkhkgdijnhdmaaDoor
