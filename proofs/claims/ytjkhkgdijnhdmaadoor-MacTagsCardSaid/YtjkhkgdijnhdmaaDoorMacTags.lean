/- The law MacTags. -/
import Derived.Test.YtjkhkgdijnhdmaaDoorMacOf
import Derived.Test.YtjkhkgdijnhdmaaDoorMacRef
import Derived.Laws.BytesArg
namespace Go.Proofs.YtjkhkgdijnhdmaaDoor
open Go.RowKit

theorem conv_sl (A : Option Addr) (c : Nat) (bs : List Nat) (w : World) (hR : SlI w w.heap.size .u8 A bs.length c (nI bs)) : (convert 27 9 (.slice A bs.length c)).run Tryd.prog w = .ok (.string (strOfNums (nI bs))) w := by
  by_cases h0 : bs.length = 0
  · obtain rfl : bs = [] := List.eq_nil_of_length_eq_zero h0
    show (convert 27 9 (.slice A 0 c)).run Tryd.prog w = _
    rw [run_convert_bytes_string w 27 9 5 _ 0 c Tryd.underlying27 Tryd.underlying5 Tryd.underlying9]
    cases A <;> simp [Conv.bytesToString, loadCells] <;> rfl
  · obtain ⟨g, off, rfl, _, hc⟩ := hR.2.2.2.2 (by rw [nI_len]; omega)
    exact run_convert_bytes_arg (P := Tryd.prog) w 27 5 Tryd.underlying27 Tryd.underlying5 g off bs.length c (nI bs) (nI_len bs) (fun i hi => by
      have h1 : (nI bs)[i]? = some ((nI bs)[i]'(by rw [nI_len]; exact hi)) := List.getElem?_eq_getElem _
      rw [hc i _ h1, List.getD, h1]; rfl) 9 Tryd.underlying9
theorem MacAt.below {w w' : World} {B gm gs : Nat} {v : Value} {K all : List Nat} (h : MacAt w B gm gs v K all) (hb : Below w.heap.size w w') : MacAt w' B gm gs v K all :=
  ⟨h.held.below hb h.held.lt, h.len, h.lt, h.low, h.ne, h.nv, h.sha.below hb⟩
set_option maxRecDepth 100000 in
set_option maxHeartbeats 8000000 in
theorem law_tags (A0 : Option Addr) (c0 : Nat) (key : List Nat) (A1 : Option Addr) (c1 : Nat) (bs T : List Nat) (n : Int) (w : World) (hT : Tab w 0 .u32 firstI) (hT2 : Tab w 1 .u32 kI)
    (h0 : SlI w w.heap.size .u8 A0 key.length c0 (nI key)) (h0i : ∀ x ∈ key, x < 256) (h1 : SlI w w.heap.size .u8 A1 bs.length c1 (nI bs)) (h1i : ∀ x ∈ bs, x < 256) (hTl : T.length = 32) (hTi : ∀ x ∈ T, x < 256) :
    Calls Tryd.prog 9 #[.slice A0 key.length c0, .slice A1 bs.length c1, .agg (arr8 T), .int .i64 n] w fun e w' => e = .returned (.bool true) ∧ Below w.heap.size w w' := by
  obtain ⟨w1, hw1⟩ : ∃ w1, w.alloc (.cells (arr8 T) 35) = w1 := ⟨_, rfl⟩
  have hb1 : Below w.heap.size w w1 := by rw [← hw1]; exact (Below.refl _ w).alloc (Nat.le_refl _) _
  by_cases hg : 300 < key.length ∨ 1000 < bs.length
  · clear hT hT2 h0 h1 h0i h1i
    by_cases h3 : 300 < key.length
    · go_in
      go_wp2
      go_ret
      exact ⟨rfl, hb1⟩
    · have h4 : 1000 < bs.length := by omega
      go_in
      go_wp2
      go_ret
      exact ⟨rfl, hb1⟩
  · have h3 : key.length ≤ 300 := by omega
    have h4 : bs.length ≤ 1000 := by omega
    clear hg
    have hz1 : w1.heap.size = w.heap.size + 1 := by rw [← hw1]; simp
    have hH1 : Held w1 w.heap.size 35 (arr8 T) := by rw [← hw1]; exact Held.new _ _ _
    have HTB := Lib.hid (fun (W : World) (h : Below w.heap.size w W) => And.intro (hT.up h) (hT2.up h))
    have hf := hT.lt (by decide)
    have hk := hT2.lt (by decide)
    have H0 := Lib.hid (fun (W : World) (h : Below w.heap.size w W) => h0.up h)
    have H1 := Lib.hid (fun (W : World) (h : Below w.heap.size w W) => h1.up h)
    have H0I := Lib.hid h0i
    have H1I := Lib.hid h1i
    have HTI := Lib.hid hTi
    obtain ⟨St, hSt⟩ : ∃ S, strOfNums (nI bs) = S := ⟨_, rfl⟩
    have HCV0 : Hid (∀ W, Below w.heap.size w W → (convert 27 9 (.slice A1 bs.length c1)).run Tryd.prog W = .ok (.string St) W) := Lib.hid (fun W h => by rw [← hSt]; exact conv_sl A1 c1 bs W (h1.up h))
    have hcv1 := HCV0.out w1 hb1
    have ko := of_ref5 A0 c0 key A1 c1 bs w1 (H0.out w1 hb1) h0i (by omega) (H1.out w1 hb1) h1i (by omega)
    obtain ⟨D, hD⟩ : ∃ D, mtag (mkey key) bs = D := ⟨_, rfl⟩
    have hDl : D.length = 32 := by rw [← hD]; exact mtag_len _ _
    have hDi : ∀ x ∈ D, x < 256 := by rw [← hD]; exact mtag_in _ _
    rw [hD] at ko
    have HO := Lib.hid ko
    have HD := Lib.hid hD
    have HDI := Lib.hid hDi
    have hsD := hash_size D hDl
    have hs0 : (arr8 zz32).size = (arr8 D).size := by rw [arr8_size, arr8_size, hDl]; rfl
    have hsT := hash_size T hTl
    clear hT hT2 h0 h1 h0i h1i hTi ko hD hDi hSt
    go_in
    go_wp2_with fail
    refine HO.out.mono ?_
    rintro e w2 ⟨rfl, hb2⟩
    obtain ⟨w3, hw3⟩ : ∃ w3, w2.alloc (.cells (arr8 D) 35) = w3 := ⟨_, rfl⟩
    have hzz2 := hb2.size
    have hb3 : Below w1.heap.size w1 w3 := by rw [← hw3]; exact hb2.alloc hb2.size _
    have hO3 : Held w3 w2.heap.size 35 (arr8 D) := by rw [← hw3]; exact Held.new _ _ _
    have hzz3 : w3.heap.size = w2.heap.size + 1 := by rw [← hw3]; simp
    have hH3 := hH1.below hb3 (by omega)
    have hb3w := hb1.trans (hb3.mono (by omega))
    have HN := Lib.hid (new_own A0 c0 key w3 (HTB.out w3 hb3w).1 (HTB.out w3 hb3w).2 (H0.out w3 hb3w) H0I.out (by omega))
    clear hb2 hb3 hH1 hcv1
    go_wp2_with (first
      | (refine wpList_store_row rfl 35 (.tmp 10) (.tmp 27) rfl w2.heap.size (arr8 D) rfl rfl 35 (arr8 zz32) (heap_alloc_new w2 _) hsD hs0 (arr8_one _) ?_
         rw [World.setRow_alloc_new, hw3])
      | fail)
    refine HN.out.mono ?_
    rintro e w4 ⟨gm, gs, v, rfl, hM4, hb4⟩
    have hzz4 := hb4.size
    have hb4w := hb3w.trans (hb4.mono (by omega))
    have hlo := hM4.sha.low
    have hlt := hM4.sha.lt
    have HW := Lib.hid (mwrite_own w3.heap.size gm gs v (mkey key) [] bs A1 c1 w4 hzz4 (by omega) (by omega) (HTB.out w4 hb4w).1 (HTB.out w4 hb4w).2 hM4 (H1.out w4 hb4w) (fun h a ha => by
      obtain ⟨g, off, e, hg⟩ := (H1.out w (Below.refl _ w)).some_ h
      rw [ha] at e
      injection e with e
      rw [e]
      show g ≠ _
      omega) H1I.out (by simp; omega))
    clear hM4
    go_wp2_with fail
    refine HW.out.mono ?_
    rintro e w5 ⟨⟨u, rfl⟩, v5, hM5, hK5, hv5⟩
    rw [List.nil_append] at hM5
    have hzz5 := hK5.size
    have hb5 : Below w3.heap.size w3 w5 := hb4.trans (hK5.below (Nat.le_trans hzz4 (Nat.le_refl _)) hlo (fun k e => (hlt.2 k e).1))
    have hb5w := hb3w.trans (hb5.mono (by omega))
    have hH5 := hH3.below hb5 (by omega)
    have hO5 := hO3.below hb5 (by omega)
    obtain ⟨m, hmn⟩ : ∃ m : Nat, max 0 (min n 32) = (m : Int) := ⟨(max 0 (min n 32)).toNat, by omega⟩
    have hm : m ≤ 32 := by omega
    have HSH := Lib.hid (short_own n T w5 hTl m hm hmn)
    have hu := Tryd.underlying35
    clear hK5 hv5 hH3 hO3 hb4 hb5 hb4w
    go_wp2_with (first
      | (refine wpList_load_row rfl 35 (.tmp 6) rfl w.heap.size rfl 35 (arr8 T) (0, 0) _ hH5 hu rfl hsT ?_)
      | fail)
    refine HSH.out.mono ?_
    rintro e w6 ⟨v6, rfl, hO6, hb6⟩
    obtain ⟨A6, c6, rfl, hs6⟩ := SlI.of_own hO6
    have hzz6 := hb6.size
    have hH6 := hH5.below hb6 hH5.lt
    have hX6 := hO5.below hb6 hO5.lt
    have hM6 := hM5.below hb6
    have hb6w := hb5w.trans (hb6.mono (by omega))
    clear hM5 hH5 hO5 hb6 hb5w
    go_wp2_with fail
    go_loopw [14] (fun u14 wx => ∃ k : Nat, k ≤ m ∧ u14 = .int .i64 k ∧ Below w6.heap.size w6 wx) (fun i _ => m - (intOf i).toNat)
    case atStart => exact ⟨0, by omega, rfl, Below.refl _ _⟩
    case round =>
      obtain ⟨k, hk, rfl, hbr⟩ := hrel
      by_cases hlt : k < m
      · obtain ⟨x, hx⟩ : ∃ x, T[k]? = some x := ⟨_, List.getElem?_eq_getElem (by omega)⟩
        obtain ⟨ad, hA6, hcl⟩ := (hs6.up hbr).src (by rw [nI_len, List.length_take]; omega)
        obtain ⟨g6, o6, rfl, _⟩ := hs6.some_ (by omega)
        injection hA6 with hA6
        subst hA6
        have hc1 : wr.cell? ⟨g6, o6 + k, none⟩ = some (.int .u8 (x : Int)) := by
          have := hcl k (.int .u8 (x : Int)) (by simp [nI, List.getElem?_take, hlt, hx])
          rwa [Addr.add_mid] at this
        have hc2 : wr.cell? ⟨w.heap.size, k, none⟩ = some (.int .u8 (x : Int)) := (hbr.cell (p := ⟨w.heap.size, k, none⟩) hH6.lt).trans ((hH6.cell k).trans (arr8_at _ _ _ hx))
        have i1 : (k : Int) < 32 := by omega
        clear hcl hx
        go_wp2_with fail
        go_quiet (fail)
        go_wp2_with fail
        go_roundw
        case rel => exact ⟨k + 1, by omega, by go_num, below_drewN hbr _⟩
        case measure => simp [intOf]; omega
      · obtain rfl : k = m := by omega
        have hz := hbr.size
        have hwz := hb6w.trans (hbr.mono (by omega))
        have hTT := hH6.below hbr hH6.lt
        have hX := hX6.below hbr hX6.lt
        have hM := hM6.below hbr
        obtain ⟨wz, rfl⟩ : ∃ wz, wz = wr := ⟨wr, rfl⟩
        have HTW : ∀ W, Below wz.heap.size wz W → Below w.heap.size w W := fun W h => hwz.trans (h.mono (by omega))
        have hE1 := eql_two D D hDl hDl HDI.out HDI.out
        have hE2 := eql_two D T hDl hTl HDI.out HTI.out
        have hE3 := eql_two T D hTl hDl HTI.out HDI.out
        obtain ⟨q, hq⟩ : ∃ q, decide (D = T) = q := ⟨_, rfl⟩
        have hq' : decide (T = D) = q := by rw [← hq]; exact decide_eq_decide.2 eq_comm
        rw [show decide (D = D) = true by simp] at hE1
        rw [hq] at hE2
        rw [hq'] at hE3
        have KOF : Hid (∀ W, Below wz.heap.size wz W → Calls Tryd.prog 31 #[.slice A0 key.length c0, .slice A1 bs.length c1] W fun e W' => e = .returned (.agg (arr8 D)) ∧ Below W.heap.size W W') := Lib.hid (fun W h => by
          have k := macof_own A0 c0 key A1 c1 bs W (HTB.out W (HTW W h)).1 (HTB.out W (HTW W h)).2 (H0.out W (HTW W h)) H0I.out (by omega) (H1.out W (HTW W h)) H1I.out (by omega)
          rwa [HD.out] at k)
        have KSU : Hid (∀ W, Below wz.heap.size wz W → Calls Tryd.prog 32 #[.pointer (some ⟨gm, 0, none⟩)] W fun e W' => e = .returned (.agg (arr8 D)) ∧ Below W.heap.size W W') := Lib.hid (fun W h => by
          have k := msum_own w3.heap.size gm gs v5 (mkey key) bs W (by have := h.size; omega) (by omega) (by omega) (HTB.out W (HTW W h)).1 (HTB.out W (HTW W h)).2 (hM.below h) (by omega)
          rwa [HD.out] at k)
        have KIS : Hid (∀ Z : List Nat, Z.length = 32 → (∀ x ∈ Z, x < 256) → ∀ W, Below wz.heap.size wz W → Calls Tryd.prog 33 #[.pointer (some ⟨gm, 0, none⟩), .agg (arr8 Z)] W fun e W' => e = .returned (.bool (decide (D = Z))) ∧ Below W.heap.size W W') := Lib.hid (fun Z z1 z2 W h => by
          have k := mis_own w3.heap.size gm gs v5 (mkey key) bs Z W (by have := h.size; omega) (by omega) (by omega) (HTB.out W (HTW W h)).1 (HTB.out W (HTW W h)).2 (hM.below h) (by omega) z1 z2
          rwa [HD.out] at k)
        have KRI : Hid (∀ Z : List Nat, Z.length = 32 → (∀ x ∈ Z, x < 256) → ∀ W, Below wz.heap.size wz W → Calls Tryd.prog 34 #[.slice A0 key.length c0, .slice A1 bs.length c1, .agg (arr8 Z)] W fun e W' => e = .returned (.bool (decide (D = Z))) ∧ Below W.heap.size W W') := Lib.hid (fun Z z1 z2 W h => by
          have k := right_own A0 c0 key A1 c1 bs Z W (HTB.out W (HTW W h)).1 (HTB.out W (HTW W h)).2 (H0.out W (HTW W h)) H0I.out (by omega) (H1.out W (HTW W h)) H1I.out (by omega) z1 z2
          rwa [HD.out] at k)
        have KI1 : Hid (∀ W, Below wz.heap.size wz W → Calls Tryd.prog 33 #[.pointer (some ⟨gm, 0, none⟩), .agg (arr8 D)] W fun e W' => e = .returned (.bool true) ∧ Below W.heap.size W W') := Lib.hid (by have k := KIS.out D hDl HDI.out; rwa [show decide (D = D) = true by simp] at k)
        have KI2 : Hid (∀ W, Below wz.heap.size wz W → Calls Tryd.prog 33 #[.pointer (some ⟨gm, 0, none⟩), .agg (arr8 T)] W fun e W' => e = .returned (.bool q) ∧ Below W.heap.size W W') := Lib.hid (by have k := KIS.out T hTl HTI.out; rwa [hq] at k)
        have KR1 : Hid (∀ W, Below wz.heap.size wz W → Calls Tryd.prog 34 #[.slice A0 key.length c0, .slice A1 bs.length c1, .agg (arr8 D)] W fun e W' => e = .returned (.bool true) ∧ Below W.heap.size W W') := Lib.hid (by have k := KRI.out D hDl HDI.out; rwa [show decide (D = D) = true by simp] at k)
        have KR2 : Hid (∀ W, Below wz.heap.size wz W → Calls Tryd.prog 34 #[.slice A0 key.length c0, .slice A1 bs.length c1, .agg (arr8 T)] W fun e W' => e = .returned (.bool q) ∧ Below W.heap.size W W') := Lib.hid (by have k := KRI.out T hTl HTI.out; rwa [hq] at k)
        have HCV : Hid (∀ W, Below wz.heap.size wz W → (convert 27 9 (.slice A1 bs.length c1)).run Tryd.prog W = .ok (.string St) W) := Lib.hid (fun W h => HCV0.out W (HTW W h))
        have HHW := Lib.hid hwz
        clear hq hq' HTW hM hM6 hH6 hX6 hbr hwz hb6w HO HN HW HSH hs6 hO6 KIS KRI
        go_wp2_with fail
        have hS : Below wz.heap.size wz wz.drew := (Below.refl _ _).drew
        refine wp_region_held (S := Below wz.heap.size wz) (by kernel_rfl) ?_
        change wpAnyH _ _ _ _ _ _ _ _ wz.drew
        generalize wz.drew = wd at hS ⊢
        refine wpAnyH_take (i := 0) (v := ?v0_1) rfl (by kernel_rfl) (by kernel_rfl) (by kernel_rfl) (fun _ _ _ h => h) (Or.inl ⟨by rfl, ?y0_1⟩) hS ?r0_1
        case y0_1 =>
          rintro W hH
          have hcv := HCV.out W hH
          go_simp
          with_reducible rfl
        simp only [Act.put]
        try simp only [List.getElem_toArray, List.getElem_cons_succ, List.getElem_cons_zero]
        try simp only [List.setIfInBounds_toArray, List.set_cons_succ, List.set_cons_zero]
        refine wpAnyH_take (i := 1) (v := ?v1_2) rfl (by kernel_rfl) (by kernel_rfl) (by kernel_rfl) (fun _ _ _ h => h) (Or.inl ⟨by rfl, ?y1_2⟩) hS ?r1_2
        case y1_2 =>
          rintro W hH
          have hcv := HCV.out W hH
          go_simp
          with_reducible rfl
        simp only [Act.put]
        try simp only [List.getElem_toArray, List.getElem_cons_succ, List.getElem_cons_zero]
        try simp only [List.setIfInBounds_toArray, List.set_cons_succ, List.set_cons_zero]
        refine wpAnyH_take (i := 3) (v := .agg (arr8 D)) rfl (by kernel_rfl) (by kernel_rfl) (by kernel_rfl) (fun _ _ _ h => h) ?y3_3 hS ?r3_3
        case y3_3 => exact yieldsIf_load_mid (cs := (nI D).map (Value.int .u8)) (by rfl) 35 (.tmp 10) rfl _ 0 rfl _ (fun W hH => held_range (hX.below hH hX.lt)) Tryd.underlying35 rfl (hash_info D hDl)
        simp only [Act.put]
        try simp only [List.getElem_toArray, List.getElem_cons_succ, List.getElem_cons_zero]
        try simp only [List.setIfInBounds_toArray, List.set_cons_succ, List.set_cons_zero]
        refine wpAnyH_ready (rs := [2]) (by kernel_rfl) (by simp) ?_
        refine AllReadyH.cons rfl (fun K' hK' => ?_) AllReadyH.nil
        go_simp
        refine (KOF.out _ hS).mono ?_
        rintro e W0 ⟨rfl, hb⟩
        have hS2 := hS.trans (hb.mono hS.size)
        clear hS hb
        go_simp
        refine hK'.out _ _ hS2 (fun hS => ?_)
        clear hK' K'
        refine wpAnyH_take (i := 4) (v := ?v4_4) rfl (by kernel_rfl) (by kernel_rfl) (by kernel_rfl) (fun _ _ _ h => h) (Or.inl ⟨by rfl, ?y4_4⟩) hS ?r4_4
        case y4_4 =>
          rintro W hH
          have hcv := HCV.out W hH
          go_simp
          with_reducible rfl
        simp only [Act.put]
        try simp only [List.getElem_toArray, List.getElem_cons_succ, List.getElem_cons_zero]
        try simp only [List.setIfInBounds_toArray, List.set_cons_succ, List.set_cons_zero]
        refine wpAnyH_take (i := 5) (v := ?v5_5) rfl (by kernel_rfl) (by kernel_rfl) (by kernel_rfl) (fun _ _ _ h => h) (Or.inl ⟨by rfl, ?y5_5⟩) hS ?r5_5
        case y5_5 =>
          rintro W hH
          have hcv := HCV.out W hH
          go_simp
          with_reducible rfl
        simp only [Act.put]
        try simp only [List.getElem_toArray, List.getElem_cons_succ, List.getElem_cons_zero]
        try simp only [List.setIfInBounds_toArray, List.set_cons_succ, List.set_cons_zero]
        refine wpAnyH_take (i := 6) (v := ?v6_6) rfl (by kernel_rfl) (by kernel_rfl) (by kernel_rfl) (fun _ _ _ h => h) (Or.inl ⟨by rfl, ?y6_6⟩) hS ?r6_6
        case y6_6 =>
          rintro W hH
          have hcv := HCV.out W hH
          go_simp
          with_reducible rfl
        simp only [Act.put]
        try simp only [List.getElem_toArray, List.getElem_cons_succ, List.getElem_cons_zero]
        try simp only [List.setIfInBounds_toArray, List.set_cons_succ, List.set_cons_zero]
        refine wpAnyH_take (i := 8) (v := .agg (arr8 D)) rfl (by kernel_rfl) (by kernel_rfl) (by kernel_rfl) (fun _ _ _ h => h) ?y8_7 hS ?r8_7
        case y8_7 => exact yieldsIf_load_mid (cs := (nI D).map (Value.int .u8)) (by rfl) 35 (.tmp 10) rfl _ 0 rfl _ (fun W hH => held_range (hX.below hH hX.lt)) Tryd.underlying35 rfl (hash_info D hDl)
        simp only [Act.put]
        try simp only [List.getElem_toArray, List.getElem_cons_succ, List.getElem_cons_zero]
        try simp only [List.setIfInBounds_toArray, List.set_cons_succ, List.set_cons_zero]
        refine wpAnyH_ready (rs := [7]) (by kernel_rfl) (by simp) ?_
        refine AllReadyH.cons rfl (fun K' hK' => ?_) AllReadyH.nil
        go_simp
        refine (KSU.out _ hS).mono ?_
        rintro e W1 ⟨rfl, hb⟩
        have hS2 := hS.trans (hb.mono hS.size)
        clear hS hb
        go_simp
        refine hK'.out _ _ hS2 (fun hS => ?_)
        clear hK' K'
        refine wpAnyH_take (i := 9) (v := ?v9_8) rfl (by kernel_rfl) (by kernel_rfl) (by kernel_rfl) (fun _ _ _ h => h) (Or.inl ⟨by rfl, ?y9_8⟩) hS ?r9_8
        case y9_8 =>
          rintro W hH
          have hcv := HCV.out W hH
          go_simp
          with_reducible rfl
        simp only [Act.put]
        try simp only [List.getElem_toArray, List.getElem_cons_succ, List.getElem_cons_zero]
        try simp only [List.setIfInBounds_toArray, List.set_cons_succ, List.set_cons_zero]
        refine wpAnyH_take (i := 10) (v := ?v10_9) rfl (by kernel_rfl) (by kernel_rfl) (by kernel_rfl) (fun _ _ _ h => h) (Or.inl ⟨by rfl, ?y10_9⟩) hS ?r10_9
        case y10_9 =>
          rintro W hH
          have hcv := HCV.out W hH
          go_simp
          with_reducible rfl
        simp only [Act.put]
        try simp only [List.getElem_toArray, List.getElem_cons_succ, List.getElem_cons_zero]
        try simp only [List.setIfInBounds_toArray, List.set_cons_succ, List.set_cons_zero]
        refine wpAnyH_take (i := 11) (v := ?v11_10) rfl (by kernel_rfl) (by kernel_rfl) (by kernel_rfl) (fun _ _ _ h => h) (Or.inl ⟨by rfl, ?y11_10⟩) hS ?r11_10
        case y11_10 =>
          rintro W hH
          have hcv := HCV.out W hH
          go_simp
          with_reducible rfl
        simp only [Act.put]
        try simp only [List.getElem_toArray, List.getElem_cons_succ, List.getElem_cons_zero]
        try simp only [List.setIfInBounds_toArray, List.set_cons_succ, List.set_cons_zero]
        refine wpAnyH_take (i := 12) (v := ?v12_11) rfl (by kernel_rfl) (by kernel_rfl) (by kernel_rfl) (fun _ _ _ h => h) (Or.inl ⟨by rfl, ?y12_11⟩) hS ?r12_11
        case y12_11 =>
          rintro W hH
          have hcv := HCV.out W hH
          go_simp
          with_reducible rfl
        simp only [Act.put]
        try simp only [List.getElem_toArray, List.getElem_cons_succ, List.getElem_cons_zero]
        try simp only [List.setIfInBounds_toArray, List.set_cons_succ, List.set_cons_zero]
        refine wpAnyH_take (i := 13) (v := .agg (arr8 D)) rfl (by kernel_rfl) (by kernel_rfl) (by kernel_rfl) (fun _ _ _ h => h) ?y13_12 hS ?r13_12
        case y13_12 => exact yieldsIf_load_mid (cs := (nI D).map (Value.int .u8)) (by rfl) 35 (.tmp 10) rfl _ 0 rfl _ (fun W hH => held_range (hX.below hH hX.lt)) Tryd.underlying35 rfl (hash_info D hDl)
        simp only [Act.put]
        try simp only [List.getElem_toArray, List.getElem_cons_succ, List.getElem_cons_zero]
        try simp only [List.setIfInBounds_toArray, List.set_cons_succ, List.set_cons_zero]
        refine wpAnyH_ready (rs := [14]) (by kernel_rfl) (by simp) ?_
        refine AllReadyH.cons rfl (fun K' hK' => ?_) AllReadyH.nil
        go_simp
        refine (KI1.out _ hS).mono ?_
        rintro e W2 ⟨rfl, hb⟩
        have hS2 := hS.trans (hb.mono hS.size)
        clear hS hb
        go_simp
        refine hK'.out _ _ hS2 (fun hS => ?_)
        clear hK' K'
        refine wpAnyH_take (i := 15) (v := ?v15_13) rfl (by kernel_rfl) (by kernel_rfl) (by kernel_rfl) (fun _ _ _ h => h) (Or.inl ⟨by rfl, ?y15_13⟩) hS ?r15_13
        case y15_13 =>
          rintro W hH
          have hcv := HCV.out W hH
          go_simp
          with_reducible rfl
        simp only [Act.put]
        try simp only [List.getElem_toArray, List.getElem_cons_succ, List.getElem_cons_zero]
        try simp only [List.setIfInBounds_toArray, List.set_cons_succ, List.set_cons_zero]
        refine wpAnyH_take (i := 16) (v := ?v16_14) rfl (by kernel_rfl) (by kernel_rfl) (by kernel_rfl) (fun _ _ _ h => h) (Or.inl ⟨by rfl, ?y16_14⟩) hS ?r16_14
        case y16_14 =>
          rintro W hH
          have hcv := HCV.out W hH
          go_simp
          with_reducible rfl
        simp only [Act.put]
        try simp only [List.getElem_toArray, List.getElem_cons_succ, List.getElem_cons_zero]
        try simp only [List.setIfInBounds_toArray, List.set_cons_succ, List.set_cons_zero]
        refine wpAnyH_take (i := 17) (v := ?v17_15) rfl (by kernel_rfl) (by kernel_rfl) (by kernel_rfl) (fun _ _ _ h => h) (Or.inl ⟨by rfl, ?y17_15⟩) hS ?r17_15
        case y17_15 =>
          rintro W hH
          have hcv := HCV.out W hH
          go_simp
          with_reducible rfl
        simp only [Act.put]
        try simp only [List.getElem_toArray, List.getElem_cons_succ, List.getElem_cons_zero]
        try simp only [List.setIfInBounds_toArray, List.set_cons_succ, List.set_cons_zero]
        refine wpAnyH_take (i := 18) (v := .agg (arr8 T)) rfl (by kernel_rfl) (by kernel_rfl) (by kernel_rfl) (fun _ _ _ h => h) ?y18_16 hS ?r18_16
        case y18_16 => exact yieldsIf_load_mid (cs := (nI T).map (Value.int .u8)) (by rfl) 35 (.tmp 6) rfl _ 0 rfl _ (fun W hH => held_range (hTT.below hH hTT.lt)) Tryd.underlying35 rfl (hash_info T hTl)
        simp only [Act.put]
        try simp only [List.getElem_toArray, List.getElem_cons_succ, List.getElem_cons_zero]
        try simp only [List.setIfInBounds_toArray, List.set_cons_succ, List.set_cons_zero]
        refine wpAnyH_take (i := 20) (v := .agg (arr8 T)) rfl (by kernel_rfl) (by kernel_rfl) (by kernel_rfl) (fun _ _ _ h => h) ?y20_17 hS ?r20_17
        case y20_17 => exact yieldsIf_load_mid (cs := (nI T).map (Value.int .u8)) (by rfl) 35 (.tmp 6) rfl _ 0 rfl _ (fun W hH => held_range (hTT.below hH hTT.lt)) Tryd.underlying35 rfl (hash_info T hTl)
        simp only [Act.put]
        try simp only [List.getElem_toArray, List.getElem_cons_succ, List.getElem_cons_zero]
        try simp only [List.setIfInBounds_toArray, List.set_cons_succ, List.set_cons_zero]
        refine wpAnyH_take (i := 21) (v := .agg (arr8 D)) rfl (by kernel_rfl) (by kernel_rfl) (by kernel_rfl) (fun _ _ _ h => h) ?y21_18 hS ?r21_18
        case y21_18 => exact yieldsIf_load_mid (cs := (nI D).map (Value.int .u8)) (by rfl) 35 (.tmp 10) rfl _ 0 rfl _ (fun W hH => held_range (hX.below hH hX.lt)) Tryd.underlying35 rfl (hash_info D hDl)
        simp only [Act.put]
        try simp only [List.getElem_toArray, List.getElem_cons_succ, List.getElem_cons_zero]
        try simp only [List.setIfInBounds_toArray, List.set_cons_succ, List.set_cons_zero]
        refine wpAnyH_take (i := 22) (v := ?v22_19) rfl (by kernel_rfl) (by kernel_rfl) (by kernel_rfl) (fun _ _ _ h => h) (Or.inl ⟨by rfl, ?y22_19⟩) hS ?r22_19
        case y22_19 =>
          rintro W hH
          have hcv := HCV.out W hH
          go_simp
          with_reducible rfl
        simp only [Act.put]
        try simp only [List.getElem_toArray, List.getElem_cons_succ, List.getElem_cons_zero]
        try simp only [List.setIfInBounds_toArray, List.set_cons_succ, List.set_cons_zero]
        refine wpAnyH_ready (rs := [19]) (by kernel_rfl) (by simp) ?_
        refine AllReadyH.cons rfl (fun K' hK' => ?_) AllReadyH.nil
        go_simp
        refine (KI2.out _ hS).mono ?_
        rintro e W3 ⟨rfl, hb⟩
        have hS2 := hS.trans (hb.mono hS.size)
        clear hS hb
        go_simp
        refine hK'.out _ _ hS2 (fun hS => ?_)
        clear hK' K'
        refine wpAnyH_take (i := 23) (v := ?v23_20) rfl (by kernel_rfl) (by kernel_rfl) (by kernel_rfl) (fun _ _ _ h => h) (Or.inl ⟨by rfl, ?y23_20⟩) hS ?r23_20
        case y23_20 =>
          rintro W hH
          have hcv := HCV.out W hH
          go_simp
          with_reducible rfl
        simp only [Act.put]
        try simp only [List.getElem_toArray, List.getElem_cons_succ, List.getElem_cons_zero]
        try simp only [List.setIfInBounds_toArray, List.set_cons_succ, List.set_cons_zero]
        refine wpAnyH_take (i := 24) (v := ?v24_21) rfl (by kernel_rfl) (by kernel_rfl) (by kernel_rfl) (fun _ _ _ h => h) (Or.inl ⟨by rfl, ?y24_21⟩) hS ?r24_21
        case y24_21 =>
          rintro W hH
          have hcv := HCV.out W hH
          go_simp
          with_reducible rfl
        simp only [Act.put]
        try simp only [List.getElem_toArray, List.getElem_cons_succ, List.getElem_cons_zero]
        try simp only [List.setIfInBounds_toArray, List.set_cons_succ, List.set_cons_zero]
        refine wpAnyH_take (i := 25) (v := ?v25_22) rfl (by kernel_rfl) (by kernel_rfl) (by kernel_rfl) (fun _ _ _ h => h) (Or.inl ⟨by rfl, ?y25_22⟩) hS ?r25_22
        case y25_22 =>
          rintro W hH
          have hcv := HCV.out W hH
          go_simp
          with_reducible rfl
        simp only [Act.put]
        try simp only [List.getElem_toArray, List.getElem_cons_succ, List.getElem_cons_zero]
        try simp only [List.setIfInBounds_toArray, List.set_cons_succ, List.set_cons_zero]
        refine wpAnyH_take (i := 26) (v := ?v26_23) rfl (by kernel_rfl) (by kernel_rfl) (by kernel_rfl) (fun _ _ _ h => h) (Or.inl ⟨by rfl, ?y26_23⟩) hS ?r26_23
        case y26_23 =>
          rintro W hH
          have hcv := HCV.out W hH
          go_simp
          with_reducible rfl
        simp only [Act.put]
        try simp only [List.getElem_toArray, List.getElem_cons_succ, List.getElem_cons_zero]
        try simp only [List.setIfInBounds_toArray, List.set_cons_succ, List.set_cons_zero]
        refine wpAnyH_take (i := 27) (v := ?v27_24) rfl (by kernel_rfl) (by kernel_rfl) (by kernel_rfl) (fun _ _ _ h => h) (Or.inl ⟨by rfl, ?y27_24⟩) hS ?r27_24
        case y27_24 =>
          rintro W hH
          have hcv := HCV.out W hH
          go_simp
          with_reducible rfl
        simp only [Act.put]
        try simp only [List.getElem_toArray, List.getElem_cons_succ, List.getElem_cons_zero]
        try simp only [List.setIfInBounds_toArray, List.set_cons_succ, List.set_cons_zero]
        refine wpAnyH_take (i := 28) (v := .agg (arr8 T)) rfl (by kernel_rfl) (by kernel_rfl) (by kernel_rfl) (fun _ _ _ h => h) ?y28_25 hS ?r28_25
        case y28_25 => exact yieldsIf_load_mid (cs := (nI T).map (Value.int .u8)) (by rfl) 35 (.tmp 6) rfl _ 0 rfl _ (fun W hH => held_range (hTT.below hH hTT.lt)) Tryd.underlying35 rfl (hash_info T hTl)
        simp only [Act.put]
        try simp only [List.getElem_toArray, List.getElem_cons_succ, List.getElem_cons_zero]
        try simp only [List.setIfInBounds_toArray, List.set_cons_succ, List.set_cons_zero]
        refine wpAnyH_take (i := 30) (v := .agg (arr8 T)) rfl (by kernel_rfl) (by kernel_rfl) (by kernel_rfl) (fun _ _ _ h => h) ?y30_26 hS ?r30_26
        case y30_26 => exact yieldsIf_load_mid (cs := (nI T).map (Value.int .u8)) (by rfl) 35 (.tmp 6) rfl _ 0 rfl _ (fun W hH => held_range (hTT.below hH hTT.lt)) Tryd.underlying35 rfl (hash_info T hTl)
        simp only [Act.put]
        try simp only [List.getElem_toArray, List.getElem_cons_succ, List.getElem_cons_zero]
        try simp only [List.setIfInBounds_toArray, List.set_cons_succ, List.set_cons_zero]
        refine wpAnyH_take (i := 31) (v := .agg (arr8 D)) rfl (by kernel_rfl) (by kernel_rfl) (by kernel_rfl) (fun _ _ _ h => h) ?y31_27 hS ?r31_27
        case y31_27 => exact yieldsIf_load_mid (cs := (nI D).map (Value.int .u8)) (by rfl) 35 (.tmp 10) rfl _ 0 rfl _ (fun W hH => held_range (hX.below hH hX.lt)) Tryd.underlying35 rfl (hash_info D hDl)
        simp only [Act.put]
        try simp only [List.getElem_toArray, List.getElem_cons_succ, List.getElem_cons_zero]
        try simp only [List.setIfInBounds_toArray, List.set_cons_succ, List.set_cons_zero]
        refine wpAnyH_take (i := 32) (v := ?v32_28) rfl (by kernel_rfl) (by kernel_rfl) (by kernel_rfl) (fun _ _ _ h => h) (Or.inl ⟨by rfl, ?y32_28⟩) hS ?r32_28
        case y32_28 =>
          rintro W hH
          have hcv := HCV.out W hH
          go_simp
          with_reducible rfl
        simp only [Act.put]
        try simp only [List.getElem_toArray, List.getElem_cons_succ, List.getElem_cons_zero]
        try simp only [List.setIfInBounds_toArray, List.set_cons_succ, List.set_cons_zero]
        refine wpAnyH_ready (rs := [29]) (by kernel_rfl) (by simp) ?_
        refine AllReadyH.cons rfl (fun K' hK' => ?_) AllReadyH.nil
        go_simp
        refine (KR2.out _ hS).mono ?_
        rintro e W4 ⟨rfl, hb⟩
        have hS2 := hS.trans (hb.mono hS.size)
        clear hS hb
        go_simp
        refine hK'.out _ _ hS2 (fun hS => ?_)
        clear hK' K'
        refine wpAnyH_take (i := 33) (v := ?v33_29) rfl (by kernel_rfl) (by kernel_rfl) (by kernel_rfl) (fun _ _ _ h => h) (Or.inl ⟨by rfl, ?y33_29⟩) hS ?r33_29
        case y33_29 =>
          rintro W hH
          have hcv := HCV.out W hH
          go_simp
          with_reducible rfl
        simp only [Act.put]
        try simp only [List.getElem_toArray, List.getElem_cons_succ, List.getElem_cons_zero]
        try simp only [List.setIfInBounds_toArray, List.set_cons_succ, List.set_cons_zero]
        refine wpAnyH_take (i := 34) (v := ?v34_30) rfl (by kernel_rfl) (by kernel_rfl) (by kernel_rfl) (fun _ _ _ h => h) (Or.inl ⟨by rfl, ?y34_30⟩) hS ?r34_30
        case y34_30 =>
          rintro W hH
          have hcv := HCV.out W hH
          go_simp
          with_reducible rfl
        simp only [Act.put]
        try simp only [List.getElem_toArray, List.getElem_cons_succ, List.getElem_cons_zero]
        try simp only [List.setIfInBounds_toArray, List.set_cons_succ, List.set_cons_zero]
        refine wpAnyH_take (i := 35) (v := ?v35_31) rfl (by kernel_rfl) (by kernel_rfl) (by kernel_rfl) (fun _ _ _ h => h) (Or.inl ⟨by rfl, ?y35_31⟩) hS ?r35_31
        case y35_31 =>
          rintro W hH
          have hcv := HCV.out W hH
          go_simp
          with_reducible rfl
        simp only [Act.put]
        try simp only [List.getElem_toArray, List.getElem_cons_succ, List.getElem_cons_zero]
        try simp only [List.setIfInBounds_toArray, List.set_cons_succ, List.set_cons_zero]
        refine wpAnyH_take (i := 36) (v := ?v36_32) rfl (by kernel_rfl) (by kernel_rfl) (by kernel_rfl) (fun _ _ _ h => h) (Or.inl ⟨by rfl, ?y36_32⟩) hS ?r36_32
        case y36_32 =>
          rintro W hH
          have hcv := HCV.out W hH
          go_simp
          with_reducible rfl
        simp only [Act.put]
        try simp only [List.getElem_toArray, List.getElem_cons_succ, List.getElem_cons_zero]
        try simp only [List.setIfInBounds_toArray, List.set_cons_succ, List.set_cons_zero]
        refine wpAnyH_take (i := 37) (v := ?v37_33) rfl (by kernel_rfl) (by kernel_rfl) (by kernel_rfl) (fun _ _ _ h => h) (Or.inl ⟨by rfl, ?y37_33⟩) hS ?r37_33
        case y37_33 =>
          rintro W hH
          have hcv := HCV.out W hH
          go_simp
          with_reducible rfl
        simp only [Act.put]
        try simp only [List.getElem_toArray, List.getElem_cons_succ, List.getElem_cons_zero]
        try simp only [List.setIfInBounds_toArray, List.set_cons_succ, List.set_cons_zero]
        refine wpAnyH_take (i := 38) (v := .agg (arr8 D)) rfl (by kernel_rfl) (by kernel_rfl) (by kernel_rfl) (fun _ _ _ h => h) ?y38_34 hS ?r38_34
        case y38_34 => exact yieldsIf_load_mid (cs := (nI D).map (Value.int .u8)) (by rfl) 35 (.tmp 10) rfl _ 0 rfl _ (fun W hH => held_range (hX.below hH hX.lt)) Tryd.underlying35 rfl (hash_info D hDl)
        simp only [Act.put]
        try simp only [List.getElem_toArray, List.getElem_cons_succ, List.getElem_cons_zero]
        try simp only [List.setIfInBounds_toArray, List.set_cons_succ, List.set_cons_zero]
        refine wpAnyH_ready (rs := [39]) (by kernel_rfl) (by simp) ?_
        refine AllReadyH.cons rfl (fun K' hK' => ?_) AllReadyH.nil
        go_simp
        refine (KR1.out _ hS).mono ?_
        rintro e W5 ⟨rfl, hb⟩
        have hS2 := hS.trans (hb.mono hS.size)
        clear hS hb
        go_simp
        refine hK'.out _ _ hS2 (fun hS => ?_)
        clear hK' K'
        refine wpAnyH_take (i := 40) (v := ?v40_35) rfl (by kernel_rfl) (by kernel_rfl) (by kernel_rfl) (fun _ _ _ h => h) (Or.inl ⟨by rfl, ?y40_35⟩) hS ?r40_35
        case y40_35 =>
          rintro W hH
          have hcv := HCV.out W hH
          go_simp
          with_reducible rfl
        simp only [Act.put]
        try simp only [List.getElem_toArray, List.getElem_cons_succ, List.getElem_cons_zero]
        try simp only [List.setIfInBounds_toArray, List.set_cons_succ, List.set_cons_zero]
        refine wpAnyH_take (i := 41) (v := ?v41_36) rfl (by kernel_rfl) (by kernel_rfl) (by kernel_rfl) (fun _ _ _ h => h) (Or.inl ⟨by rfl, ?y41_36⟩) hS ?r41_36
        case y41_36 =>
          rintro W hH
          have hcv := HCV.out W hH
          go_simp
          with_reducible rfl
        simp only [Act.put]
        try simp only [List.getElem_toArray, List.getElem_cons_succ, List.getElem_cons_zero]
        try simp only [List.setIfInBounds_toArray, List.set_cons_succ, List.set_cons_zero]
        refine wpAnyH_take (i := 42) (v := ?v42_37) rfl (by kernel_rfl) (by kernel_rfl) (by kernel_rfl) (fun _ _ _ h => h) (Or.inl ⟨by rfl, ?y42_37⟩) hS ?r42_37
        case y42_37 =>
          rintro W hH
          have hcv := HCV.out W hH
          go_simp
          with_reducible rfl
        simp only [Act.put]
        try simp only [List.getElem_toArray, List.getElem_cons_succ, List.getElem_cons_zero]
        try simp only [List.setIfInBounds_toArray, List.set_cons_succ, List.set_cons_zero]
        refine wpAnyH_take (i := 43) (v := ?v43_38) rfl (by kernel_rfl) (by kernel_rfl) (by kernel_rfl) (fun _ _ _ h => h) (Or.inl ⟨by rfl, ?y43_38⟩) hS ?r43_38
        case y43_38 =>
          rintro W hH
          have hcv := HCV.out W hH
          go_simp
          with_reducible rfl
        simp only [Act.put]
        try simp only [List.getElem_toArray, List.getElem_cons_succ, List.getElem_cons_zero]
        try simp only [List.setIfInBounds_toArray, List.set_cons_succ, List.set_cons_zero]
        refine wpAnyH_take (i := 44) (v := ?v44_39) rfl (by kernel_rfl) (by kernel_rfl) (by kernel_rfl) (fun _ _ _ h => h) (Or.inl ⟨by rfl, ?y44_39⟩) hS ?r44_39
        case y44_39 =>
          rintro W hH
          have hcv := HCV.out W hH
          go_simp
          with_reducible rfl
        simp only [Act.put]
        try simp only [List.getElem_toArray, List.getElem_cons_succ, List.getElem_cons_zero]
        try simp only [List.setIfInBounds_toArray, List.set_cons_succ, List.set_cons_zero]
        refine wpAnyH_take (i := 45) (v := ?v45_40) rfl (by kernel_rfl) (by kernel_rfl) (by kernel_rfl) (fun _ _ _ h => h) (Or.inl ⟨by rfl, ?y45_40⟩) hS ?r45_40
        case y45_40 =>
          rintro W hH
          have hcv := HCV.out W hH
          go_simp
          with_reducible rfl
        simp only [Act.put]
        try simp only [List.getElem_toArray, List.getElem_cons_succ, List.getElem_cons_zero]
        try simp only [List.setIfInBounds_toArray, List.set_cons_succ, List.set_cons_zero]
        refine wpAnyH_take (i := 46) (v := ?v46_41) rfl (by kernel_rfl) (by kernel_rfl) (by kernel_rfl) (fun _ _ _ h => h) (Or.inl ⟨by rfl, ?y46_41⟩) hS ?r46_41
        case y46_41 =>
          rintro W hH
          have hcv := HCV.out W hH
          go_simp
          with_reducible rfl
        simp only [Act.put]
        try simp only [List.getElem_toArray, List.getElem_cons_succ, List.getElem_cons_zero]
        try simp only [List.setIfInBounds_toArray, List.set_cons_succ, List.set_cons_zero]
        refine wpAnyH_take (i := 47) (v := ?v47_42) rfl (by kernel_rfl) (by kernel_rfl) (by kernel_rfl) (fun _ _ _ h => h) (Or.inl ⟨by rfl, ?y47_42⟩) hS ?r47_42
        case y47_42 =>
          rintro W hH
          have hcv := HCV.out W hH
          go_simp
          with_reducible rfl
        simp only [Act.put]
        try simp only [List.getElem_toArray, List.getElem_cons_succ, List.getElem_cons_zero]
        try simp only [List.setIfInBounds_toArray, List.set_cons_succ, List.set_cons_zero]
        refine wpAnyH_take (i := 48) (v := ?v48_43) rfl (by kernel_rfl) (by kernel_rfl) (by kernel_rfl) (fun _ _ _ h => h) (Or.inl ⟨by rfl, ?y48_43⟩) hS ?r48_43
        case y48_43 =>
          rintro W hH
          have hcv := HCV.out W hH
          go_simp
          with_reducible rfl
        simp only [Act.put]
        try simp only [List.getElem_toArray, List.getElem_cons_succ, List.getElem_cons_zero]
        try simp only [List.setIfInBounds_toArray, List.set_cons_succ, List.set_cons_zero]
        refine wpAnyH_take (i := 49) (v := ?v49_44) rfl (by kernel_rfl) (by kernel_rfl) (by kernel_rfl) (fun _ _ _ h => h) (Or.inl ⟨by rfl, ?y49_44⟩) hS ?r49_44
        case y49_44 =>
          rintro W hH
          have hcv := HCV.out W hH
          go_simp
          with_reducible rfl
        simp only [Act.put]
        try simp only [List.getElem_toArray, List.getElem_cons_succ, List.getElem_cons_zero]
        try simp only [List.setIfInBounds_toArray, List.set_cons_succ, List.set_cons_zero]
        refine wpAnyH_take (i := 50) (v := ?v50_45) rfl (by kernel_rfl) (by kernel_rfl) (by kernel_rfl) (fun _ _ _ h => h) (Or.inl ⟨by rfl, ?y50_45⟩) hS ?r50_45
        case y50_45 =>
          rintro W hH
          have hcv := HCV.out W hH
          go_simp
          with_reducible rfl
        simp only [Act.put]
        try simp only [List.getElem_toArray, List.getElem_cons_succ, List.getElem_cons_zero]
        try simp only [List.setIfInBounds_toArray, List.set_cons_succ, List.set_cons_zero]
        refine wpAnyH_take (i := 51) (v := ?v51_46) rfl (by kernel_rfl) (by kernel_rfl) (by kernel_rfl) (fun _ _ _ h => h) (Or.inl ⟨by rfl, ?y51_46⟩) hS ?r51_46
        case y51_46 =>
          rintro W hH
          have hcv := HCV.out W hH
          go_simp
          with_reducible rfl
        simp only [Act.put]
        try simp only [List.getElem_toArray, List.getElem_cons_succ, List.getElem_cons_zero]
        try simp only [List.setIfInBounds_toArray, List.set_cons_succ, List.set_cons_zero]
        refine wpAnyH_take (i := 52) (v := ?v52_47) rfl (by kernel_rfl) (by kernel_rfl) (by kernel_rfl) (fun _ _ _ h => h) (Or.inl ⟨by rfl, ?y52_47⟩) hS ?r52_47
        case y52_47 =>
          rintro W hH
          have hcv := HCV.out W hH
          go_simp
          with_reducible rfl
        simp only [Act.put]
        try simp only [List.getElem_toArray, List.getElem_cons_succ, List.getElem_cons_zero]
        try simp only [List.setIfInBounds_toArray, List.set_cons_succ, List.set_cons_zero]
        refine wpAnyH_take (i := 53) (v := ?v53_48) rfl (by kernel_rfl) (by kernel_rfl) (by kernel_rfl) (fun _ _ _ h => h) (Or.inl ⟨by rfl, ?y53_48⟩) hS ?r53_48
        case y53_48 =>
          rintro W hH
          have hcv := HCV.out W hH
          go_simp
          with_reducible rfl
        simp only [Act.put]
        try simp only [List.getElem_toArray, List.getElem_cons_succ, List.getElem_cons_zero]
        try simp only [List.setIfInBounds_toArray, List.set_cons_succ, List.set_cons_zero]
        refine wpAnyH_done (by kernel_rfl) ?_ _
        go_wp2_with fail
        go_ret
        exact ⟨rfl, HHW.out.trans (hS.mono (by have := HHW.out.size; omega))⟩
end Go.Proofs.YtjkhkgdijnhdmaaDoor
