/- mac.Of, Right and Short. -/
import Derived.Test.YtjkhkgdijnhdmaaDoorMacMore
import Derived.Lib.SliceRun
namespace Go.Proofs.YtjkhkgdijnhdmaaDoor
open Go.RowKit

theorem ShaAt.low {w : World} {B g : Nat} {v : Value} {all : List Nat} (h : ShaAt w B g v all) : B ≤ g := by
  obtain ⟨s, bg, hX, hst, hBg, r⟩ := h
  exact hBg
set_option maxRecDepth 100000 in
set_option maxHeartbeats 4000000 in
theorem macof_own (A : Option Addr) (cap : Nat) (key : List Nat) (A2 : Option Addr) (cap2 : Nat) (bs : List Nat) (w : World) (hT : Tab w 0 .u32 firstI) (hT2 : Tab w 1 .u32 kI)
    (hR : SlI w w.heap.size .u8 A key.length cap (nI key)) (hki : ∀ x ∈ key, x < 256) (hkm : key.length ≤ 800000) (hR2 : SlI w w.heap.size .u8 A2 bs.length cap2 (nI bs)) (hbi : ∀ x ∈ bs, x < 256) (hbm : bs.length ≤ 800000) :
    Calls Tryd.prog 31 #[.slice A key.length cap, .slice A2 bs.length cap2] w fun e w' => e = .returned (.agg (arr8 (mtag (mkey key) bs))) ∧ Below w.heap.size w w' := by
  obtain ⟨w1, hw1⟩ : ∃ w1, w.alloc (.cells (arr8 zz32) 35) = w1 := ⟨_, rfl⟩
  have hb1 : Below w.heap.size w w1 := by rw [← hw1]; exact (Below.refl _ w).alloc (Nat.le_refl _) _
  have hz1 : w1.heap.size = w.heap.size + 1 := by rw [← hw1]; simp
  have hO1 : Held w1 w.heap.size 35 (arr8 zz32) := by rw [← hw1]; exact Held.new _ _ _
  have HT := Lib.hid (fun (W : World) (h : Below w.heap.size w W) => And.intro (hT.up h) (hT2.up h))
  have hf := hT.lt (by decide)
  have hk := hT2.lt (by decide)
  have HN := Lib.hid (new_own A cap key w1 (hT.up hb1) (hT2.up hb1) (hR.up hb1) hki (by omega))
  have HR2 := Lib.hid hR2
  have HBI := Lib.hid hbi
  clear hT hT2 hR hki hR2 hbi
  go_in
  go_wp2_with fail
  change Calls _ _ _ (w.alloc (.cells (arr8 zz32) 35)) _
  rw [hw1]
  refine HN.out.mono ?_
  rintro e w2 ⟨gm, gs, v, rfl, hM2, hb2⟩
  have hz2 := hb2.size
  have hb2w := hb1.trans (hb2.mono (by omega))
  have hlo := hM2.sha.low
  have hlt := hM2.sha.lt
  have HW := Lib.hid (mwrite_own w1.heap.size gm gs v (mkey key) [] bs A2 cap2 w2 hz2 (by omega) (by omega) (HT.out w2 hb2w).1 (HT.out w2 hb2w).2 hM2 (HR2.out.up hb2w) (fun h a ha => by
    obtain ⟨g, off, e, hg⟩ := HR2.out.some_ h
    rw [ha] at e
    injection e with e
    rw [e]
    show g ≠ _
    omega) HBI.out (by simp; omega))
  have hO2 := hO1.below hb2 (by omega)
  clear hM2 hO1
  go_wp2_with fail
  refine HW.out.mono ?_
  rintro e w3 ⟨⟨u, rfl⟩, v3, hM3, hK3, hv3⟩
  rw [List.nil_append] at hM3
  have hz3 := hK3.size
  have hb3 : Below w1.heap.size w2 w3 := hK3.below hz2 hlo (fun k e => (hlt.2 k e).1)
  have hb3w := hb2w.trans (hb3.mono (by omega))
  have hO3 := hO2.below hb3 (by omega)
  have ks := msum_own w1.heap.size gm gs v3 (mkey key) bs w3 (by omega) (by omega) (by omega) (HT.out w3 hb3w).1 (HT.out w3 hb3w).2 hM3 (by omega)
  obtain ⟨D, hD⟩ : ∃ D, mtag (mkey key) bs = D := ⟨_, rfl⟩
  have hdl : D.length = 32 := by rw [← hD]; exact mtag_len _ _
  rw [hD] at ks
  have HD := Lib.hid hD
  have HS := Lib.hid ks
  have hsD := hash_size D hdl
  have hs0 : (arr8 zz32).size = (arr8 D).size := by rw [arr8_size, arr8_size, hdl]; rfl
  clear hM3 hK3 hv3 ks hD hO2 hb2 hb3
  go_wp2_with fail
  refine HS.out.mono ?_
  rintro e w4 ⟨rfl, hb4⟩
  have hO4 := hO3.below hb4 hO3.lt
  have hb4w := hb3w.trans (hb4.mono (by omega))
  clear hO3 hb3w hb4
  go_wp2_with (refine wpList_store_row rfl 35 (.tmp 4) (.tmp 12) rfl w.heap.size (arr8 D) rfl rfl 35 (arr8 zz32) hO4 hsD hs0 (arr8_one _) ?_)
  refine bodyPost_ret (v := .agg (arr8 D)) (results_cell_row Tryd.results31 _ _ w.heap.size 35 (arr8 D) (0, 0) _ rfl (setRow_heap _ _ _ _ _ _ hO4) Tryd.underlying35 rfl hsD) rfl ⟨by rw [HD.out], below_setRow hb4w _ _ (Nat.le_refl _)⟩
set_option maxRecDepth 100000 in
set_option maxHeartbeats 4000000 in
theorem right_own (A : Option Addr) (cap : Nat) (key : List Nat) (A2 : Option Addr) (cap2 : Nat) (bs T : List Nat) (w : World) (hT : Tab w 0 .u32 firstI) (hT2 : Tab w 1 .u32 kI)
    (hR : SlI w w.heap.size .u8 A key.length cap (nI key)) (hki : ∀ x ∈ key, x < 256) (hkm : key.length ≤ 800000) (hR2 : SlI w w.heap.size .u8 A2 bs.length cap2 (nI bs)) (hbi : ∀ x ∈ bs, x < 256) (hbm : bs.length ≤ 800000) (hTl : T.length = 32) (hTi : ∀ x ∈ T, x < 256) :
    Calls Tryd.prog 34 #[.slice A key.length cap, .slice A2 bs.length cap2, .agg (arr8 T)] w fun e w' => e = .returned (.bool (decide (mtag (mkey key) bs = T))) ∧ Below w.heap.size w w' := by
  obtain ⟨w1, hw1⟩ : ∃ w1, w.alloc (.cells (arr8 T) 35) = w1 := ⟨_, rfl⟩
  have hb1 : Below w.heap.size w w1 := by rw [← hw1]; exact (Below.refl _ w).alloc (Nat.le_refl _) _
  have hz1 : w1.heap.size = w.heap.size + 1 := by rw [← hw1]; simp
  have hH1 : Held w1 w.heap.size 35 (arr8 T) := by rw [← hw1]; exact Held.new _ _ _
  have hM : Held w1.drew w.heap.size 35 (arr8 T) := hH1
  have hbw : Below w.heap.size w w1.drew := hb1.drew
  have hzd : w1.drew.heap.size = w1.heap.size := rfl
  have ks := macof_own A cap key A2 cap2 bs w1.drew (hT.up hbw) (hT2.up hbw) (hR.up hbw) hki hkm (hR2.up hbw) hbi hbm
  have hE := eql_two (mtag (mkey key) bs) T (mtag_len _ _) hTl (mtag_in _ _) hTi
  obtain ⟨D, hD⟩ : ∃ D, mtag (mkey key) bs = D := ⟨_, rfl⟩
  rw [hD] at ks hE
  rw [hD]
  have HO := Lib.hid ks
  clear ks hT hT2 hD hTi hH1 hR hki hR2 hbi
  go_in
  go_wp2_with fail
  refine wp_region_held (S := fun W => Held W w.heap.size 35 (arr8 T)) (by kernel_rfl) ?_
  change wpAnyH _ _ _ _ _ _ _ _ w1.drew
  generalize w1.drew = w4 at hM hbw HO hzd ⊢
  refine wpAnyH_take (i := 0) (v := ?v0_1) rfl (by kernel_rfl) (by kernel_rfl) (by kernel_rfl) (fun _ _ _ h => h) (Or.inl ⟨by rfl, ?y0_1⟩) hM ?r0_1
  case y0_1 =>
    rintro W hH
    go_simp
    with_reducible rfl
  simp only [Act.put]
  refine wpAnyH_take (i := 1) (v := ?v1_2) rfl (by kernel_rfl) (by kernel_rfl) (by kernel_rfl) (fun _ _ _ h => h) (Or.inl ⟨by rfl, ?y1_2⟩) hM ?r1_2
  case y1_2 =>
    rintro W hH
    go_simp
    with_reducible rfl
  simp only [Act.put]
  refine wpAnyH_take (i := 3) (v := .agg (arr8 T)) rfl (by kernel_rfl) (by kernel_rfl) (by kernel_rfl) (fun _ _ _ h => h) ?y3_3 hM ?r3_3
  case y3_3 => exact yieldsIf_load_mid (cs := (nI T).map (Value.int .u8)) (by rfl) 35 (.tmp 5) rfl (w.heap.size) 0 rfl _ (fun W hH => held_range hH) Tryd.underlying35 rfl (hash_info T hTl)
  simp only [Act.put]
  refine wpAnyH_ready (rs := [2]) (by kernel_rfl) (by simp) ?_
  refine AllReadyH.cons rfl (fun K' hK' => ?_) AllReadyH.nil
  go_simp
  refine HO.out.mono ?_
  rintro e w5 ⟨rfl, hb5⟩
  have hM5 := hM.below hb5 hM.lt
  have hb5w := hbw.trans (hb5.mono (by omega))
  go_simp
  refine hK'.out _ _ hM5 (fun hM => ?_)
  clear hK' K'
  refine wpAnyH_take (i := 4) (v := ?v4_4) rfl (by kernel_rfl) (by kernel_rfl) (by kernel_rfl) (fun _ _ _ h => h) (Or.inl ⟨by rfl, ?y4_4⟩) hM ?r4_4
  case y4_4 =>
    rintro W hH
    go_simp
    with_reducible rfl
  simp only [Act.put]
  refine wpAnyH_take (i := 5) (v := ?v5_5) rfl (by kernel_rfl) (by kernel_rfl) (by kernel_rfl) (fun _ _ _ h => h) (Or.inl ⟨by rfl, ?y5_5⟩) hM ?r5_5
  case y5_5 =>
    rintro W hH
    go_simp
    with_reducible rfl
  simp only [Act.put]
  try simp only [List.getElem_toArray, List.getElem_cons_succ, List.getElem_cons_zero]
  refine wpAnyH_done (by kernel_rfl) ?_ _
  go_wp2_with fail
  go_ret
  exact ⟨rfl, hb5w⟩
set_option maxRecDepth 100000 in
theorem clone_own (b m : Nat) (t : TypeId) (T : List Nat) (w : World) (hH : Held w b t (arr8 T)) (hTl : T.length = 32) (hm : m ≤ 32) :
    Calls Tryd.prog 53 #[.slice (some ⟨b, 0, none⟩) m 32] w fun e w' => ∃ v, e = .returned v ∧ w'.ownsRow w.heap.size 5 1 v m ((nI (T.take m)).map (Value.int .u8)) ∧ Below w.heap.size w w' := by
  obtain ⟨i0, hi0, hz0, hz1, hz2⟩ := info_parts infoB
  have hlen : (T.take m).length = m := by rw [List.length_take]; omega
  have sH : SlI w w.heap.size .u8 (some ⟨b, 0, none⟩) m 32 (nI (T.take m)) := by
    refine ⟨by rw [nI_len]; exact hlen, by omega, by unfold maxLen; omega, (fun e => by cases e), fun _ => ⟨b, 0, rfl, hH.lt, fun i x hx => ?_⟩⟩
    rw [Nat.zero_add, hH.cell i]
    simp only [nI, List.getElem?_map, Option.map_eq_some_iff, List.getElem?_take] at hx
    obtain ⟨y, hy, rfl⟩ := hx
    split at hy
    · exact arr8_at _ _ _ hy
    · cases hy
  have sX := sH.alloc (.cells #[] 5)
  have HM := Lib.hid (show 0 + m ≤ maxLen ∧ (0 + m) * 1 ≤ 140737488355328 ∧ w.heap.size ≤ (w.alloc (.cells #[] 5)).heap.size by unfold maxLen; simp; omega)
  have hnil : ∀ W, (binOp .eql 27 (.slice (some ⟨b, 0, none⟩) m 32) (.slice none 0 0)).run Tryd.prog W = .ok (.bool false) W := fun W => Lib.run_eql_slice_nil W _ _ (some ⟨b, 0, none⟩) m 32 0 0 Tryd.underlying27
  clear sH hH hlen
  go_in
  go_wp2_with (first
    | ((with_reducible refine at_append ?_); refine wpList_append_sl (w.alloc (.cells #[] 5)) rfl (.tmp 5) (.tmp 6) 27 rfl w.heap.size 5 i0 (.int .u8 0) 1 Tryd.underlying27 hi0 hz0 hz1 hz2 rfl (.slice (some ⟨w.heap.size, 0, none⟩) 0 0) 0 [] rfl (World.ownsRow_lit w #[] 0 (Nat.le_refl _) (by unfold maxLen; omega) rfl) _ .u8 (some ⟨b, 0, none⟩) m 32 (nI (T.take m)) rfl sX HM.out.1 HM.out.2.1 HM.out.2.2 ?_
       intro v4 w4 hO4 hg4 hv4
       simp only [Nat.zero_add, List.nil_append] at hO4)
    | fail)
  go_ret
  exact ⟨v4, rfl, hO4, ((Below.refl _ w).alloc (Nat.le_refl _) _).grown hg4 (by simp) (fun k e => by simp [Value.ownBlock] at e; omega)⟩
set_option maxRecDepth 100000 in
theorem short_own (n : Int) (T : List Nat) (w : World) (hTl : T.length = 32) (m : Nat) (hm : m ≤ 32) (hmn : max 0 (min n 32) = (m : Int)) :
    Calls Tryd.prog 30 #[.agg (arr8 T), .int .i64 n] w fun e w' => ∃ v, e = .returned v ∧ w'.ownsRow w.heap.size 5 1 v m ((nI (T.take m)).map (Value.int .u8)) ∧ Below w.heap.size w w' := by
  obtain ⟨w1, hw1⟩ : ∃ w1, w.alloc (.cells (arr8 T) 35) = w1 := ⟨_, rfl⟩
  have hb1 : Below w.heap.size w w1 := by rw [← hw1]; exact (Below.refl _ w).alloc (Nat.le_refl _) _
  have hz1 : w1.heap.size = w.heap.size + 1 := by rw [← hw1]; simp
  have hH1 : Held w1 w.heap.size 35 (arr8 T) := by rw [← hw1]; exact Held.new _ _ _
  have HC := Lib.hid (clone_own w.heap.size m 35 T w1 hH1 hTl hm)
  have i1 : (0 : Int) ≤ (m : Int) := by omega
  have i2 : (m : Int) ≤ 32 := by omega
  clear hH1
  go_in
  go_wp2_with fail
  refine HC.out.mono ?_
  rintro e w2 ⟨v, rfl, hO2, hb2⟩
  go_wp2_with fail
  go_ret
  exact ⟨v, rfl, own_base hO2 (by omega), hb1.trans (hb2.mono (by omega))⟩
end Go.Proofs.YtjkhkgdijnhdmaaDoor
