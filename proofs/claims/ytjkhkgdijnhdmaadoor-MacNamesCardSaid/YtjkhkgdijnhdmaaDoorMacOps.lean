/- A Mac in memory: none, Write, Sum, Copy, Is. -/
import Derived.Test.YtjkhkgdijnhdmaaDoorMacObj
namespace Go.Proofs.YtjkhkgdijnhdmaaDoor
open Go.RowKit

/-- The tag of bytes, by a block. -/
def mtag (K all : List Nat) : List Nat := Sh.digest (mpad K 92 ++ Sh.digest (mpad K 54 ++ all))
theorem mtag_len (K all : List Nat) : (mtag K all).length = 32 := Sh.digest_len _
theorem mtag_in (K all : List Nat) : ∀ x ∈ mtag K all, x < 256 := Sh.digest_in _
theorem SlI.held {w : World} {b : Nat} {t : TypeId} {D : List Nat} {n : Nat} (h : Held w b t (arr8 D)) (hl : D.length = n) (hn : n ≤ 1000000) : SlI w w.heap.size .u8 (some ⟨b, 0, none⟩) D.length n (nI D) := by
  refine ⟨by rw [nI_len], by omega, by unfold maxLen; omega, (fun e => by cases e), fun _ => ⟨b, 0, rfl, h.lt, fun i x hx => ?_⟩⟩
  rw [Nat.zero_add, h.cell i]
  simp only [nI, List.getElem?_map, Option.map_eq_some_iff] at hx
  obtain ⟨y, hy, rfl⟩ := hx
  exact arr8_at _ _ _ hy
theorem Held.setRow {w : World} {b g : Nat} {t : TypeId} {cs : Array Value} (h : Held w b t cs) (hg : b ≠ g) (ds : Array Value) : Held (w.setRow g ds) b t cs := (setRow_other w g b ds hg).trans h
theorem none_some (w : World) (gm gs : Nat) (K : List Nat) (hKl : K.length = 64) (hH : Held w gm 63 (macC K gs)) :
    Calls Tryd.prog 52 #[.pointer (some ⟨gm, 0, none⟩)] w fun e w' => e = .returned (.bool false) ∧ w = w' := by
  have hc : w.cell? ⟨gm, 64, none⟩ = some (.pointer (some ⟨gs, 0, none⟩)) := (hH.cell 64).trans (macC_s K gs hKl)
  clear hH
  go_in
  go_wp2
  go_ret
  exact ⟨rfl, rfl⟩
theorem none_nil (w : World) : Calls Tryd.prog 52 #[.pointer none] w fun e w' => e = .returned (.bool true) ∧ w = w' := by
  go_in
  go_wp2
  go_ret
  exact ⟨rfl, rfl⟩
theorem none_zero (w : World) (gm : Nat) (hc : w.cell? ⟨gm, 64, none⟩ = some (.pointer none)) : Calls Tryd.prog 52 #[.pointer (some ⟨gm, 0, none⟩)] w fun e w' => e = .returned (.bool true) ∧ w = w' := by
  go_in
  go_wp2
  go_ret
  exact ⟨rfl, rfl⟩
set_option maxRecDepth 100000 in
theorem mwrite_own (B gm gs : Nat) (v : Value) (K all bs : List Nat) (A : Option Addr) (cap : Nat) (w : World) (hB : B ≤ w.heap.size) (hf : 0 < B) (hk : 1 < B)
    (hT : Tab w 0 .u32 firstI) (hT2 : Tab w 1 .u32 kI) (h : MacAt w B gm gs v K all) (hR : SlI w w.heap.size .u8 A bs.length cap (nI bs)) (hAg : 0 < bs.length → ∀ a, A = some a → a.block ≠ gs) (hbs : ∀ x ∈ bs, x < 256) (hmax : all.length + bs.length ≤ 900000) :
    Calls Tryd.prog 29 #[.pointer (some ⟨gm, 0, none⟩), .slice A bs.length cap] w fun e w' => (∃ u, e = .returned u) ∧ ∃ v', MacAt w' B gm gs v' K (all ++ bs) ∧ KeepW w w' gs v ∧ ∀ b, v'.ownBlock = some b → w.heap.size ≤ b := by
  have hKl := h.len
  have hH := h.held
  have hc : w.cell? ⟨gm, 64, none⟩ = some (.pointer (some ⟨gs, 0, none⟩)) := (hH.cell 64).trans (macC_s K gs hKl)
  have hml : (mpad K 54).length = 64 := by rw [mpad_len]; exact hKl
  have HN := Lib.hid (none_some w gm gs K hKl hH)
  have HW := Lib.hid (write_in B gs v (mpad K 54 ++ all) bs A cap w hB hf hk hT hT2 h.sha hR hAg hbs (by rw [List.length_append, hml]; omega))
  have HM := Lib.hid h
  clear h hT hT2 hR hbs hAg hH
  go_in
  go_wp2_with fail
  refine HN.out.mono ?_
  rintro e w1 ⟨rfl, rfl⟩
  go_wp2_with fail
  refine ((callsIn_wide (n := 6)).1 HW.out).mono ?_
  rintro e w2 ⟨⟨u, rfl⟩, v', hS2, hK2, hv2⟩
  go_wp2
  go_end0
  refine ⟨⟨_, rfl⟩, v', ⟨(hK2.block gm HM.out.held.lt HM.out.ne (fun e => HM.out.nv gm e.symm rfl)).trans HM.out.held, HM.out.len, HM.out.lt, HM.out.low, HM.out.ne, fun b e => by have := hv2 b e; have := HM.out.held.lt; omega, by rw [← List.append_assoc]; exact hS2⟩, hK2, hv2⟩
set_option maxRecDepth 100000 in
set_option maxHeartbeats 4000000 in
theorem msum_own (B gm gs : Nat) (v : Value) (K all : List Nat) (w : World) (hB : B ≤ w.heap.size) (hf : 0 < B) (hk : 1 < B)
    (hT : Tab w 0 .u32 firstI) (hT2 : Tab w 1 .u32 kI) (h : MacAt w B gm gs v K all) (hmax : all.length ≤ 900000) :
    Calls Tryd.prog 32 #[.pointer (some ⟨gm, 0, none⟩)] w fun e w' => e = .returned (.agg (arr8 (mtag K all))) ∧ Below w.heap.size w w' := by
  have hKl := h.len
  have hml54 : (mpad K 54).length = 64 := by rw [mpad_len]; exact hKl
  have hml : (mpad K 92).length = 64 := by rw [mpad_len]; exact hKl
  have HKI := Lib.hid h.lt
  have hgm := h.held.lt
  have HT := Lib.hid (fun (W : World) (h : Below w.heap.size w W) => And.intro (hT.up h) (hT2.up h))
  obtain ⟨w1, hw1⟩ : ∃ w1, w.alloc (.cells (arr8 zz32) 35) = w1 := ⟨_, rfl⟩
  have hb1 : Below w.heap.size w w1 := by rw [← hw1]; exact (Below.refl _ w).alloc (Nat.le_refl _) _
  have hz1 : w1.heap.size = w.heap.size + 1 := by rw [← hw1]; simp
  have hO1 : Held w1 w.heap.size 35 (arr8 zz32) := by rw [← hw1]; exact Held.new _ _ _
  have hM1 := h.held.below hb1 hgm
  have hc1 : w1.cell? ⟨gm, 64, none⟩ = some (.pointer (some ⟨gs, 0, none⟩)) := (hM1.cell 64).trans (macC_s K gs hKl)
  have HN := Lib.hid (none_some w1 gm gs K hKl hM1)
  have ks := sum_own B gs v (mpad K 54 ++ all) w1 (by omega) hf hk (hT.up hb1) (hT2.up hb1) (h.sha.below hb1) (by rw [List.length_append, hml54]; omega)
  obtain ⟨D1, hD1⟩ : ∃ D, Sh.digest (mpad K 54 ++ all) = D := ⟨_, rfl⟩
  have hdl : D1.length = 32 := by rw [← hD1]; exact Sh.digest_len _
  have HDI : Hid (∀ x ∈ D1, x < 256) := Lib.hid (by rw [← hD1]; exact Sh.digest_in _)
  rw [hD1] at ks
  have HS := Lib.hid ks
  obtain ⟨D2, hD2⟩ : ∃ D, mtag K all = D := ⟨_, rfl⟩
  have hdl2 : D2.length = 32 := by rw [← hD2]; exact mtag_len K all
  have HD2 : Hid (Sh.digest (mpad K 92 ++ D1) = D2) := Lib.hid (by rw [← hD2, ← hD1]; rfl)
  rw [hD2]
  have hsD := hash_size D1 hdl
  have hs0 : (arr8 zz32).size = (arr8 D1).size := by rw [arr8_size, arr8_size, hdl]; rfl
  have hsD2 := hash_size D2 hdl2
  have hs02 : (arr8 zz32).size = (arr8 D2).size := by rw [arr8_size, arr8_size, hdl2]; rfl
  clear h hT hT2 ks hD1 hD2
  go_in
  go_wp2_with fail
  change Calls _ _ _ (w.alloc (.cells (arr8 zz32) 35)) _
  rw [hw1]
  refine HN.out.mono ?_
  rintro e w9 ⟨rfl, rfl⟩
  go_wp2_with fail
  refine HS.out.mono ?_
  rintro e w2 ⟨rfl, hb2⟩
  obtain ⟨w3, hw3⟩ : ∃ w3, w2.alloc (.cells (arr8 D1) 35) = w3 := ⟨_, rfl⟩
  have hb3 : Below w1.heap.size w1 w3 := by rw [← hw3]; exact hb2.alloc hb2.size _
  have hH3 : Held w3 w2.heap.size 35 (arr8 D1) := by rw [← hw3]; exact Held.new _ _ _
  have hz2 := hb2.size
  have hz3 : w3.heap.size = w2.heap.size + 1 := by rw [← hw3]; simp
  have hM3 := hM1.below hb3 (by omega)
  have hO3 := hO1.below hb3 (by omega)
  have hb3w := hb1.trans (hb3.mono (by omega))
  go_wp2_with (first
    | (refine wpList_store_row rfl 35 (.tmp 3) (.tmp 11) rfl w2.heap.size (arr8 D1) rfl rfl 35 (arr8 zz32) (heap_alloc_new w2 _) hsD hs0 (arr8_one _) ?_
       rw [World.setRow_alloc_new, hw3])
    | fail)
  have hM : Held w3.drew gm 63 (macC K gs) := hM3
  have hO : Held w3.drew w.heap.size 35 (arr8 zz32) := hO3
  have hbw : Below w.heap.size w w3.drew := hb3w.drew
  have hD3 : Held w3.drew w2.heap.size 35 (arr8 D1) := hH3
  have KP := padded_own K 92 HKI.out (by decide) hKl (some ⟨w2.heap.size, 0, none⟩) 32 D1 w3.drew (SlI.held hD3 hdl (by omega)) (by omega)
  rw [hdl] at KP
  have HP := Lib.hid KP
  have hzd : w3.drew.heap.size = w3.heap.size := rfl
  clear KP hD3 hM3 hO3 hb3w hb3 hb2 hH3 hM1 hO1 hb1 hc1
  refine wp_region_held (S := fun W => Held W gm 63 (macC K gs)) (by kernel_rfl) ?_
  change wpAnyH _ _ _ _ _ _ _ _ w3.drew
  generalize w3.drew = w4 at hM hO hbw HP hzd ⊢
  refine wpAnyH_take (i := 0) (v := ?v0_1) rfl (by kernel_rfl) (by kernel_rfl) (by kernel_rfl) (fun _ _ _ h => h) (Or.inl ⟨by rfl, ?y0_1⟩) hM ?r0_1
  case y0_1 =>
    rintro W hH
    have hc : W.cell? ⟨gm, 64, none⟩ = some (.pointer (some ⟨gs, 0, none⟩)) := (hH.cell 64).trans (macC_s K gs hKl)
    go_simp
    with_reducible rfl
  simp only [Act.put]
  refine wpAnyH_take (i := 1) (v := ?v1_2) rfl (by kernel_rfl) (by kernel_rfl) (by kernel_rfl) (fun _ _ _ h => h) (Or.inl ⟨by rfl, ?y1_2⟩) hM ?r1_2
  case y1_2 =>
    rintro W hH
    have hc : W.cell? ⟨gm, 64, none⟩ = some (.pointer (some ⟨gs, 0, none⟩)) := (hH.cell 64).trans (macC_s K gs hKl)
    go_simp
    with_reducible rfl
  simp only [Act.put]
  refine wpAnyH_take (i := 2) (v := ?v2_3) rfl (by kernel_rfl) (by kernel_rfl) (by kernel_rfl) (fun _ _ _ h => h) (Or.inl ⟨by rfl, ?y2_3⟩) hM ?r2_3
  case y2_3 =>
    rintro W hH
    have hc : W.cell? ⟨gm, 64, none⟩ = some (.pointer (some ⟨gs, 0, none⟩)) := (hH.cell 64).trans (macC_s K gs hKl)
    go_simp
    with_reducible rfl
  simp only [Act.put]
  refine wpAnyH_take (i := 3) (v := .agg (arr8 K)) rfl (by kernel_rfl) (by kernel_rfl) (by kernel_rfl) (fun _ _ _ h => h) ?y3_4 hM ?r3_4
  case y3_4 => exact yieldsIf_load_mid (cs := (nI K).map (Value.int .u8)) (by rfl) 61 (.tmp 14) rfl gm 0 rfl _ (fun W hH => mac_range K gs hH) Tryd.underlying61 rfl (mac_info K hKl)
  simp only [Act.put]
  refine wpAnyH_take (i := 4) (v := ?v4_5) rfl (by kernel_rfl) (by kernel_rfl) (by kernel_rfl) (fun _ _ _ h => h) (Or.inl ⟨by rfl, ?y4_5⟩) hM ?r4_5
  case y4_5 =>
    rintro W hH
    have hc : W.cell? ⟨gm, 64, none⟩ = some (.pointer (some ⟨gs, 0, none⟩)) := (hH.cell 64).trans (macC_s K gs hKl)
    go_simp
    with_reducible rfl
  simp only [Act.put]
  refine wpAnyH_ready (rs := [5]) (by kernel_rfl) (by simp) ?_
  refine AllReadyH.cons rfl (fun K' hK' => ?_) AllReadyH.nil
  go_simp
  refine HP.out.mono ?_
  rintro e w5 ⟨vp, rfl, hO5, hb5⟩
  obtain ⟨A5, c5, rfl, s5⟩ := SlI.of_own hO5
  have hz5 := hb5.size
  have hb5w := hbw.trans (hb5.mono (by omega))
  have hM5 := hM.below hb5 hM.lt
  have hO5r := hO.below hb5 hO.lt
  have KO := of_own A5 c5 (mpad K 92 ++ D1) w5 (HT.out w5 hb5w).1 (HT.out w5 hb5w).2 s5 (fun x hx => (List.mem_append.1 hx).elim (mpad_in K 92 HKI.out (by decide) x) (HDI.out x)) (by rw [List.length_append, hml, hdl]; simp)
  rw [HD2.out, show (mpad K 92 ++ D1).length = 96 by rw [List.length_append, hml, hdl]] at KO
  have HO := Lib.hid KO
  clear KO
  go_simp
  refine hK'.out _ _ hM5 (fun hM => ?_)
  clear hK' K'
  refine wpAnyH_ready (rs := [6]) (by kernel_rfl) (by simp) ?_
  refine AllReadyH.cons rfl (fun K' hK' => ?_) AllReadyH.nil
  go_simp
  refine HO.out.mono ?_
  rintro e w6 ⟨rfl, hb6⟩
  have hM6 := hM5.below hb6 hM5.lt
  have hO6 := hO5r.below hb6 hO5r.lt
  have hb6w := hb5w.trans (hb6.mono (by omega))
  go_simp
  refine hK'.out _ _ hM6 (fun hM => ?_)
  clear hK' K'
  refine wpAnyH_ready (rs := [7]) (by kernel_rfl) (by simp) ?_
  refine AllReadyH.cons rfl (fun K' hK' => ?_) AllReadyH.nil
  refine wp_store_row 35 _ _ rfl _ _ rfl rfl 35 _ hO6 hsD2 hs02 (arr8_one _) ?_
  refine hK'.out _ _ (hM6.setRow (by omega) _) (fun hM => ?_)
  clear hK' K'
  refine wpAnyH_done (by kernel_rfl) ?_ _
  go_wp2_with fail
  refine bodyPost_ret (v := .agg (arr8 D2)) (results_cell_row Tryd.results32 _ _ w.heap.size 35 (arr8 D2) (0, 0) _ rfl (setRow_heap _ _ _ _ _ _ hO6) Tryd.underlying35 rfl hsD2) rfl ⟨rfl, below_setRow hb6w _ _ (Nat.le_refl _)⟩
end Go.Proofs.YtjkhkgdijnhdmaaDoor
