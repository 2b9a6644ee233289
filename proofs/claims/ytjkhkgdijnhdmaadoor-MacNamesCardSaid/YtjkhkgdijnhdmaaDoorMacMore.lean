/- A Mac in memory: Copy, Is, Of, Right, Short. -/
import Derived.Test.YtjkhkgdijnhdmaaDoorMacOps
import Derived.Test.YtjkhkgdijnhdmaaDoorShaCopies
namespace Go.Proofs.YtjkhkgdijnhdmaaDoor
open Go.RowKit

/-- A list of bytes. -/
def b8 (l : List Nat) : List UInt8 := bytesOf (nI l)
theorem nI_in {l : List Nat} (h : ∀ x ∈ l, x < 256) : ∀ x ∈ nI l, 0 ≤ x ∧ x < 256 := fun x hx => by
  simp only [nI, List.mem_map] at hx
  obtain ⟨y, hy, rfl⟩ := hx
  have := h y hy
  omega
theorem b8_arr {l : List Nat} (h : ∀ x ∈ l, x < 256) : arr8 l = ((b8 l).map Extern.Stop.cell).toArray := by
  unfold arr8
  congr 1
  exact (byteCells_of _ (nI_in h)).symm
theorem b8_len (l : List Nat) : (b8 l).length = l.length := by simp [b8, bytesOf, nI]
theorem b8_inj : ∀ {a b : List Nat}, (∀ x ∈ a, x < 256) → (∀ x ∈ b, x < 256) → b8 a = b8 b → a = b
  | [], [], _, _, _ => rfl
  | [], _ :: _, _, _, h => by simp [b8, bytesOf, nI] at h
  | _ :: _, [], _, _, h => by simp [b8, bytesOf, nI] at h
  | x :: a, y :: b, ha, hb, h => by
    have h1 : x.toUInt8 = y.toUInt8 ∧ b8 a = b8 b := by simpa [b8, bytesOf, nI] using h
    have h2 := b8_inj (fun z hz => ha z (List.mem_cons_of_mem _ hz)) (fun z hz => hb z (List.mem_cons_of_mem _ hz)) h1.2
    have h3 := congrArg UInt8.toNat h1.1
    have hx := ha x List.mem_cons_self
    have hy := hb y List.mem_cons_self
    simp at h3
    rw [h2, show x = y by omega]
theorem b8_beq {a b : List Nat} (ha : ∀ x ∈ a, x < 256) (hb : ∀ x ∈ b, x < 256) : (b8 a == b8 b) = decide (a = b) := by
  rw [Bool.eq_iff_iff]
  simp only [beq_iff_eq, decide_eq_true_eq]
  exact ⟨b8_inj ha hb, fun h => by rw [h]⟩
theorem eql_two (a b : List Nat) (la : a.length = 32) (lb : b.length = 32) (ia : ∀ x ∈ a, x < 256) (ib : ∀ x ∈ b, x < 256) (w : World) : (binOp .eql 35 (.agg (arr8 a)) (.agg (arr8 b))).run Tryd.prog w = .ok (.bool (decide (a = b))) w := by
  rw [b8_arr ia, b8_arr ib, run_eql_bytes w 35 5 32 Tryd.underlying35 Tryd.underlying5 Tryd.sizeOf5 _ _ (by rw [b8_len]; exact la) (by rw [b8_len]; exact lb), b8_beq ia ib]
theorem held_range {W : World} {b : Nat} {t : TypeId} {l : List Nat} (h : Held W b t (arr8 l)) : W.rangeAt b 0 ((nI l).map (Value.int .u8)) := fun j v hv => by
  rw [Nat.zero_add, h.cell j]
  simpa [arr8] using hv
theorem hash_info (l : List Nat) (h : l.length = 32) : (Tryd.prog.info? 35).map (·.size) = some ((nI l).map (Value.int .u8)).length := by
  rw [List.length_map, nI_len, h]; kernel_rfl
set_option maxRecDepth 100000 in
set_option maxHeartbeats 4000000 in
theorem mcopy_own (B gm gs : Nat) (v : Value) (K all : List Nat) (w : World) (h : MacAt w B gm gs v K all) :
    Calls Tryd.prog 36 #[.pointer (some ⟨gm, 0, none⟩)] w fun e w' => ∃ gm' gs' v', e = .returned (.pointer (some ⟨gm', 0, none⟩)) ∧ MacAt w' w.heap.size gm' gs' v' K all ∧ Below w.heap.size w w' := by
  have hKl := h.len
  have HKI := Lib.hid h.lt
  have hgm := h.held.lt
  have HN := Lib.hid (none_some w gm gs K hKl h.held)
  have hM0 := h.held
  have hM : Held w.drew gm 63 (macC K gs) := h.held
  have hSd : ShaAt w.drew B gs v (mpad K 54 ++ all) := h.sha.below (Below.refl _ w).drew
  have HC := Lib.hid (copy_own B gs v _ w.drew hSd)
  have hbw : Below w.heap.size w w.drew := (Below.refl _ w).drew
  have hzd : w.drew.heap.size = w.heap.size := rfl
  have hfo := fold_mac K hKl
  have hKs : (arr8 K).size = 64 := by rw [arr8_size, hKl]
  have hmz := macC_size K w.heap.size hKl
  have hse := set_mac K w.heap.size hKl
  clear h hSd hM0
  go_in
  go_wp2_with fail
  refine HN.out.mono ?_
  rintro e w9 ⟨rfl, rfl⟩
  go_wp2_with fail
  refine wp_region_held (S := fun W => Held W gm 63 (macC K gs)) (by kernel_rfl) ?_
  change wpAnyH _ _ _ _ _ _ _ _ w.drew
  generalize w.drew = w4 at hM hbw HC hzd ⊢
  refine wpAnyH_take (i := 0) (v := ?v0_1) rfl (by kernel_rfl) (by kernel_rfl) (by kernel_rfl) (fun _ _ _ h => h) (Or.inl ⟨by rfl, ?y0_1⟩) hM ?r0_1
  case y0_1 =>
    rintro W hH
    have hc : W.cell? ⟨gm, 64, none⟩ = some (.pointer (some ⟨gs, 0, none⟩)) := (hH.cell 64).trans (macC_s K gs hKl)
    go_simp
    with_reducible rfl
  simp only [Act.put]
  refine wpAnyH_take (i := 1) (v := ?v1_2) rfl (by kernel_rfl) (by kernel_rfl) (by kernel_rfl) (fun _ _ _ h => h) (Or.inl ⟨by rfl, ?y1_2⟩) hM ?r1_2
  case y1_2 =>
    rintro W hH
    have hc : W.cell? ⟨gm, 64, none⟩ = some (.pointer (some ⟨gs, 0, none⟩)) := (hH.cell 64).trans (macC_s K gs hKl)
    go_simp
    with_reducible rfl
  simp only [Act.put]
  refine wpAnyH_take (i := 2) (v := ?v2_3) rfl (by kernel_rfl) (by kernel_rfl) (by kernel_rfl) (fun _ _ _ h => h) (Or.inl ⟨by rfl, ?y2_3⟩) hM ?r2_3
  case y2_3 =>
    rintro W hH
    have hc : W.cell? ⟨gm, 64, none⟩ = some (.pointer (some ⟨gs, 0, none⟩)) := (hH.cell 64).trans (macC_s K gs hKl)
    go_simp
    with_reducible rfl
  simp only [Act.put]
  refine wpAnyH_take (i := 3) (v := .agg (arr8 K)) rfl (by kernel_rfl) (by kernel_rfl) (by kernel_rfl) (fun _ _ _ h => h) ?y3_4 hM ?r3_4
  case y3_4 => exact yieldsIf_load_mid (cs := (nI K).map (Value.int .u8)) (by rfl) 61 (.tmp 7) rfl gm 0 rfl _ (fun W hH => mac_range K gs hH) Tryd.underlying61 rfl (mac_info K hKl)
  simp only [Act.put]
  refine wpAnyH_take (i := 4) (v := ?v4_5) rfl (by kernel_rfl) (by kernel_rfl) (by kernel_rfl) (fun _ _ _ h => h) (Or.inl ⟨by rfl, ?y4_5⟩) hM ?r4_5
  case y4_5 =>
    rintro W hH
    have hc : W.cell? ⟨gm, 64, none⟩ = some (.pointer (some ⟨gs, 0, none⟩)) := (hH.cell 64).trans (macC_s K gs hKl)
    go_simp
    with_reducible rfl
  simp only [Act.put]
  refine wpAnyH_take (i := 5) (v := ?v5_6) rfl (by kernel_rfl) (by kernel_rfl) (by kernel_rfl) (fun _ _ _ h => h) (Or.inl ⟨by rfl, ?y5_6⟩) hM ?r5_6
  case y5_6 =>
    rintro W hH
    have hc : W.cell? ⟨gm, 64, none⟩ = some (.pointer (some ⟨gs, 0, none⟩)) := (hH.cell 64).trans (macC_s K gs hKl)
    go_simp
    with_reducible rfl
  simp only [Act.put]
  refine wpAnyH_take (i := 6) (v := ?v6_7) rfl (by kernel_rfl) (by kernel_rfl) (by kernel_rfl) (fun _ _ _ h => h) (Or.inl ⟨by rfl, ?y6_7⟩) hM ?r6_7
  case y6_7 =>
    rintro W hH
    have hc : W.cell? ⟨gm, 64, none⟩ = some (.pointer (some ⟨gs, 0, none⟩)) := (hH.cell 64).trans (macC_s K gs hKl)
    go_simp
    with_reducible rfl
  simp only [Act.put]
  refine wpAnyH_take (i := 7) (v := ?v7_8) rfl (by kernel_rfl) (by kernel_rfl) (by kernel_rfl) (fun _ _ _ h => h) (Or.inl ⟨by rfl, ?y7_8⟩) hM ?r7_8
  case y7_8 =>
    rintro W hH
    have hc : W.cell? ⟨gm, 64, none⟩ = some (.pointer (some ⟨gs, 0, none⟩)) := (hH.cell 64).trans (macC_s K gs hKl)
    go_simp
    with_reducible rfl
  simp only [Act.put]
  refine wpAnyH_ready (rs := [8]) (by kernel_rfl) (by simp) ?_
  refine AllReadyH.cons rfl (fun K' hK' => ?_) AllReadyH.nil
  go_simp
  refine HC.out.mono ?_
  rintro e w5 ⟨v5, rfl, hC5, hb5⟩
  have hM5 := hM.below hb5 hM.lt
  have hbw5 := hbw.trans (hb5.mono (by omega))
  have hz5 := hb5.size
  have hl5 := hC5.lt
  go_simp
  refine hK'.out _ _ hM5 (fun hM => ?_)
  clear hK' K'
  refine wpAnyH_take (i := 9) (v := ?v9_9) rfl (by kernel_rfl) (by kernel_rfl) (by kernel_rfl) (fun _ _ _ h => h) (Or.inl ⟨by rfl, ?y9_9⟩) hM ?r9_9
  case y9_9 =>
    rintro W hH
    have hc : W.cell? ⟨gm, 64, none⟩ = some (.pointer (some ⟨gs, 0, none⟩)) := (hH.cell 64).trans (macC_s K gs hKl)
    go_simp
    with_reducible rfl
  simp only [Act.put]
  refine wpAnyH_ready (rs := [10]) (by kernel_rfl) (by simp) ?_
  refine AllReadyH.cons rfl (fun K' hK' => ?_) AllReadyH.nil
  go_simp
  refine hK'.out _ _ (hM5.alloc _) (fun hM => ?_)
  clear hK' K'
  refine wpAnyH_take (i := 11) (v := ?v11_10) rfl (by kernel_rfl) (by kernel_rfl) (by kernel_rfl) (fun _ _ _ h => h) (Or.inl ⟨by rfl, ?y11_10⟩) hM ?r11_10
  case y11_10 =>
    rintro W hH
    have hc : W.cell? ⟨gm, 64, none⟩ = some (.pointer (some ⟨gs, 0, none⟩)) := (hH.cell 64).trans (macC_s K gs hKl)
    go_simp
    with_reducible rfl
  simp only [Act.put]
  try simp only [List.getElem_toArray, List.getElem_cons_succ, List.getElem_cons_zero]
  refine wpAnyH_done (by kernel_rfl) ?_ _
  go_wp2_with fail
  go_ret
  rw [hzd] at hC5
  have hC6 := hC5.below ((Below.refl _ w5).alloc (Nat.le_refl _) (.cells (macC K w.heap.size) 63))
  exact ⟨w5.heap.size, w.heap.size, v5, rfl, ⟨Held.new w5 _ _, hKl, HKI.out, by omega, by omega, fun b e => by have := (hl5.2 b e).2; omega, hC6⟩, hbw5.alloc (by omega) _⟩
set_option maxRecDepth 100000 in
set_option maxHeartbeats 4000000 in
theorem mis_own (B gm gs : Nat) (v : Value) (K all T : List Nat) (w : World) (hB : B ≤ w.heap.size) (hf : 0 < B) (hk : 1 < B)
    (hT : Tab w 0 .u32 firstI) (hT2 : Tab w 1 .u32 kI) (h : MacAt w B gm gs v K all) (hmax : all.length ≤ 900000) (hTl : T.length = 32) (hTi : ∀ x ∈ T, x < 256) :
    Calls Tryd.prog 33 #[.pointer (some ⟨gm, 0, none⟩), .agg (arr8 T)] w fun e w' => e = .returned (.bool (decide (mtag K all = T))) ∧ Below w.heap.size w w' := by
  have hKl := h.len
  have hgm := h.held.lt
  obtain ⟨w1, hw1⟩ : ∃ w1, w.alloc (.cells (arr8 T) 35) = w1 := ⟨_, rfl⟩
  have hb1 : Below w.heap.size w w1 := by rw [← hw1]; exact (Below.refl _ w).alloc (Nat.le_refl _) _
  have hz1 : w1.heap.size = w.heap.size + 1 := by rw [← hw1]; simp
  have hH1 : Held w1 w.heap.size 35 (arr8 T) := by rw [← hw1]; exact Held.new _ _ _
  have hM1 := h.held.below hb1 hgm
  have hMd : MacAt w1.drew B gm gs v K all := ⟨hM1, hKl, h.lt, h.low, h.ne, h.nv, (h.sha.below hb1).below (Below.refl _ w1).drew⟩
  have HN := Lib.hid (none_some w1.drew gm gs K hKl hM1)
  have ks := msum_own B gm gs v K all w1.drew (by show B ≤ w1.heap.size; omega) hf hk ((hT.up hb1).up (Below.refl _ w1).drew) ((hT2.up hb1).up (Below.refl _ w1).drew) hMd hmax
  have hE := eql_two (mtag K all) T (mtag_len K all) hTl (mtag_in K all) hTi
  obtain ⟨D, hD⟩ : ∃ D, mtag K all = D := ⟨_, rfl⟩
  rw [hD] at ks hE
  rw [hD]
  have HS := Lib.hid ks
  have hM : Held w1.drew w.heap.size 35 (arr8 T) := hH1
  have hbw : Below w.heap.size w w1.drew := hb1.drew
  have hzd : w1.drew.heap.size = w1.heap.size := rfl
  clear h hMd ks hT hT2 hD hTi hM1 hH1
  go_in
  go_wp2_with fail
  refine wp_region_held (S := fun W => Held W w.heap.size 35 (arr8 T)) (by kernel_rfl) ?_
  change wpAnyH _ _ _ _ _ _ _ _ w1.drew
  generalize w1.drew = w4 at hM hbw HN HS hzd ⊢
  refine wpAnyH_take (i := 0) (v := ?v0_1) rfl (by kernel_rfl) (by kernel_rfl) (by kernel_rfl) (fun _ _ _ h => h) (Or.inl ⟨by rfl, ?y0_1⟩) hM ?r0_1
  case y0_1 =>
    rintro W hH
    go_simp
    with_reducible rfl
  simp only [Act.put]
  refine wpAnyH_ready (rs := [1]) (by kernel_rfl) (by simp) ?_
  refine AllReadyH.cons rfl (fun K' hK' => ?_) AllReadyH.nil
  go_simp
  refine HN.out.mono ?_
  rintro e w5 ⟨rfl, rfl⟩
  go_simp
  refine hK'.out _ _ hM (fun hM => ?_)
  clear hK' K'
  refine wpAnyH_take (i := 2) (v := ?v2_2) rfl (by kernel_rfl) (by kernel_rfl) (by kernel_rfl) (fun _ _ _ h => h) (Or.inl ⟨by rfl, ?y2_2⟩) hM ?r2_2
  case y2_2 =>
    rintro W hH
    go_simp
    with_reducible rfl
  simp only [Act.put]
  refine wpAnyH_take (i := 3) (v := ?v3_3) rfl (by kernel_rfl) (by kernel_rfl) (by kernel_rfl) (fun _ _ _ h => h) (Or.inl ⟨by rfl, ?y3_3⟩) hM ?r3_3
  case y3_3 =>
    rintro W hH
    go_simp
    with_reducible rfl
  simp only [Act.put]
  refine wpAnyH_take (i := 4) (v := ?v4_4) rfl (by kernel_rfl) (by kernel_rfl) (by kernel_rfl) (fun _ _ _ h => h) (Or.inl ⟨by rfl, ?y4_4⟩) hM ?r4_4
  case y4_4 =>
    rintro W hH
    go_simp
    with_reducible rfl
  simp only [Act.put]
  refine wpAnyH_take (i := 6) (v := .agg (arr8 T)) rfl (by kernel_rfl) (by kernel_rfl) (by kernel_rfl) (fun _ _ _ h => h) ?y6_5 hM ?r6_5
  case y6_5 => exact yieldsIf_load_mid (cs := (nI T).map (Value.int .u8)) (by rfl) 35 (.tmp 3) rfl (w.heap.size) 0 rfl _ (fun W hH => held_range hH) Tryd.underlying35 rfl (hash_info T hTl)
  simp only [Act.put]
  refine wpAnyH_ready (rs := [5]) (by kernel_rfl) (by simp) ?_
  refine AllReadyH.cons rfl (fun K' hK' => ?_) AllReadyH.nil
  go_simp
  refine HS.out.mono ?_
  rintro e w6 ⟨rfl, hb6⟩
  have hM6 := hM.below hb6 hM.lt
  have hb6w := hbw.trans (hb6.mono (by omega))
  go_simp
  refine hK'.out _ _ hM6 (fun hM => ?_)
  clear hK' K'
  refine wpAnyH_take (i := 7) (v := ?v7_6) rfl (by kernel_rfl) (by kernel_rfl) (by kernel_rfl) (fun _ _ _ h => h) (Or.inl ⟨by rfl, ?y7_6⟩) hM ?r7_6
  case y7_6 =>
    rintro W hH
    go_simp
    with_reducible rfl
  simp only [Act.put]
  refine wpAnyH_take (i := 8) (v := ?v8_7) rfl (by kernel_rfl) (by kernel_rfl) (by kernel_rfl) (fun _ _ _ h => h) (Or.inl ⟨by rfl, ?y8_7⟩) hM ?r8_7
  case y8_7 =>
    rintro W hH
    go_simp
    with_reducible rfl
  simp only [Act.put]
  refine wpAnyH_take (i := 9) (v := ?v9_8) rfl (by kernel_rfl) (by kernel_rfl) (by kernel_rfl) (fun _ _ _ h => h) (Or.inl ⟨by rfl, ?y9_8⟩) hM ?r9_8
  case y9_8 =>
    rintro W hH
    go_simp
    with_reducible rfl
  simp only [Act.put]
  try simp only [List.getElem_toArray, List.getElem_cons_succ, List.getElem_cons_zero]
  refine wpAnyH_done (by kernel_rfl) ?_ _
  go_wp2_with fail
  go_ret
  exact ⟨rfl, hb6w⟩
end Go.Proofs.YtjkhkgdijnhdmaaDoor
