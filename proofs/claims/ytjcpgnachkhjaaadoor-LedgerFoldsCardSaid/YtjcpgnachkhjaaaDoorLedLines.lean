/- ledger.Lines. -/
import Derived.Test.YtjcpgnachkhjaaaDoorLedLinesP
namespace Go.Proofs.YtjcpgnachkhjaaaDoor
open Go.RowKit Go.Shelf Go.Sort
attribute [local go_sem] Oper.semAt_some
set_option linter.unusedVariables false
set_option linter.unusedSimpArgs false
set_option maxRecDepth 100000

/-- What stands at a round's head. -/
def LinR (b : Bk) (w2 : World) (gO B i : Nat) (Ds : List Nat) (v : Value) (W : World) : Prop :=
  Boxed W gO 56 v ∧ W.ownsRow B 9 1 v (linesN b i).length ((linesN b i).map strV) ∧ Lx gO B w2 W ∧ Mk B Ds W
/-- What stands at the head of a band's round. -/
def BanR (b : Bk) (m : Nat) (cur : List (List UInt8)) (w2 : World) (gO B : Nat) (Ds : List Nat) (pre : List (Fin 8)) (W : World) : Prop :=
  ∃ v, Boxed W gO 56 v ∧ W.ownsRow B 9 1 v (cur ++ pre.map (bandLine b m)).length ((cur ++ pre.map (bandLine b m)).map strV) ∧ Lx gO B w2 W ∧ Mk B Ds W
theorem mk_own {B N : Nat} {Ds : List Nat} (hN : ∀ D ∈ Ds, D < N) : OwnFrom N (fun (_ : Unit) W => Mk B Ds W) := fun _ X Y row hs hg hr =>
  ⟨hs.1, fun D hD => ⟨(hs.2 D hD).1, (hg.block D (Array.getElem?_eq_some_iff.1 (hs.2 D hD).2).1 (fun e => by have := (hr D e.symm).1; have := hN D hD; omega)).trans (hs.2 D hD).2⟩⟩
theorem BanR.own {b : Bk} {m : Nat} {cur : List (List UInt8)} {w2 : World} {gO B N : Nat} {Ds : List Nat} (hN : ∀ D ∈ Ds, D < N) (hgB : gO < B) (hB : B ≤ N) (hw2 : w2.heap.size = B) : OwnFrom N (BanR b m cur w2 gO B Ds) := by
  intro pre X Y row hs hg hr
  obtain ⟨v, h1, h2, h3, h4⟩ := hs
  have hr2 : ∀ k (o : Obj), X.heap[k]? = some o → o.isCells = true → some k ≠ row := fun k o hk hc e => by
    obtain ⟨_, o2, ho, hc2⟩ := hr k e.symm
    rw [hk] at ho; cases ho; rw [hc] at hc2; cases hc2
  have hgY : Y.heap[gO]? = X.heap[gO]? := hg.block gO h1.lt (hr2 gO _ h1 rfl)
  refine ⟨v, hgY.trans h1, lown_same h2 fun k hk => ?_, ⟨⟨(h3.1.1).trans ((Below.refl _ X).grown hg (by have := h1.lt; omega) (fun k hk => by have := (hr k hk).1; omega)), fun k e1 e2 => ?_⟩, ⟨Nat.le_trans h3.2.size hg.size, fun k o hk hc => ?_⟩⟩, mk_own hN () X Y row h4 hg hr⟩
  · rcases h2.2 with ⟨rfl, _⟩ | ⟨g', cap, cur', rfl, _, hh, _⟩
    · simp [Value.ownBlock] at hk
    · obtain rfl : g' = k := by simpa [Value.ownBlock] using hk
      exact hg.block g' (Array.getElem?_eq_some_iff.1 hh).1 (hr2 g' _ hh rfl)
  · have := h3.2.size
    exact (hg.block k (by omega) (fun e => by have := (hr k e.symm).1; omega)).trans (h3.1.2 k e1 e2)
  · have h5 := h3.2.same k o hk hc
    have h6 := (Array.getElem?_eq_some_iff.1 hk).1
    exact (hg.block k (Array.getElem?_eq_some_iff.1 h5).1 (fun e => by have := (hr k e.symm).1; omega)).trans h5
set_option maxHeartbeats 4000000 in
theorem lines_any (K : Int) (hK : K < 4611686018427387904) (b : Bk) (hb : b.ok K) (gb : Nat) (w : World) (hB : Held w gb 40 b.arr) (hP : P10 w) :
    CallsIn Fence.wide 6 Tryd.prog 22 #[.pointer (some ⟨gb, 0, none⟩)] w fun e w' => (∃ A c, e = .returned (.slice A (linesL b).length c) ∧ StrsI w' A (linesL b).length (linesL b)) ∧ Below w.heap.size w w' := by
  have HM := Lib.hid (fun v hv => meters_any K b hb gb v hv)
  have HP := Lib.hid hP
  have hF1 : Fence.wide.fn 23 := trivial
  clear hP
  refine callsIn_of_wp_marks Tryd.func22 rfl trivial ?_ rfl
  simp only [Tryd.ntmps22, List.size_toArray, List.length_cons, List.length_nil, Nat.reduceAdd, Nat.reduceSub, Array.replicate_succ, Array.replicate_zero, List.push_toArray, List.append_toArray, List.nil_append, List.cons_append]
  have hB1 := hB.alloc (.cells #[.slice none 0 0] 56)
  have hO1 : Held (w.alloc (.cells #[.slice none 0 0] 56)) w.heap.size 56 #[.slice none 0 0] := Held.new w _ _
  gi_wp2_with (gi_at_call 23; refine (callsIn_wide.2 (HM.out _ hB1)).mono ?_; rintro e w2 ⟨⟨A, c, rfl, hs⟩, hb2⟩)
  have hO2 : Boxed w2 w.heap.size 56 (.slice none 0 0) := hO1.below hb2 hO1.lt
  have hB2 := hB1.below hb2 hB1.lt
  have hgl := hB.lt
  have hbw2 : Below w.heap.size w w2 := ((Below.refl _ _).alloc (Nat.le_refl _) _).trans (hb2.mono (by simp))
  have hgO : w.heap.size < w2.heap.size := hO2.lt
  have HS := Lib.hid hs
  have HB2 := Lib.hid hB2
  clear hB1 hO1 hB hs hb2 hB2
  refine wpIn_wide.2 ?_
  refine wp_loop (fun a' W => ∃ (i : Nat) (u5 u6 u14 u15 u16 u17 u18 u19 u20 u21 u22 u23 u24 u25 u26 u27 u28 u29 u30 u31 u32 u33 u34 u35 u36 u37 u38 u39 u40 u41 u42 u43 u44 u45 u66 : Value) (Ds : List Nat) (v : Value), a' = { tmps := #[.pointer (some ⟨gb, 0, none⟩), undef, .slice none 0 0, .pointer (some ⟨w.heap.size, 0, none⟩), undef, u5, u6, undef, undef, undef, .pointer (some ⟨gb, 0, none⟩), .slice A (metI b 64).length c, .int .i64 ((metI b 64).length : Nat), .int .i64 (i : Nat), u14, u15, u16, u17, u18, u19, u20, u21, u22, u23, u24, u25, u26, u27, u28, u29, u30, u31, u32, u33, u34, u35, u36, u37, u38, u39, u40, u41, u42, u43, u44, u45, undef, undef, undef, undef, undef, undef, undef, undef, undef, undef, undef, undef, undef, undef, undef, undef, undef, undef, undef, undef, u66, undef], defers := Ds.map markD } ∧ i ≤ (metI b 64).length ∧ LinR b w2 w.heap.size w2.heap.size i Ds v W)
    (fun a' _ => (metI b 64).length - (intOf (a'.tmps.getD 13 undef)).toNat) ?_ ?_
  · refine ⟨0, _, _, _, _, _, _, _, _, _, _, _, _, _, _, _, _, _, _, _, _, _, _, _, _, _, _, _, _, _, _, _, _, _, _, _, [], _, rfl, Nat.zero_le _, hO2, World.ownsRow_nil _ _ _ _, Lx.refl _ _ _, Mk.nil _ _⟩
  · rintro a' W ⟨i, u5, u6, u14, u15, u16, u17, u18, u19, u20, u21, u22, u23, u24, u25, u26, u27, u28, u29, u30, u31, u32, u33, u34, u35, u36, u37, u38, u39, u40, u41, u42, u43, u44, u45, u66, Ds, v, rfl, hi, hv, hrow, hLx, hMk⟩
    have HML := Lib.hid (metI_len b 64)
    by_cases hlt : i < (metI b 64).length
    · obtain ⟨m, hm⟩ : ∃ m, (metN b 64)[i]? = some m := ⟨_, List.getElem?_eq_getElem (by simpa [metI] using hlt)⟩
      have hmi : (metI b 64)[i]? = some (m : Int) := by unfold metI; rw [List.getElem?_map, hm]; rfl
      have hm64 : m < 64 := by
        have := List.mem_of_getElem? hm
        unfold metN at this
        exact List.mem_range.1 (List.mem_filter.1 this).1
      obtain ⟨gA, oA, rfl, hgA, hcA⟩ := HS.out.2.2.2.2 (by omega)
      have hcm := hcA i _ hmi
      have hgAO : gA ≠ w.heap.size := by
        rintro rfl
        have h1 := hO2.cell
        rcases Nat.eq_zero_or_pos (oA + i) with h0 | h0
        · rw [h0] at hcm
          rw [hcm] at h1; cases h1
        · have := (Held.cell (show Held w2 w.heap.size 56 #[.slice none 0 0] from hO2) (oA + i))
          rw [hcm] at this
          have hn : (#[Value.slice none 0 0] : Array Value)[oA + i]? = none := by simp; omega
          rw [hn] at this; cases this
      have hcmW : W.cell? ⟨gA, oA + i, none⟩ = some (.int .i64 (m : Nat)) := (hLx.cell (p := ⟨gA, oA + i, none⟩) hgAO hgA).trans hcm
      have hBW : Held W gb 40 b.arr := hLx.held (by omega) (by omega) HB2.out
      have hbs := hb.sumAt m hm64
      have hmI : (m : Int) < 64 := by omega
      have hiI : (i : Int) < ((metI b 64).length : Int) := by omega
      have hWz := hLx.size
      have hBWl := hBW.lt
      have ISl : Hid ((Tryd.prog.info? 36).map (·.size) = some (b.sumAt m).cells.length) := Lib.hid (by rw [sum_size, SumS.cells_len _ hbs.hash])
      have ISs : Hid ((Tryd.prog.info? 36).map (·.size) = some (b.sumAt m).arr.size) := Lib.hid (by rw [sum_size, SumS.arr_size _ hbs.hash])
      have IZ : Hid ((b.sumAt m).arr.size = SumS.zero.arr.size) := Lib.hid (by rw [SumS.arr_size _ hbs.hash, SumS.arr_size _ rfl])
      have HRow := Lib.hid hrow
      have HLx := Lib.hid hLx
      have HMk := Lib.hid hMk
      have HHM := Lib.hid hm
      have HV := Lib.hid hv
      clear hrow hLx hMk hcA hcm hmi hm hv
      go_upto_region 6 with (first
        | ((with_reducible refine wpList_load_at (dst := some 22) 36 (.tmp 21) gb (1536 + m * 49) (b.sumAt m).cells _ (by kernel_rfl) (by kernel_rfl) (b.sum_range hb m hm64 hBW) Tryd.underlying36 (by kernel_rfl) ISl.out ?_); simp only [Act.put, List.setIfInBounds_toArray, List.set_cons_succ, List.set_cons_zero])
        | ((with_reducible refine wpList_alloc_held (dst := some 6) 36 SumS.zero.arr (by kernel_rfl) alloc_sum ?_); intro V1 h6 b6 z6; (have l6 : W.heap.size < V1.heap.size := (by omega)); clear z6; simp only [Act.put, List.setIfInBounds_toArray, List.set_cons_succ, List.set_cons_zero])
        | ((with_reducible refine wpList_store_held 36 (.tmp 6) (.tmp 22) W.heap.size 36 _ (b.sumAt m).arr (by kernel_rfl) (by kernel_rfl) (by kernel_rfl) h6 IZ.out ISs.out (sum_one _) ?_); intro V2 g6 b2 z2; clear z2; simp only [Act.put, List.setIfInBounds_toArray, List.set_cons_succ, List.set_cons_zero]))
      have hV2 : Below W.heap.size W V2 := b6.trans (b2.below (Nat.le_refl _) (by omega))
      have hLV := HLx.out.trans (Lx.below hV2 (by omega) hWz)
      have hvV : Boxed V2 w.heap.size 56 v := hV2.block _ HV.out.lt |>.trans HV.out
      have hrV := lown_up HRow.out hV2
      have hMV := HMk.out.keep (keepsOthers_below hV2)
      have hV2z : W.heap.size < V2.heap.size := by have := b2.size; omega
      clear hBW hcmW h6 b6 b2 HRow HLx HMk HV hV2
      obtain ⟨wd, hwd⟩ : ∃ Y : World, V2.drew = Y := ⟨_, rfl⟩
      have dv : Boxed wd w.heap.size 56 v := by rw [← hwd]; exact hvV
      have dr : wd.ownsRow w2.heap.size 9 1 v (linesN b i).length ((linesN b i).map strV) := by rw [← hwd]; exact hrV.drew
      have dL : Lx w.heap.size w2.heap.size w2 wd := by rw [← hwd]; exact hLV.drew
      have dM : Mk w2.heap.size Ds wd := by rw [← hwd]; exact hMV
      have d6 : Held wd W.heap.size 36 (b.sumAt m).arr := by rw [← hwd]; exact g6
      have hdz : W.heap.size < wd.heap.size := by rw [← hwd]; exact hV2z
      have hOC := dv.cell
      have hS : Held wd W.heap.size 36 (b.sumAt m).arr := d6
      have hq := hbs.hash
      obtain ⟨⟨q11, q12⟩, ⟨q21, q22⟩, ⟨q31, q32⟩, ⟨q41, q42⟩, ⟨q51, q52⟩, ⟨q61, q62⟩, ⟨q71, q72⟩, _⟩ := hbs
      have hin : ∀ y ∈ sumL m (b.sumAt m), -9223372036854775808 ≤ y ∧ y ≤ 9223372036854775807 := by
        intro y hy
        simp only [sumL, List.mem_cons, List.not_mem_nil, or_false] at hy
        rcases hy with rfl | rfl | rfl | rfl | rfl | rfl | rfl | rfl <;> omega
      have HWD := Lib.hid (fun (V : World) (A : Option Addr) (n c : Nat) (hs : SlI V V.heap.size .i64 A n c (sumL m (b.sumAt m))) (hp : P10 V) => words_any (sumL m (b.sumAt m)) (by simp [sumL]) (by simp [sumL]) hin A n c V hs hp)
      have hP2 : P10 wd := tabIs_up HP.out (hbw2.trans dL.1.1)
      obtain ⟨i0, hi0, hz0, hz1, hz2⟩ := info_parts info_str
      have hNl := linesN_len b i (by have := HML.out; omega)
      have HBY := Lib.hid (show (linesN b i).length + 1 ≤ maxLen ∧ ((linesN b i).length + 1) * 16 ≤ 140737488355328 by unfold maxLen; omega)
      have hdzL : w2.heap.size ≤ wd.heap.size := by omega
      have HP2 := Lib.hid hP2
      clear hin hP2 d6 g6 hvV hrV hLV hMV q11 q12 q21 q22 q31 q32 q41 q42 q51 q52 q61 q62 q71 q72
      refine wp_cut_normal (fun a' V => ∃ (u6 u14 u15 u16 u17 u18 u19 u20 u21 u22 u23 u24 u25 u26 u27 u28 u29 u30 u31 u32 u33 u34 u35 u36 u37 u38 u39 u40 u41 u42 u43 u44 u45 u66 v9 : Value), a' = { tmps := #[.pointer (some ⟨gb, 0, none⟩), undef, .slice none 0 0, .pointer (some ⟨w.heap.size, 0, none⟩), undef, .int .i64 (m : Nat), u6, undef, undef, undef, .pointer (some ⟨gb, 0, none⟩), .slice (some ⟨gA, oA, none⟩) (metI b 64).length c, .int .i64 ((metI b 64).length : Nat), .int .i64 (i : Nat), u14, u15, u16, u17, u18, u19, u20, u21, u22, u23, u24, u25, u26, u27, u28, u29, u30, u31, u32, u33, u34, u35, u36, u37, u38, u39, u40, u41, u42, u43, u44, u45, undef, undef, undef, undef, undef, undef, undef, undef, undef, undef, undef, undef, undef, undef, undef, undef, undef, undef, undef, undef, u66, undef], defers := Ds.map markD } ∧ Boxed V w.heap.size 56 v9 ∧ V.ownsRow w2.heap.size 9 1 v9 ((linesN b i).length + 1) ((linesN b i ++ [wordsL (sumL m (b.sumAt m))]).map strV) ∧ Lx w.heap.size w2.heap.size w2 V ∧ Mk w2.heap.size Ds V) ?_ ?_
      · refine wp_region_held (S := fun Y => Held Y W.heap.size 36 (b.sumAt m).arr) (by kernel_rfl) ?_
        change wpAnyH _ _ _ _ _ _ _ _ V2.drew
        rw [hwd]
        clear hwd
        refine wpAnyH_take (i := 1) (v := ?v1_1) rfl (by kernel_rfl) (by kernel_rfl) (by kernel_rfl) (fun _ _ _ h => h) (Or.inl ⟨by rfl, ?y1_1⟩) hS ?r1_1
        case y1_1 =>
          rintro W hH
          go_simp
          with_reducible rfl
        simp only [Act.put]
        try simp only [List.getElem_toArray, List.getElem_cons_succ, List.getElem_cons_zero]
        try simp only [List.setIfInBounds_toArray, List.set_cons_succ, List.set_cons_zero]
        refine wpAnyH_take (i := 2) (v := ?v2_2) rfl (by kernel_rfl) (by kernel_rfl) (by kernel_rfl) (fun _ _ _ h => h) (Or.inl ⟨by rfl, ?y2_2⟩) hS ?r2_2
        case y2_2 =>
          rintro W hH
          go_simp
          with_reducible rfl
        simp only [Act.put]
        try simp only [List.getElem_toArray, List.getElem_cons_succ, List.getElem_cons_zero]
        try simp only [List.setIfInBounds_toArray, List.set_cons_succ, List.set_cons_zero]
        refine wpAnyH_take (i := 3) (v := ?v3_3) rfl (by kernel_rfl) (by kernel_rfl) (by kernel_rfl) (fun _ _ _ h => h) (Or.inl ⟨by rfl, ?y3_3⟩) hS ?r3_3
        case y3_3 =>
          rintro W hH
          obtain ⟨sc0, sc1, sc2, sc3, sc4, sc5, sc6⟩ := sum_cells hH
          go_simp
          with_reducible rfl
        simp only [Act.put]
        try simp only [List.getElem_toArray, List.getElem_cons_succ, List.getElem_cons_zero]
        try simp only [List.setIfInBounds_toArray, List.set_cons_succ, List.set_cons_zero]
        refine wpAnyH_take (i := 4) (v := ?v4_4) rfl (by kernel_rfl) (by kernel_rfl) (by kernel_rfl) (fun _ _ _ h => h) (Or.inl ⟨by rfl, ?y4_4⟩) hS ?r4_4
        case y4_4 =>
          rintro W hH
          go_simp
          with_reducible rfl
        simp only [Act.put]
        try simp only [List.getElem_toArray, List.getElem_cons_succ, List.getElem_cons_zero]
        try simp only [List.setIfInBounds_toArray, List.set_cons_succ, List.set_cons_zero]
        refine wpAnyH_take (i := 5) (v := ?v5_5) rfl (by kernel_rfl) (by kernel_rfl) (by kernel_rfl) (fun _ _ _ h => h) (Or.inl ⟨by rfl, ?y5_5⟩) hS ?r5_5
        case y5_5 =>
          rintro W hH
          obtain ⟨sc0, sc1, sc2, sc3, sc4, sc5, sc6⟩ := sum_cells hH
          go_simp
          with_reducible rfl
        simp only [Act.put]
        try simp only [List.getElem_toArray, List.getElem_cons_succ, List.getElem_cons_zero]
        try simp only [List.setIfInBounds_toArray, List.set_cons_succ, List.set_cons_zero]
        refine wpAnyH_take (i := 6) (v := ?v6_6) rfl (by kernel_rfl) (by kernel_rfl) (by kernel_rfl) (fun _ _ _ h => h) (Or.inl ⟨by rfl, ?y6_6⟩) hS ?r6_6
        case y6_6 =>
          rintro W hH
          go_simp
          with_reducible rfl
        simp only [Act.put]
        try simp only [List.getElem_toArray, List.getElem_cons_succ, List.getElem_cons_zero]
        try simp only [List.setIfInBounds_toArray, List.set_cons_succ, List.set_cons_zero]
        refine wpAnyH_take (i := 7) (v := ?v7_7) rfl (by kernel_rfl) (by kernel_rfl) (by kernel_rfl) (fun _ _ _ h => h) (Or.inl ⟨by rfl, ?y7_7⟩) hS ?r7_7
        case y7_7 =>
          rintro W hH
          obtain ⟨sc0, sc1, sc2, sc3, sc4, sc5, sc6⟩ := sum_cells hH
          go_simp
          with_reducible rfl
        simp only [Act.put]
        try simp only [List.getElem_toArray, List.getElem_cons_succ, List.getElem_cons_zero]
        try simp only [List.setIfInBounds_toArray, List.set_cons_succ, List.set_cons_zero]
        refine wpAnyH_take (i := 8) (v := ?v8_8) rfl (by kernel_rfl) (by kernel_rfl) (by kernel_rfl) (fun _ _ _ h => h) (Or.inl ⟨by rfl, ?y8_8⟩) hS ?r8_8
        case y8_8 =>
          rintro W hH
          go_simp
          with_reducible rfl
        simp only [Act.put]
        try simp only [List.getElem_toArray, List.getElem_cons_succ, List.getElem_cons_zero]
        try simp only [List.setIfInBounds_toArray, List.set_cons_succ, List.set_cons_zero]
        refine wpAnyH_take (i := 9) (v := ?v9_9) rfl (by kernel_rfl) (by kernel_rfl) (by kernel_rfl) (fun _ _ _ h => h) (Or.inl ⟨by rfl, ?y9_9⟩) hS ?r9_9
        case y9_9 =>
          rintro W hH
          obtain ⟨sc0, sc1, sc2, sc3, sc4, sc5, sc6⟩ := sum_cells hH
          go_simp
          with_reducible rfl
        simp only [Act.put]
        try simp only [List.getElem_toArray, List.getElem_cons_succ, List.getElem_cons_zero]
        try simp only [List.setIfInBounds_toArray, List.set_cons_succ, List.set_cons_zero]
        refine wpAnyH_take (i := 10) (v := ?v10_10) rfl (by kernel_rfl) (by kernel_rfl) (by kernel_rfl) (fun _ _ _ h => h) (Or.inl ⟨by rfl, ?y10_10⟩) hS ?r10_10
        case y10_10 =>
          rintro W hH
          go_simp
          with_reducible rfl
        simp only [Act.put]
        try simp only [List.getElem_toArray, List.getElem_cons_succ, List.getElem_cons_zero]
        try simp only [List.setIfInBounds_toArray, List.set_cons_succ, List.set_cons_zero]
        refine wpAnyH_take (i := 11) (v := ?v11_11) rfl (by kernel_rfl) (by kernel_rfl) (by kernel_rfl) (fun _ _ _ h => h) (Or.inl ⟨by rfl, ?y11_11⟩) hS ?r11_11
        case y11_11 =>
          rintro W hH
          obtain ⟨sc0, sc1, sc2, sc3, sc4, sc5, sc6⟩ := sum_cells hH
          go_simp
          with_reducible rfl
        simp only [Act.put]
        try simp only [List.getElem_toArray, List.getElem_cons_succ, List.getElem_cons_zero]
        try simp only [List.setIfInBounds_toArray, List.set_cons_succ, List.set_cons_zero]
        refine wpAnyH_take (i := 12) (v := ?v12_12) rfl (by kernel_rfl) (by kernel_rfl) (by kernel_rfl) (fun _ _ _ h => h) (Or.inl ⟨by rfl, ?y12_12⟩) hS ?r12_12
        case y12_12 =>
          rintro W hH
          go_simp
          with_reducible rfl
        simp only [Act.put]
        try simp only [List.getElem_toArray, List.getElem_cons_succ, List.getElem_cons_zero]
        try simp only [List.setIfInBounds_toArray, List.set_cons_succ, List.set_cons_zero]
        refine wpAnyH_take (i := 13) (v := ?v13_13) rfl (by kernel_rfl) (by kernel_rfl) (by kernel_rfl) (fun _ _ _ h => h) (Or.inl ⟨by rfl, ?y13_13⟩) hS ?r13_13
        case y13_13 =>
          rintro W hH
          obtain ⟨sc0, sc1, sc2, sc3, sc4, sc5, sc6⟩ := sum_cells hH
          go_simp
          with_reducible rfl
        simp only [Act.put]
        try simp only [List.getElem_toArray, List.getElem_cons_succ, List.getElem_cons_zero]
        try simp only [List.setIfInBounds_toArray, List.set_cons_succ, List.set_cons_zero]
        refine wpAnyH_take (i := 14) (v := ?v14_14) rfl (by kernel_rfl) (by kernel_rfl) (by kernel_rfl) (fun _ _ _ h => h) (Or.inl ⟨by rfl, ?y14_14⟩) hS ?r14_14
        case y14_14 =>
          rintro W hH
          go_simp
          with_reducible rfl
        simp only [Act.put]
        try simp only [List.getElem_toArray, List.getElem_cons_succ, List.getElem_cons_zero]
        try simp only [List.setIfInBounds_toArray, List.set_cons_succ, List.set_cons_zero]
        refine wpAnyH_take (i := 15) (v := ?v15_15) rfl (by kernel_rfl) (by kernel_rfl) (by kernel_rfl) (fun _ _ _ h => h) (Or.inl ⟨by rfl, ?y15_15⟩) hS ?r15_15
        case y15_15 =>
          rintro W hH
          obtain ⟨sc0, sc1, sc2, sc3, sc4, sc5, sc6⟩ := sum_cells hH
          go_simp
          with_reducible rfl
        simp only [Act.put]
        try simp only [List.getElem_toArray, List.getElem_cons_succ, List.getElem_cons_zero]
        try simp only [List.setIfInBounds_toArray, List.set_cons_succ, List.set_cons_zero]
        refine wpAnyH_ready (rs := [0, 16]) (by kernel_rfl) (by simp) ?_
        refine AllReadyH.cons rfl (fun K' hK' => ?_) (AllReadyH.cons rfl (fun K' hK' => ?_) AllReadyH.nil)
        · skip
          go_simp
          refine hK'.out _ _ hS (fun hS => ?_)
          clear hK' K'
          refine wpAnyH_ready (rs := [16]) (by kernel_rfl) (by simp) ?_
          refine AllReadyH.cons rfl (fun K' hK' => ?_) AllReadyH.nil
          go_simp
          have hsl : SlI (wd.alloc (.cells #[.int .i64 (m : Nat), .int .i64 (b.sumAt m).energy, .int .i64 (b.sumAt m).cost, .int .i64 (b.sumAt m).intervals, .int .i64 (b.sumAt m).flagged, .int .i64 (b.sumAt m).suspects, .int .i64 (b.sumAt m).replaced, .int .i64 (b.sumAt m).corrected] 2)) (wd.alloc (.cells #[.int .i64 (m : Nat), .int .i64 (b.sumAt m).energy, .int .i64 (b.sumAt m).cost, .int .i64 (b.sumAt m).intervals, .int .i64 (b.sumAt m).flagged, .int .i64 (b.sumAt m).suspects, .int .i64 (b.sumAt m).replaced, .int .i64 (b.sumAt m).corrected] 2)).heap.size .i64 (some ⟨wd.heap.size, 0, none⟩) 8 8 (sumL m (b.sumAt m)) := SlI.of_lit rfl rfl (by omega)
          have ba := (Below.refl wd.heap.size wd).alloc (Nat.le_refl _) (.cells #[.int .i64 (m : Nat), .int .i64 (b.sumAt m).energy, .int .i64 (b.sumAt m).cost, .int .i64 (b.sumAt m).intervals, .int .i64 (b.sumAt m).flagged, .int .i64 (b.sumAt m).suspects, .int .i64 (b.sumAt m).replaced, .int .i64 (b.sumAt m).corrected] 2)
          have HW6 := Lib.hid (HWD.out _ _ _ _ hsl (tabIs_up HP2.out ba))
          obtain ⟨wa, hwa⟩ : ∃ Y, wd.alloc (.cells #[.int .i64 (m : Nat), .int .i64 (b.sumAt m).energy, .int .i64 (b.sumAt m).cost, .int .i64 (b.sumAt m).intervals, .int .i64 (b.sumAt m).flagged, .int .i64 (b.sumAt m).suspects, .int .i64 (b.sumAt m).replaced, .int .i64 (b.sumAt m).corrected] 2) = Y := ⟨_, rfl⟩
          rw [hwa] at HW6 ba
          rw [← ba.cell (p := ⟨w.heap.size, 0, none⟩) (by show w.heap.size < _; omega)] at hOC
          rw [hwa]
          refine hK'.out _ _ (hS.below ba hS.lt) (fun hS => ?_)
          clear hK' K'
          refine wpAnyH_ready (rs := [17]) (by kernel_rfl) (by simp) ?_
          refine AllReadyH.cons rfl (fun K' hK' => ?_) AllReadyH.nil
          go_simp
          refine HW6.out.mono ?_
          rintro e V6 ⟨rfl, b7⟩
          dsimp only
          have bq := ba.trans (b7.mono ba.size)
          rw [← b7.cell (p := ⟨w.heap.size, 0, none⟩) (by show w.heap.size < _; have := ba.size; omega)] at hOC
          refine hK'.out _ _ (hS.below b7 hS.lt) (fun hS => ?_)
          clear hK' K'
          refine wpAnyH_ready (rs := [18]) (by kernel_rfl) (by simp) ?_
          refine AllReadyH.cons rfl (fun K' hK' => ?_) AllReadyH.nil
          go_simp
          have bb := bq.alloc bq.size (.cells #[.string (strB (wordsL (sumL m (b.sumAt m))))] 9)
          have hn8 : Held (V6.alloc (.cells #[.string (strB (wordsL (sumL m (b.sumAt m))))] 9)) V6.heap.size 9 #[.string (strB (wordsL (sumL m (b.sumAt m))))] := Held.new _ _ _
          have hl8 : w.heap.size < V6.heap.size := by have := bq.size; omega
          rw [← Below.cell ((Below.refl V6.heap.size V6).alloc (Nat.le_refl _) (.cells #[.string (strB (wordsL (sumL m (b.sumAt m))))] 9)) (p := ⟨w.heap.size, 0, none⟩) hl8] at hOC
          obtain ⟨wb, hwb⟩ : ∃ Y, V6.alloc (.cells #[.string (strB (wordsL (sumL m (b.sumAt m))))] 9) = Y := ⟨_, rfl⟩
          have hS8 := hS.alloc (.cells #[.string (strB (wordsL (sumL m (b.sumAt m))))] 9)
          rw [hwb] at hOC bb hn8 hS8 ⊢
          have hr8 := lown_up dr bb
          have hL8 := dL.trans (Lx.below bb (by omega) hdzL)
          have hM8 := dM.keep (keepsOthers_below bb)
          have hv8 : Boxed wb w.heap.size 56 v := (bb.block _ dv.lt).trans dv
          have hz8 : wd.heap.size ≤ wb.heap.size := bb.size
          refine hK'.out _ _ hS8 (fun hS => ?_)
          clear hK' K'
          refine wpAnyH_ready (rs := [19]) (by kernel_rfl) (by simp) ?_
          refine AllReadyH.cons rfl (fun K' hK' => ?_) AllReadyH.nil
          refine wp_append_own _ (.tmp 23) (.tmp 41) 56 rfl w2.heap.size 9 i0 (.string ⟨#[]⟩) 1 16 Tryd.underlying56 hi0 hz0 hz1 hz2 rfl (by decide) v (linesN b i).length _ (by kernel_rfl) hr8 ⟨V6.heap.size, 0, none⟩ 1 1 [.string (strB (wordsL (sumL m (b.sumAt m))))] (by kernel_rfl) rfl ?_ ?_ HBY.out.1 HBY.out.2 (by omega) ?_
          · intro j u hu
            cases j with
            | zero => simp at hu; subst hu; exact hn8.cell 0
            | succ j => simp at hu
          · intro u hu; simp at hu; subst hu; rfl
          intro v9 V9 o9 g9 _
          replace o9 : V9.ownsRow w2.heap.size 9 1 v9 ((linesN b i).length + 1) ((linesN b i ++ [wordsL (sumL m (b.sumAt m))]).map strV) := by rw [List.map_append]; exact o9
          obtain ⟨A9, c9, rfl, _⟩ := StrsI.of_own o9
          simp only [Act.put]
          have L9 := Lx.own (g := w.heap.size) hr8 g9 (by omega) (by omega : w2.heap.size ≤ wb.heap.size)
          have v9b : Boxed V9 w.heap.size 56 v := hv8.kept g9 (hv8.not_row (by decide) hr8)
          have h9c := v9b.cell
          have h9f := v9b.frozen
          refine hK'.out _ _ (hS.kept g9 (hS.not_row (by decide) hr8)) (fun hS => ?_)
          clear hK' K'
          refine wpAnyH_ready (rs := [20]) (by kernel_rfl) (by simp) ?_
          refine AllReadyH.cons rfl (fun K' hK' => ?_) AllReadyH.nil
          go_simp
          refine hK'.out _ _ (hS.far (p := ⟨w.heap.size, 0, none⟩) (by show W.heap.size ≠ w.heap.size; omega) _) (fun hS => ?_)
          clear hK' K'
          refine wpAnyH_done (by kernel_rfl) ?_ _
          refine onlyNormal_normal ?_
          exact ⟨_, _, _, _, _, _, _, _, _, _, _, _, _, _, _, _, _, _, _, _, _, _, _, _, _, _, _, _, _, _, _, _, _, _, _, rfl, v9b.set _, lown_same o9 (fun k hk => Below.heap_setCell _ _ _ k (by have := (o9.lt k hk).1; show k ≠ w.heap.size; omega)), (hL8.trans L9).trans (Lx.set _ _ _), (hM8.keep L9.2).keep (KeepsOthers.setCell _ _ _)⟩
        · skip
          go_simp
          have hsl : SlI (wd.alloc (.cells #[.int .i64 (m : Nat), .int .i64 (b.sumAt m).energy, .int .i64 (b.sumAt m).cost, .int .i64 (b.sumAt m).intervals, .int .i64 (b.sumAt m).flagged, .int .i64 (b.sumAt m).suspects, .int .i64 (b.sumAt m).replaced, .int .i64 (b.sumAt m).corrected] 2)) (wd.alloc (.cells #[.int .i64 (m : Nat), .int .i64 (b.sumAt m).energy, .int .i64 (b.sumAt m).cost, .int .i64 (b.sumAt m).intervals, .int .i64 (b.sumAt m).flagged, .int .i64 (b.sumAt m).suspects, .int .i64 (b.sumAt m).replaced, .int .i64 (b.sumAt m).corrected] 2)).heap.size .i64 (some ⟨wd.heap.size, 0, none⟩) 8 8 (sumL m (b.sumAt m)) := SlI.of_lit rfl rfl (by omega)
          have ba := (Below.refl wd.heap.size wd).alloc (Nat.le_refl _) (.cells #[.int .i64 (m : Nat), .int .i64 (b.sumAt m).energy, .int .i64 (b.sumAt m).cost, .int .i64 (b.sumAt m).intervals, .int .i64 (b.sumAt m).flagged, .int .i64 (b.sumAt m).suspects, .int .i64 (b.sumAt m).replaced, .int .i64 (b.sumAt m).corrected] 2)
          have HW6 := Lib.hid (HWD.out _ _ _ _ hsl (tabIs_up HP2.out ba))
          obtain ⟨wa, hwa⟩ : ∃ Y, wd.alloc (.cells #[.int .i64 (m : Nat), .int .i64 (b.sumAt m).energy, .int .i64 (b.sumAt m).cost, .int .i64 (b.sumAt m).intervals, .int .i64 (b.sumAt m).flagged, .int .i64 (b.sumAt m).suspects, .int .i64 (b.sumAt m).replaced, .int .i64 (b.sumAt m).corrected] 2) = Y := ⟨_, rfl⟩
          rw [hwa] at HW6 ba
          rw [← ba.cell (p := ⟨w.heap.size, 0, none⟩) (by show w.heap.size < _; omega)] at hOC
          rw [hwa]
          refine hK'.out _ _ (hS.below ba hS.lt) (fun hS => ?_)
          clear hK' K'
          refine wpAnyH_ready (rs := [0, 17]) (by kernel_rfl) (by simp) ?_
          refine AllReadyH.cons rfl (fun K' hK' => ?_) (AllReadyH.cons rfl (fun K' hK' => ?_) AllReadyH.nil)
          · skip
            go_simp
            refine hK'.out _ _ hS (fun hS => ?_)
            clear hK' K'
            refine wpAnyH_ready (rs := [17]) (by kernel_rfl) (by simp) ?_
            refine AllReadyH.cons rfl (fun K' hK' => ?_) AllReadyH.nil
            go_simp
            refine HW6.out.mono ?_
            rintro e V6 ⟨rfl, b7⟩
            dsimp only
            have bq := ba.trans (b7.mono ba.size)
            rw [← b7.cell (p := ⟨w.heap.size, 0, none⟩) (by show w.heap.size < _; have := ba.size; omega)] at hOC
            refine hK'.out _ _ (hS.below b7 hS.lt) (fun hS => ?_)
            clear hK' K'
            refine wpAnyH_ready (rs := [18]) (by kernel_rfl) (by simp) ?_
            refine AllReadyH.cons rfl (fun K' hK' => ?_) AllReadyH.nil
            go_simp
            have bb := bq.alloc bq.size (.cells #[.string (strB (wordsL (sumL m (b.sumAt m))))] 9)
            have hn8 : Held (V6.alloc (.cells #[.string (strB (wordsL (sumL m (b.sumAt m))))] 9)) V6.heap.size 9 #[.string (strB (wordsL (sumL m (b.sumAt m))))] := Held.new _ _ _
            have hl8 : w.heap.size < V6.heap.size := by have := bq.size; omega
            rw [← Below.cell ((Below.refl V6.heap.size V6).alloc (Nat.le_refl _) (.cells #[.string (strB (wordsL (sumL m (b.sumAt m))))] 9)) (p := ⟨w.heap.size, 0, none⟩) hl8] at hOC
            obtain ⟨wb, hwb⟩ : ∃ Y, V6.alloc (.cells #[.string (strB (wordsL (sumL m (b.sumAt m))))] 9) = Y := ⟨_, rfl⟩
            have hS8 := hS.alloc (.cells #[.string (strB (wordsL (sumL m (b.sumAt m))))] 9)
            rw [hwb] at hOC bb hn8 hS8 ⊢
            have hr8 := lown_up dr bb
            have hL8 := dL.trans (Lx.below bb (by omega) hdzL)
            have hM8 := dM.keep (keepsOthers_below bb)
            have hv8 : Boxed wb w.heap.size 56 v := (bb.block _ dv.lt).trans dv
            have hz8 : wd.heap.size ≤ wb.heap.size := bb.size
            refine hK'.out _ _ hS8 (fun hS => ?_)
            clear hK' K'
            refine wpAnyH_ready (rs := [19]) (by kernel_rfl) (by simp) ?_
            refine AllReadyH.cons rfl (fun K' hK' => ?_) AllReadyH.nil
            refine wp_append_own _ (.tmp 23) (.tmp 41) 56 rfl w2.heap.size 9 i0 (.string ⟨#[]⟩) 1 16 Tryd.underlying56 hi0 hz0 hz1 hz2 rfl (by decide) v (linesN b i).length _ (by kernel_rfl) hr8 ⟨V6.heap.size, 0, none⟩ 1 1 [.string (strB (wordsL (sumL m (b.sumAt m))))] (by kernel_rfl) rfl ?_ ?_ HBY.out.1 HBY.out.2 (by omega) ?_
            · intro j u hu
              cases j with
              | zero => simp at hu; subst hu; exact hn8.cell 0
              | succ j => simp at hu
            · intro u hu; simp at hu; subst hu; rfl
            intro v9 V9 o9 g9 _
            replace o9 : V9.ownsRow w2.heap.size 9 1 v9 ((linesN b i).length + 1) ((linesN b i ++ [wordsL (sumL m (b.sumAt m))]).map strV) := by rw [List.map_append]; exact o9
            obtain ⟨A9, c9, rfl, _⟩ := StrsI.of_own o9
            simp only [Act.put]
            have L9 := Lx.own (g := w.heap.size) hr8 g9 (by omega) (by omega : w2.heap.size ≤ wb.heap.size)
            have v9b : Boxed V9 w.heap.size 56 v := hv8.kept g9 (hv8.not_row (by decide) hr8)
            have h9c := v9b.cell
            have h9f := v9b.frozen
            refine hK'.out _ _ (hS.kept g9 (hS.not_row (by decide) hr8)) (fun hS => ?_)
            clear hK' K'
            refine wpAnyH_ready (rs := [20]) (by kernel_rfl) (by simp) ?_
            refine AllReadyH.cons rfl (fun K' hK' => ?_) AllReadyH.nil
            go_simp
            refine hK'.out _ _ (hS.far (p := ⟨w.heap.size, 0, none⟩) (by show W.heap.size ≠ w.heap.size; omega) _) (fun hS => ?_)
            clear hK' K'
            refine wpAnyH_done (by kernel_rfl) ?_ _
            refine onlyNormal_normal ?_
            exact ⟨_, _, _, _, _, _, _, _, _, _, _, _, _, _, _, _, _, _, _, _, _, _, _, _, _, _, _, _, _, _, _, _, _, _, _, rfl, v9b.set _, lown_same o9 (fun k hk => Below.heap_setCell _ _ _ k (by have := (o9.lt k hk).1; show k ≠ w.heap.size; omega)), (hL8.trans L9).trans (Lx.set _ _ _), (hM8.keep L9.2).keep (KeepsOthers.setCell _ _ _)⟩
          · skip
            go_simp
            refine HW6.out.mono ?_
            rintro e V6 ⟨rfl, b7⟩
            dsimp only
            have bq := ba.trans (b7.mono ba.size)
            rw [← b7.cell (p := ⟨w.heap.size, 0, none⟩) (by show w.heap.size < _; have := ba.size; omega)] at hOC
            refine hK'.out _ _ (hS.below b7 hS.lt) (fun hS => ?_)
            clear hK' K'
            refine wpAnyH_ready (rs := [0, 18]) (by kernel_rfl) (by simp) ?_
            refine AllReadyH.cons rfl (fun K' hK' => ?_) (AllReadyH.cons rfl (fun K' hK' => ?_) AllReadyH.nil)
            · skip
              go_simp
              refine hK'.out _ _ hS (fun hS => ?_)
              clear hK' K'
              refine wpAnyH_ready (rs := [18]) (by kernel_rfl) (by simp) ?_
              refine AllReadyH.cons rfl (fun K' hK' => ?_) AllReadyH.nil
              go_simp
              have bb := bq.alloc bq.size (.cells #[.string (strB (wordsL (sumL m (b.sumAt m))))] 9)
              have hn8 : Held (V6.alloc (.cells #[.string (strB (wordsL (sumL m (b.sumAt m))))] 9)) V6.heap.size 9 #[.string (strB (wordsL (sumL m (b.sumAt m))))] := Held.new _ _ _
              have hl8 : w.heap.size < V6.heap.size := by have := bq.size; omega
              rw [← Below.cell ((Below.refl V6.heap.size V6).alloc (Nat.le_refl _) (.cells #[.string (strB (wordsL (sumL m (b.sumAt m))))] 9)) (p := ⟨w.heap.size, 0, none⟩) hl8] at hOC
              obtain ⟨wb, hwb⟩ : ∃ Y, V6.alloc (.cells #[.string (strB (wordsL (sumL m (b.sumAt m))))] 9) = Y := ⟨_, rfl⟩
              have hS8 := hS.alloc (.cells #[.string (strB (wordsL (sumL m (b.sumAt m))))] 9)
              rw [hwb] at hOC bb hn8 hS8 ⊢
              have hr8 := lown_up dr bb
              have hL8 := dL.trans (Lx.below bb (by omega) hdzL)
              have hM8 := dM.keep (keepsOthers_below bb)
              have hv8 : Boxed wb w.heap.size 56 v := (bb.block _ dv.lt).trans dv
              have hz8 : wd.heap.size ≤ wb.heap.size := bb.size
              refine hK'.out _ _ hS8 (fun hS => ?_)
              clear hK' K'
              refine wpAnyH_ready (rs := [19]) (by kernel_rfl) (by simp) ?_
              refine AllReadyH.cons rfl (fun K' hK' => ?_) AllReadyH.nil
              refine wp_append_own _ (.tmp 23) (.tmp 41) 56 rfl w2.heap.size 9 i0 (.string ⟨#[]⟩) 1 16 Tryd.underlying56 hi0 hz0 hz1 hz2 rfl (by decide) v (linesN b i).length _ (by kernel_rfl) hr8 ⟨V6.heap.size, 0, none⟩ 1 1 [.string (strB (wordsL (sumL m (b.sumAt m))))] (by kernel_rfl) rfl ?_ ?_ HBY.out.1 HBY.out.2 (by omega) ?_
              · intro j u hu
                cases j with
                | zero => simp at hu; subst hu; exact hn8.cell 0
                | succ j => simp at hu
              · intro u hu; simp at hu; subst hu; rfl
              intro v9 V9 o9 g9 _
              replace o9 : V9.ownsRow w2.heap.size 9 1 v9 ((linesN b i).length + 1) ((linesN b i ++ [wordsL (sumL m (b.sumAt m))]).map strV) := by rw [List.map_append]; exact o9
              obtain ⟨A9, c9, rfl, _⟩ := StrsI.of_own o9
              simp only [Act.put]
              have L9 := Lx.own (g := w.heap.size) hr8 g9 (by omega) (by omega : w2.heap.size ≤ wb.heap.size)
              have v9b : Boxed V9 w.heap.size 56 v := hv8.kept g9 (hv8.not_row (by decide) hr8)
              have h9c := v9b.cell
              have h9f := v9b.frozen
              refine hK'.out _ _ (hS.kept g9 (hS.not_row (by decide) hr8)) (fun hS => ?_)
              clear hK' K'
              refine wpAnyH_ready (rs := [20]) (by kernel_rfl) (by simp) ?_
              refine AllReadyH.cons rfl (fun K' hK' => ?_) AllReadyH.nil
              go_simp
              refine hK'.out _ _ (hS.far (p := ⟨w.heap.size, 0, none⟩) (by show W.heap.size ≠ w.heap.size; omega) _) (fun hS => ?_)
              clear hK' K'
              refine wpAnyH_done (by kernel_rfl) ?_ _
              refine onlyNormal_normal ?_
              exact ⟨_, _, _, _, _, _, _, _, _, _, _, _, _, _, _, _, _, _, _, _, _, _, _, _, _, _, _, _, _, _, _, _, _, _, _, rfl, v9b.set _, lown_same o9 (fun k hk => Below.heap_setCell _ _ _ k (by have := (o9.lt k hk).1; show k ≠ w.heap.size; omega)), (hL8.trans L9).trans (Lx.set _ _ _), (hM8.keep L9.2).keep (KeepsOthers.setCell _ _ _)⟩
            · skip
              go_simp
              have bb := bq.alloc bq.size (.cells #[.string (strB (wordsL (sumL m (b.sumAt m))))] 9)
              have hn8 : Held (V6.alloc (.cells #[.string (strB (wordsL (sumL m (b.sumAt m))))] 9)) V6.heap.size 9 #[.string (strB (wordsL (sumL m (b.sumAt m))))] := Held.new _ _ _
              have hl8 : w.heap.size < V6.heap.size := by have := bq.size; omega
              rw [← Below.cell ((Below.refl V6.heap.size V6).alloc (Nat.le_refl _) (.cells #[.string (strB (wordsL (sumL m (b.sumAt m))))] 9)) (p := ⟨w.heap.size, 0, none⟩) hl8] at hOC
              obtain ⟨wb, hwb⟩ : ∃ Y, V6.alloc (.cells #[.string (strB (wordsL (sumL m (b.sumAt m))))] 9) = Y := ⟨_, rfl⟩
              have hS8 := hS.alloc (.cells #[.string (strB (wordsL (sumL m (b.sumAt m))))] 9)
              rw [hwb] at hOC bb hn8 hS8 ⊢
              have hr8 := lown_up dr bb
              have hL8 := dL.trans (Lx.below bb (by omega) hdzL)
              have hM8 := dM.keep (keepsOthers_below bb)
              have hv8 : Boxed wb w.heap.size 56 v := (bb.block _ dv.lt).trans dv
              have hz8 : wd.heap.size ≤ wb.heap.size := bb.size
              refine hK'.out _ _ hS8 (fun hS => ?_)
              clear hK' K'
              refine wpAnyH_ready (rs := [0]) (by kernel_rfl) (by simp) ?_
              refine AllReadyH.cons rfl (fun K' hK' => ?_) AllReadyH.nil
              go_simp
              refine hK'.out _ _ hS (fun hS => ?_)
              clear hK' K'
              refine wpAnyH_ready (rs := [19]) (by kernel_rfl) (by simp) ?_
              refine AllReadyH.cons rfl (fun K' hK' => ?_) AllReadyH.nil
              refine wp_append_own _ (.tmp 23) (.tmp 41) 56 rfl w2.heap.size 9 i0 (.string ⟨#[]⟩) 1 16 Tryd.underlying56 hi0 hz0 hz1 hz2 rfl (by decide) v (linesN b i).length _ (by kernel_rfl) hr8 ⟨V6.heap.size, 0, none⟩ 1 1 [.string (strB (wordsL (sumL m (b.sumAt m))))] (by kernel_rfl) rfl ?_ ?_ HBY.out.1 HBY.out.2 (by omega) ?_
              · intro j u hu
                cases j with
                | zero => simp at hu; subst hu; exact hn8.cell 0
                | succ j => simp at hu
              · intro u hu; simp at hu; subst hu; rfl
              intro v9 V9 o9 g9 _
              replace o9 : V9.ownsRow w2.heap.size 9 1 v9 ((linesN b i).length + 1) ((linesN b i ++ [wordsL (sumL m (b.sumAt m))]).map strV) := by rw [List.map_append]; exact o9
              obtain ⟨A9, c9, rfl, _⟩ := StrsI.of_own o9
              simp only [Act.put]
              have L9 := Lx.own (g := w.heap.size) hr8 g9 (by omega) (by omega : w2.heap.size ≤ wb.heap.size)
              have v9b : Boxed V9 w.heap.size 56 v := hv8.kept g9 (hv8.not_row (by decide) hr8)
              have h9c := v9b.cell
              have h9f := v9b.frozen
              refine hK'.out _ _ (hS.kept g9 (hS.not_row (by decide) hr8)) (fun hS => ?_)
              clear hK' K'
              refine wpAnyH_ready (rs := [20]) (by kernel_rfl) (by simp) ?_
              refine AllReadyH.cons rfl (fun K' hK' => ?_) AllReadyH.nil
              go_simp
              refine hK'.out _ _ (hS.far (p := ⟨w.heap.size, 0, none⟩) (by show W.heap.size ≠ w.heap.size; omega) _) (fun hS => ?_)
              clear hK' K'
              refine wpAnyH_done (by kernel_rfl) ?_ _
              refine onlyNormal_normal ?_
              exact ⟨_, _, _, _, _, _, _, _, _, _, _, _, _, _, _, _, _, _, _, _, _, _, _, _, _, _, _, _, _, _, _, _, _, _, _, rfl, v9b.set _, lown_same o9 (fun k hk => Below.heap_setCell _ _ _ k (by have := (o9.lt k hk).1; show k ≠ w.heap.size; omega)), (hL8.trans L9).trans (Lx.set _ _ _), (hM8.keep L9.2).keep (KeepsOthers.setCell _ _ _)⟩
      · clear dv dr dL dM hOC hS HWD
        rintro a' V ⟨u6, u14, u15, u16, u17, u18, u19, u20, u21, u22, u23, u24, u25, u26, u27, u28, u29, u30, u31, u32, u33, u34, u35, u36, u37, u38, u39, u40, u41, u42, u43, u44, u45, u66, v9, rfl, hv9, hr9, hL9, hM9⟩
        dsimp only
        have hBv : Held V gb 40 b.arr := hL9.held (by omega) (by omega) HB2.out
        have hVz : w2.heap.size ≤ V.heap.size := hL9.size
        have hF2 : Fence.wide.fn 33 := trivial
        have HBD := Lib.hid (bands_in gb (m : Int) V)
        go_wp2_with (go_at_call 33; refine (callsIn_wide.1 HBD.out).mono ?_; rintro e wx ⟨rfl, rfl⟩)
        have hp0 : Held (V.alloc (.cells #[.pointer (some ⟨gb, 0, none⟩)] 30)) V.heap.size 30 #[.pointer (some ⟨gb, 0, none⟩)] := Held.new V _ _
        have hp1 := hp0.alloc (.cells #[.int .i64 (m : Nat)] 3)
        have hq1 : Held ((V.alloc (.cells #[.pointer (some ⟨gb, 0, none⟩)] 30)).alloc (.cells #[.int .i64 (m : Nat)] 3)) (V.heap.size + 1) 3 #[.int .i64 (m : Nat)] := Held.new_at (by simp)
        have bF : Below V.heap.size V ((V.alloc (.cells #[.pointer (some ⟨gb, 0, none⟩)] 30)).alloc (.cells #[.int .i64 (m : Nat)] 3)) := ((Below.refl _ V).alloc (Nat.le_refl _) _).alloc (by simp) _
        generalize (V.alloc (.cells #[.pointer (some ⟨gb, 0, none⟩)] 30)).alloc (.cells #[.int .i64 (m : Nat)] 3) = wF at hp1 hq1 bF ⊢
        have hBF := hBv.below bF hBv.lt
        have hI0 : BanR b m (linesN b i ++ [wordsL (sumL m (b.sumAt m))]) w2 w.heap.size w2.heap.size Ds [] wF :=
          ⟨v9, (bF.block _ hv9.lt).trans hv9, by rw [List.map_nil, List.append_nil, List.length_append]; exact lown_up hr9 bF, hL9.trans (Lx.below bF (by omega) hVz), hM9.keep (keepsOthers_below bF)⟩
        have hFz := bF.size
        have hDs : ∀ D ∈ Ds, D < wF.heap.size := fun D hD => (Array.getElem?_eq_some_iff.1 (hI0.choose_spec.2.2.2.2 D hD).2).1
        have HI0 := Lib.hid hI0
        have HDS := Lib.hid hDs
        clear hp0 hBv hv9 hr9 hL9 hM9 hI0 hDs HBD
        refine wpIn_wide.1 (wpIn_rangeFunc_ownH (n := 6) rfl (by omega) (gf := 41) (lb := #[.pointer (some ⟨V.heap.size, 0, none⟩), .pointer (some ⟨V.heap.size + 1, 0, none⟩)]) rfl trivial (enters_of Tryd.func41 (by kernel_rfl) rfl)
          (bands_stops K b hb m hm64 V.heap.size (V.heap.size + 1) gb (fun _ _ => True) wF hBF (hp1.cell 0) (hq1.cell 0)) (fun _ _ => trivial) (fun _ _ _ _ _ _ _ _ => trivial) (Below.refl _ _) (fun _ => rfl)
          (BanR b m (linesN b i ++ [wordsL (sumL m (b.sumAt m))]) w2 w.heap.size w2.heap.size Ds) (fun _ _ _ => False) ?own ?ownx HI0.out
          (fun x a' Y => ∃ (z0 z1 z2 z4 z5 z6 z9 z10 z11 z12 z13 z14 z15 z16 z17 z18 z19 z20 z21 z22 z23 z24 z25 z26 z27 z28 z29 z30 z31 z32 z33 z34 z35 z36 z37 z38 z39 z40 z41 z42 z43 z44 z45 z46 z47 z66 : Value) (p : Nat), a' = { tmps := #[z0, z1, z2, .pointer (some ⟨w.heap.size, 0, none⟩), z4, z5, z6, .int .i64 (x.1 : Nat), .pointer (some ⟨p, 0, none⟩), z9, z10, z11, z12, z13, z14, z15, z16, z17, z18, z19, z20, z21, z22, z23, z24, z25, z26, z27, z28, z29, z30, z31, z32, z33, z34, z35, z36, z37, z38, z39, z40, z41, z42, z43, z44, z45, z46, z47, undef, undef, undef, undef, undef, undef, undef, undef, undef, undef, undef, undef, undef, undef, undef, undef, undef, undef, z66, undef], defers := [] } ∧ w2.heap.size ≤ p ∧ Held Y p 32 #[.int .i64 (b.totAt m x.1).energy, .int .i64 (b.totAt m x.1).cost, .int .i64 (b.totAt m x.1).many]) ?ownax ?assign ?body ?done ?stop)
        case own => exact BanR.own HDS.out hgO (by omega) rfl
        case ownx => exact fun c pre X Y row h _ _ => h.elim
        case ownax =>
          rintro x a' s X Y row ⟨z0, z1, z2, z4, z5, z6, z9, z10, z11, z12, z13, z14, z15, z16, z17, z18, z19, z20, z21, z22, z23, z24, z25, z26, z27, z28, z29, z30, z31, z32, z33, z34, z35, z36, z37, z38, z39, z40, z41, z42, z43, z44, z45, z46, z47, z66, p, h1, h2, h3⟩ hg hr
          exact ⟨z0, z1, z2, z4, z5, z6, z9, z10, z11, z12, z13, z14, z15, z16, z17, z18, z19, z20, z21, z22, z23, z24, z25, z26, z27, z28, z29, z30, z31, z32, z33, z34, z35, z36, z37, z38, z39, z40, z41, z42, z43, z44, z45, z46, z47, z66, p, h1, h2, held_ownFrom () X Y row h3 hg hr⟩
        case assign =>
          rintro l pre x Y K hI hK
          unfold bandV
          have ba := (Below.refl Y.heap.size Y).alloc (Nat.le_refl _) (.cells #[.int .i64 (b.totAt m x.1).energy, .int .i64 (b.totAt m x.1).cost, .int .i64 (b.totAt m x.1).many] 32)
          have hIY : BanR b m (linesN b i ++ [wordsL (sumL m (b.sumAt m))]) w2 w.heap.size w2.heap.size Ds pre (Y.alloc (.cells #[.int .i64 (b.totAt m x.1).energy, .int .i64 (b.totAt m x.1).cost, .int .i64 (b.totAt m x.1).many] 32)) := by
            obtain ⟨v, h1, h2, h3, h4⟩ := hI
            exact ⟨v, (ba.block _ h1.lt).trans h1, lown_up h2 ba, h3.trans (Lx.below ba (by omega) (by have := h3.size; omega)), h4.keep (keepsOthers_below ba)⟩
          have hYz : w2.heap.size ≤ Y.heap.size := by obtain ⟨v, h1, h2, h3, h4⟩ := hI; exact h3.size
          have HIY := Lib.hid hIY
          clear hI hIY ba
          gi_wp2
          refine hK _ _ ((KeepsOthers.alloc _ _).from _) trivial HIY.out ⟨_, _, _, _, _, _, _, _, _, _, _, _, _, _, _, _, _, _, _, _, _, _, _, _, _, _, _, _, _, _, _, _, _, _, _, _, _, _, _, _, _, _, _, _, _, _, Y.heap.size, rfl, hYz, Held.new Y _ _⟩
        case body =>
          rintro l pre x a' Y hl ⟨r, hr⟩ ⟨v, hv, hrow, hLx, hMk⟩ ⟨z0, z1, z2, z4, z5, z6, z9, z10, z11, z12, z13, z14, z15, z16, z17, z18, z19, z20, z21, z22, z23, z24, z25, z26, z27, z28, z29, z30, z31, z32, z33, z34, z35, z36, z37, z38, z39, z40, z41, z42, z43, z44, z45, z46, z47, z66, p, rfl, hp2, hT⟩ hlt
          dsimp only
          have hYz := hLx.size
          have hlY : l < Y.heap.size := (Array.getElem?_eq_some_iff.1 hr).1
          obtain ⟨c0, c1, c2⟩ := (⟨hT.cell 0, hT.cell 1, hT.cell 2⟩ : Y.cell? ⟨p, 0, none⟩ = _ ∧ Y.cell? ⟨p, 1, none⟩ = _ ∧ Y.cell? ⟨p, 2, none⟩ = _)
          simp only [List.getElem?_toArray, List.getElem?_cons_zero, List.getElem?_cons_succ] at c0 c1 c2
          have hpY := hT.lt
          have htk := hb.totAt m x.1 hm64 x.2
          obtain ⟨⟨t11, t12⟩, ⟨t21, t22⟩, t31, t32⟩ := htk
          have hx8 := x.2
          obtain ⟨te, hte⟩ : ∃ q, (b.totAt m x.1).energy = q := ⟨_, rfl⟩
          obtain ⟨tc, htc⟩ : ∃ q, (b.totAt m x.1).cost = q := ⟨_, rfl⟩
          obtain ⟨tm, htm⟩ : ∃ q, (b.totAt m x.1).many = q := ⟨_, rfl⟩
          have HBL : Hid (bandLine b m x = [98, 97, 110, 100] ++ Lib.trimPrefix (wordsL [(x.1 : Int), te, tc]) [109, 101, 116, 101, 114] ++ [32, 109, 97, 110, 121, 32] ++ Lib.itoa tm) := Lib.hid (by unfold bandLine; rw [hte, htc, htm])
          rw [hte] at c0 hT t11 t12
          rw [htc] at c1 hT t21 t22
          rw [htm] at c2 hT t31 t32
          have hin : ∀ y ∈ [(x.1 : Int), te, tc], -9223372036854775808 ≤ y ∧ y ≤ 9223372036854775807 := by
            intro y hy
            simp only [List.mem_cons, List.not_mem_nil, or_false] at hy
            rcases hy with rfl | rfl | rfl <;> omega
          have hsl : SlI (Y.alloc (.cells #[.int .i64 (x.1 : Nat), .int .i64 te, .int .i64 tc] 2)) (Y.alloc (.cells #[.int .i64 (x.1 : Nat), .int .i64 te, .int .i64 tc] 2)).heap.size .i64 (some ⟨Y.heap.size, 0, none⟩) 3 3 [(x.1 : Int), te, tc] := SlI.of_lit rfl rfl (by omega)
          have ba := (Below.refl Y.heap.size Y).alloc (Nat.le_refl _) (.cells #[.int .i64 (x.1 : Nat), .int .i64 te, .int .i64 tc] 2)
          have hBwY := hbw2.trans hLx.1.1
          have HW3 : Hid (Calls Tryd.prog 32 #[.slice (some ⟨Y.heap.size, 0, none⟩) 3 3] (Y.alloc (.cells #[.int .i64 (x.1 : Nat), .int .i64 te, .int .i64 tc] 2)) fun e w' => e = .returned (.string (strB (wordsL [(x.1 : Int), te, tc]))) ∧ Below (Y.alloc (.cells #[.int .i64 (x.1 : Nat), .int .i64 te, .int .i64 tc] 2)).heap.size (Y.alloc (.cells #[.int .i64 (x.1 : Nat), .int .i64 te, .int .i64 tc] 2)) w') :=
            Lib.hid (words_any [(x.1 : Int), te, tc] (by simp) (by simp) hin _ _ _ _ hsl (tabIs_up (tabIs_up HP.out hBwY) ba))
          have k1F : Fence.wide.fn 32 := trivial
          have HV := Lib.hid hv
          have HR := Lib.hid hrow
          have HLX := Lib.hid hLx
          have HMK := Lib.hid hMk
          have HT3 := Lib.hid hT
          have HBA := Lib.hid ba
          clear hv hrow hLx hMk hT hsl ba hin hr hte htc htm
          gi_wp2_with (gi_at_call 32; refine (CallsIn.inRound l (callsIn_wide.2 HW3.out)).mono ?_; rintro e V6 ⟨rfl, b6⟩)
          have b6Y := HBA.out.trans (b6.mono HBA.out.size)
          have hv6 : Boxed V6 w.heap.size 56 v := (b6Y.block _ HV.out.lt).trans HV.out
          have hr6 := lown_up HR.out b6Y
          have hL6 := HLX.out.trans (Lx.below b6Y (by omega) hYz)
          have hM6 := HMK.out.keep (keepsOthers_below b6Y)
          have hT6 := HT3.out.below b6Y hpY
          have hk6 := keepsOthers_below b6Y
          obtain ⟨wd, hwd⟩ : ∃ Z : World, V6.drew = Z := ⟨_, rfl⟩
          have dv : Boxed wd w.heap.size 56 v := by rw [← hwd]; exact hv6
          have dr : wd.ownsRow w2.heap.size 9 1 v (linesN b i ++ [wordsL (sumL m (b.sumAt m))] ++ pre.map (bandLine b m)).length ((linesN b i ++ [wordsL (sumL m (b.sumAt m))] ++ pre.map (bandLine b m)).map strV) := by rw [← hwd]; exact hr6.drew
          have dL : Lx w.heap.size w2.heap.size w2 wd := by rw [← hwd]; exact hL6.drew
          have dM : Mk w2.heap.size Ds wd := by rw [← hwd]; exact hM6
          have dk : KeepsOthers Y wd := by rw [← hwd]; exact hk6.trans (KeepsOthers.drew _)
          have hOC := dv.cell
          have hS : Held wd p 32 #[.int .i64 te, .int .i64 tc, .int .i64 tm] := by rw [← hwd]; exact hT6
          have hpd := hS.lt
          have hdzL : w2.heap.size ≤ wd.heap.size := dL.size
          have hP2 := Lib.hid (tabIs_up HP.out (hbw2.trans dL.1.1))
          obtain ⟨i1, hi1, hy0, hy1, hy2⟩ := info_parts info_str
          have hpl : pre.length < 8 := hlt
          have hNl := linesN_len b i (by have := HML.out; omega)
          have HBY := Lib.hid (show (linesN b i ++ [wordsL (sumL m (b.sumAt m))] ++ pre.map (bandLine b m)).length + 1 ≤ maxLen ∧ ((linesN b i ++ [wordsL (sumL m (b.sumAt m))] ++ pre.map (bandLine b m)).length + 1) * 16 ≤ 140737488355328 by
            have hl : (linesN b i ++ [wordsL (sumL m (b.sumAt m))] ++ pre.map (bandLine b m)).length ≤ 600 := by simp only [List.length_append, List.length_map, List.length_cons, List.length_nil]; omega
            unfold maxLen; omega)
          have hwl : (wordsL [(x.1 : Int), te, tc]).length ≤ 1000 := words_len _ (by simp) (by
            intro y hy
            simp only [List.mem_cons, List.not_mem_nil, or_false] at hy
            rcases hy with rfl | rfl | rfl <;> omega)
          have htl := trim_len (wordsL [(x.1 : Int), te, tc]) [109, 101, 116, 101, 114]
          have hil := Lib.itoa_length_le tm (by omega) (by omega)
          have HTP := Lib.hid (fun V => Tryd.strings_TrimPrefix (strB (wordsL [(x.1 : Int), te, tc])) ⟨#[109, 101, 116, 101, 114]⟩ V)
          have HIT := Lib.hid (fun (V : World) (h : P10 V) => Tryd.strconv_Itoa tm (by omega) (by omega) V h)
          obtain ⟨TB, hTB⟩ : ∃ q : ByteArray, ⟨(Lib.trimPrefix (wordsL [(x.1 : Int), te, tc]) [109, 101, 116, 101, 114]).toArray⟩ = q := ⟨_, rfl⟩
          obtain ⟨IB, hIB⟩ : ∃ q : ByteArray, ⟨(Lib.itoa tm).toArray⟩ = q := ⟨_, rfl⟩
          have HTP2 : Hid (∀ V : World, Calls Tryd.prog 34 #[.string (strB (wordsL [(x.1 : Int), te, tc])), .string ⟨#[109, 101, 116, 101, 114]⟩] V fun e w' => e = .returned (.string TB) ∧ V = w') := Lib.hid (fun V => (HTP.out V).mono fun e w' h => ⟨by rw [h.1, ← hTB]; simp [strB], h.2.symm⟩)
          have HIT2 : Hid (∀ V : World, P10 V → Calls Tryd.prog 35 #[.int .i64 tm] V fun e w' => e = .returned (.string IB) ∧ Below V.heap.size V w') := Lib.hid (fun V h => (HIT.out V h).mono fun e w' ⟨h1, q, os, h2⟩ => ⟨by rw [h1, hIB], by rw [h2]; exact below_grown _ _ _⟩)
          have hTs : TB.size ≤ 1000 := by rw [← hTB]; simp [ByteArray.size]; omega
          have hIs : IB.size ≤ 21 := by rw [← hIB]; simpa [ByteArray.size] using hil
          have hg1 : ¬ 9223372036854775807 < 4 + TB.size := by omega
          have hg2 : ¬ 9223372036854775807 < 4 + TB.size + 6 := by omega
          have hg3 : ¬ 9223372036854775807 < 4 + TB.size + 6 + IB.size := by omega
          have HCAT : Hid (strB (bandLine b m x) = ⟨#[98, 97, 110, 100]⟩ ++ TB ++ ⟨#[32, 109, 97, 110, 121, 32]⟩ ++ IB) := Lib.hid (by rw [HBL.out, ← hTB, ← hIB]; apply ByteArray.ext; simp [strB])
          clear hv6 hr6 hL6 hM6 hT6 hk6 HTP HIT hTB hIB hwl htl hil b6 b6Y HV HR HLX HMK HT3 HBA HW3 c0 c1 c2 HBL
          refine round_region_held (fun Z => Held Z p 32 #[.int .i64 te, .int .i64 tc, .int .i64 tm]) (by kernel_rfl) (by kernel_rfl) (ownPostG_notOut _) ?_
          change wpAnyH _ _ _ _ _ _ _ _ V6.drew
          rw [hwd]
          clear hwd
          refine wpAnyH_take (i := 1) (v := ?v1_3001) rfl (by kernel_rfl) (by kernel_rfl) (by kernel_rfl) (fun _ _ _ h => h) (Or.inl ⟨by rfl, ?y1_3001⟩) hS ?r1_3001
          case y1_3001 =>
            rintro W hH
            go_simp
            with_reducible rfl
          simp only [Act.put]
          try simp only [List.getElem_toArray, List.getElem_cons_succ, List.getElem_cons_zero]
          try simp only [List.setIfInBounds_toArray, List.set_cons_succ, List.set_cons_zero]
          refine wpAnyH_take (i := 5) (v := ?v5_3002) rfl (by kernel_rfl) (by kernel_rfl) (by kernel_rfl) (fun _ _ _ h => h) (Or.inl ⟨by rfl, ?y5_3002⟩) hS ?r5_3002
          case y5_3002 =>
            rintro W hH
            go_simp
            with_reducible rfl
          simp only [Act.put]
          try simp only [List.getElem_toArray, List.getElem_cons_succ, List.getElem_cons_zero]
          try simp only [List.setIfInBounds_toArray, List.set_cons_succ, List.set_cons_zero]
          refine wpAnyH_take (i := 6) (v := ?v6_3003) rfl (by kernel_rfl) (by kernel_rfl) (by kernel_rfl) (fun _ _ _ h => h) (Or.inl ⟨by rfl, ?y6_3003⟩) hS ?r6_3003
          case y6_3003 =>
            rintro W hH
            have tc2 := hH.cell 2
            simp only [List.getElem?_toArray, List.getElem?_cons_zero, List.getElem?_cons_succ] at tc2
            go_simp
            with_reducible rfl
          simp only [Act.put]
          try simp only [List.getElem_toArray, List.getElem_cons_succ, List.getElem_cons_zero]
          try simp only [List.setIfInBounds_toArray, List.set_cons_succ, List.set_cons_zero]
          refine wpAnyH_ready (rs := [0, 2]) (by kernel_rfl) (by simp) ?_
          refine AllReadyH.cons rfl (fun K' hK' => ?_) (AllReadyH.cons rfl (fun K' hK' => ?_) AllReadyH.nil)
          · skip
            go_simp
            refine hK'.out _ _ hS (fun hS => ?_)
            clear hK' K'
            refine wpAnyH_ready (rs := [2]) (by kernel_rfl) (by simp) ?_
            refine AllReadyH.cons rfl (fun K' hK' => ?_) AllReadyH.nil
            go_simp
            refine (HTP2.out _).mono ?_
            rintro e Vt ⟨rfl, rfl⟩
            dsimp only
            refine hK'.out _ _ hS (fun hS => ?_)
            clear hK' K'
            refine wpAnyH_take (i := 3) (v := ?v3_3004) rfl (by kernel_rfl) (by kernel_rfl) (by kernel_rfl) (fun _ _ _ h => h) (Or.inl ⟨by rfl, ?y3_3004⟩) hS ?r3_3004
            case y3_3004 =>
              rintro W hH
              go_simp
              with_reducible rfl
            simp only [Act.put]
            try simp only [List.getElem_toArray, List.getElem_cons_succ, List.getElem_cons_zero]
            try simp only [List.setIfInBounds_toArray, List.set_cons_succ, List.set_cons_zero]
            refine wpAnyH_take (i := 4) (v := ?v4_3005) rfl (by kernel_rfl) (by kernel_rfl) (by kernel_rfl) (fun _ _ _ h => h) (Or.inl ⟨by rfl, ?y4_3005⟩) hS ?r4_3005
            case y4_3005 =>
              rintro W hH
              go_simp
              with_reducible rfl
            simp only [Act.put]
            try simp only [List.getElem_toArray, List.getElem_cons_succ, List.getElem_cons_zero]
            try simp only [List.setIfInBounds_toArray, List.set_cons_succ, List.set_cons_zero]
            refine wpAnyH_ready (rs := [7]) (by kernel_rfl) (by simp) ?_
            refine AllReadyH.cons rfl (fun K' hK' => ?_) AllReadyH.nil
            go_simp
            refine (HIT2.out _ hP2.out).mono ?_
            rintro e V7 ⟨rfl, b7⟩
            dsimp only
            rw [← b7.cell (p := ⟨w.heap.size, 0, none⟩) (by show w.heap.size < _; omega)] at hOC
            refine hK'.out _ _ (hS.below b7 hS.lt) (fun hS => ?_)
            clear hK' K'
            refine wpAnyH_take (i := 8) (v := ?v8_3006) rfl (by kernel_rfl) (by kernel_rfl) (by kernel_rfl) (fun _ _ _ h => h) (Or.inl ⟨by rfl, ?y8_3006⟩) hS ?r8_3006
            case y8_3006 =>
              rintro W hH
              go_simp
              with_reducible rfl
            simp only [Act.put]
            try simp only [List.getElem_toArray, List.getElem_cons_succ, List.getElem_cons_zero]
            try simp only [List.setIfInBounds_toArray, List.set_cons_succ, List.set_cons_zero]
            refine wpAnyH_ready (rs := [9]) (by kernel_rfl) (by simp) ?_
            refine AllReadyH.cons rfl (fun K' hK' => ?_) AllReadyH.nil
            go_simp
            have bb := b7.alloc b7.size (.cells #[.string (⟨#[98, 97, 110, 100]⟩ ++ TB ++ ⟨#[32, 109, 97, 110, 121, 32]⟩ ++ IB)] 9)
            have hn8 : Held (V7.alloc (.cells #[.string (⟨#[98, 97, 110, 100]⟩ ++ TB ++ ⟨#[32, 109, 97, 110, 121, 32]⟩ ++ IB)] 9)) V7.heap.size 9 #[.string (⟨#[98, 97, 110, 100]⟩ ++ TB ++ ⟨#[32, 109, 97, 110, 121, 32]⟩ ++ IB)] := Held.new _ _ _
            have hl8 : w.heap.size < V7.heap.size := by have := b7.size; omega
            rw [← Below.cell ((Below.refl V7.heap.size V7).alloc (Nat.le_refl _) (.cells #[.string (⟨#[98, 97, 110, 100]⟩ ++ TB ++ ⟨#[32, 109, 97, 110, 121, 32]⟩ ++ IB)] 9)) (p := ⟨w.heap.size, 0, none⟩) hl8] at hOC
            have hS8 := hS.alloc (.cells #[.string (⟨#[98, 97, 110, 100]⟩ ++ TB ++ ⟨#[32, 109, 97, 110, 121, 32]⟩ ++ IB)] 9)
            obtain ⟨wb, hwb⟩ : ∃ Z, V7.alloc (.cells #[.string (⟨#[98, 97, 110, 100]⟩ ++ TB ++ ⟨#[32, 109, 97, 110, 121, 32]⟩ ++ IB)] 9) = Z := ⟨_, rfl⟩
            rw [hwb] at hOC bb hn8 hS8 ⊢
            have hr8 := lown_up dr bb
            have hL8 := dL.trans (Lx.below bb (by omega) hdzL)
            have hM8 := dM.keep (keepsOthers_below bb)
            have hv8 : Boxed wb w.heap.size 56 v := (bb.block _ dv.lt).trans dv
            have hz8 : wd.heap.size ≤ wb.heap.size := bb.size
            have hk8 := dk.trans (keepsOthers_below bb)
            refine hK'.out _ _ hS8 (fun hS => ?_)
            clear hK' K'
            refine wpAnyH_ready (rs := [10]) (by kernel_rfl) (by simp) ?_
            refine AllReadyH.cons rfl (fun K' hK' => ?_) AllReadyH.nil
            refine wp_append_own _ (.tmp 55) (.tmp 64) 56 rfl w2.heap.size 9 i1 (.string ⟨#[]⟩) 1 16 Tryd.underlying56 hi1 hy0 hy1 hy2 rfl (by decide) v (linesN b i ++ [wordsL (sumL m (b.sumAt m))] ++ pre.map (bandLine b m)).length _ (by kernel_rfl) hr8 ⟨V7.heap.size, 0, none⟩ 1 1 [.string (⟨#[98, 97, 110, 100]⟩ ++ TB ++ ⟨#[32, 109, 97, 110, 121, 32]⟩ ++ IB)] (by kernel_rfl) rfl ?_ ?_ HBY.out.1 HBY.out.2 (by omega) ?_
            · intro j u hu
              cases j with
              | zero => simp at hu; subst hu; exact hn8.cell 0
              | succ j => simp at hu
            · intro u hu; simp at hu; subst hu; rfl
            intro v9 V9 o9 g9 _
            replace o9 : V9.ownsRow w2.heap.size 9 1 v9 (linesN b i ++ [wordsL (sumL m (b.sumAt m))] ++ (pre ++ [x]).map (bandLine b m)).length ((linesN b i ++ [wordsL (sumL m (b.sumAt m))] ++ (pre ++ [x]).map (bandLine b m)).map strV) := by
              have e1 : linesN b i ++ [wordsL (sumL m (b.sumAt m))] ++ (pre ++ [x]).map (bandLine b m) = (linesN b i ++ [wordsL (sumL m (b.sumAt m))] ++ pre.map (bandLine b m)) ++ [bandLine b m x] := by rw [List.map_append]; simp
              rw [e1, List.length_append, List.map_append]
              show World.ownsRow _ _ _ _ _ _ (_ ++ [Value.string (strB _)])
              rw [HCAT.out]; exact o9
            obtain ⟨N9, hN9⟩ : ∃ N, (linesN b i ++ [wordsL (sumL m (b.sumAt m))] ++ (pre ++ [x]).map (bandLine b m)).length = N := ⟨_, rfl⟩
            rw [hN9] at o9
            have HN9 := Lib.hid hN9
            clear hN9
            obtain ⟨A9, c9, rfl, _⟩ := StrsI.of_own o9
            simp only [Act.put]
            have L9 := Lx.own (g := w.heap.size) hr8 g9 (by omega) (by omega : w2.heap.size ≤ wb.heap.size)
            have v9b : Boxed V9 w.heap.size 56 v := hv8.kept g9 (hv8.not_row (by decide) hr8)
            have h9c := v9b.cell
            have h9f := v9b.frozen
            refine hK'.out _ _ (hS.kept g9 (hS.not_row (by decide) hr8)) (fun hS => ?_)
            clear hK' K'
            refine wpAnyH_ready (rs := [11]) (by kernel_rfl) (by simp) ?_
            refine AllReadyH.cons rfl (fun K' hK' => ?_) AllReadyH.nil
            go_simp
            refine hK'.out _ _ (hS.far (p := ⟨w.heap.size, 0, none⟩) (by show p ≠ w.heap.size; omega) _) (fun hS => ?_)
            clear hK' K'
            refine wpAnyH_done (by kernel_rfl) ?_ _
            exact ⟨((hk8.trans L9.2).trans (KeepsOthers.setCell _ _ _)).from _, trivial, _, v9b.set _, by rw [HN9.out]; exact lown_same o9 (fun k hk => Below.heap_setCell _ _ _ k (by have := (o9.lt k hk).1; show k ≠ w.heap.size; omega)), (hL8.trans L9).trans (Lx.set _ _ _), (hM8.keep L9.2).keep (KeepsOthers.setCell _ _ _)⟩
          · skip
            go_simp
            refine (HTP2.out _).mono ?_
            rintro e Vt ⟨rfl, rfl⟩
            dsimp only
            refine hK'.out _ _ hS (fun hS => ?_)
            clear hK' K'
            refine wpAnyH_take (i := 3) (v := ?v3_3007) rfl (by kernel_rfl) (by kernel_rfl) (by kernel_rfl) (fun _ _ _ h => h) (Or.inl ⟨by rfl, ?y3_3007⟩) hS ?r3_3007
            case y3_3007 =>
              rintro W hH
              go_simp
              with_reducible rfl
            simp only [Act.put]
            try simp only [List.getElem_toArray, List.getElem_cons_succ, List.getElem_cons_zero]
            try simp only [List.setIfInBounds_toArray, List.set_cons_succ, List.set_cons_zero]
            refine wpAnyH_take (i := 4) (v := ?v4_3008) rfl (by kernel_rfl) (by kernel_rfl) (by kernel_rfl) (fun _ _ _ h => h) (Or.inl ⟨by rfl, ?y4_3008⟩) hS ?r4_3008
            case y4_3008 =>
              rintro W hH
              go_simp
              with_reducible rfl
            simp only [Act.put]
            try simp only [List.getElem_toArray, List.getElem_cons_succ, List.getElem_cons_zero]
            try simp only [List.setIfInBounds_toArray, List.set_cons_succ, List.set_cons_zero]
            refine wpAnyH_ready (rs := [0, 7]) (by kernel_rfl) (by simp) ?_
            refine AllReadyH.cons rfl (fun K' hK' => ?_) (AllReadyH.cons rfl (fun K' hK' => ?_) AllReadyH.nil)
            · skip
              go_simp
              refine hK'.out _ _ hS (fun hS => ?_)
              clear hK' K'
              refine wpAnyH_ready (rs := [7]) (by kernel_rfl) (by simp) ?_
              refine AllReadyH.cons rfl (fun K' hK' => ?_) AllReadyH.nil
              go_simp
              refine (HIT2.out _ hP2.out).mono ?_
              rintro e V7 ⟨rfl, b7⟩
              dsimp only
              rw [← b7.cell (p := ⟨w.heap.size, 0, none⟩) (by show w.heap.size < _; omega)] at hOC
              refine hK'.out _ _ (hS.below b7 hS.lt) (fun hS => ?_)
              clear hK' K'
              refine wpAnyH_take (i := 8) (v := ?v8_3009) rfl (by kernel_rfl) (by kernel_rfl) (by kernel_rfl) (fun _ _ _ h => h) (Or.inl ⟨by rfl, ?y8_3009⟩) hS ?r8_3009
              case y8_3009 =>
                rintro W hH
                go_simp
                with_reducible rfl
              simp only [Act.put]
              try simp only [List.getElem_toArray, List.getElem_cons_succ, List.getElem_cons_zero]
              try simp only [List.setIfInBounds_toArray, List.set_cons_succ, List.set_cons_zero]
              refine wpAnyH_ready (rs := [9]) (by kernel_rfl) (by simp) ?_
              refine AllReadyH.cons rfl (fun K' hK' => ?_) AllReadyH.nil
              go_simp
              have bb := b7.alloc b7.size (.cells #[.string (⟨#[98, 97, 110, 100]⟩ ++ TB ++ ⟨#[32, 109, 97, 110, 121, 32]⟩ ++ IB)] 9)
              have hn8 : Held (V7.alloc (.cells #[.string (⟨#[98, 97, 110, 100]⟩ ++ TB ++ ⟨#[32, 109, 97, 110, 121, 32]⟩ ++ IB)] 9)) V7.heap.size 9 #[.string (⟨#[98, 97, 110, 100]⟩ ++ TB ++ ⟨#[32, 109, 97, 110, 121, 32]⟩ ++ IB)] := Held.new _ _ _
              have hl8 : w.heap.size < V7.heap.size := by have := b7.size; omega
              rw [← Below.cell ((Below.refl V7.heap.size V7).alloc (Nat.le_refl _) (.cells #[.string (⟨#[98, 97, 110, 100]⟩ ++ TB ++ ⟨#[32, 109, 97, 110, 121, 32]⟩ ++ IB)] 9)) (p := ⟨w.heap.size, 0, none⟩) hl8] at hOC
              have hS8 := hS.alloc (.cells #[.string (⟨#[98, 97, 110, 100]⟩ ++ TB ++ ⟨#[32, 109, 97, 110, 121, 32]⟩ ++ IB)] 9)
              obtain ⟨wb, hwb⟩ : ∃ Z, V7.alloc (.cells #[.string (⟨#[98, 97, 110, 100]⟩ ++ TB ++ ⟨#[32, 109, 97, 110, 121, 32]⟩ ++ IB)] 9) = Z := ⟨_, rfl⟩
              rw [hwb] at hOC bb hn8 hS8 ⊢
              have hr8 := lown_up dr bb
              have hL8 := dL.trans (Lx.below bb (by omega) hdzL)
              have hM8 := dM.keep (keepsOthers_below bb)
              have hv8 : Boxed wb w.heap.size 56 v := (bb.block _ dv.lt).trans dv
              have hz8 : wd.heap.size ≤ wb.heap.size := bb.size
              have hk8 := dk.trans (keepsOthers_below bb)
              refine hK'.out _ _ hS8 (fun hS => ?_)
              clear hK' K'
              refine wpAnyH_ready (rs := [10]) (by kernel_rfl) (by simp) ?_
              refine AllReadyH.cons rfl (fun K' hK' => ?_) AllReadyH.nil
              refine wp_append_own _ (.tmp 55) (.tmp 64) 56 rfl w2.heap.size 9 i1 (.string ⟨#[]⟩) 1 16 Tryd.underlying56 hi1 hy0 hy1 hy2 rfl (by decide) v (linesN b i ++ [wordsL (sumL m (b.sumAt m))] ++ pre.map (bandLine b m)).length _ (by kernel_rfl) hr8 ⟨V7.heap.size, 0, none⟩ 1 1 [.string (⟨#[98, 97, 110, 100]⟩ ++ TB ++ ⟨#[32, 109, 97, 110, 121, 32]⟩ ++ IB)] (by kernel_rfl) rfl ?_ ?_ HBY.out.1 HBY.out.2 (by omega) ?_
              · intro j u hu
                cases j with
                | zero => simp at hu; subst hu; exact hn8.cell 0
                | succ j => simp at hu
              · intro u hu; simp at hu; subst hu; rfl
              intro v9 V9 o9 g9 _
              replace o9 : V9.ownsRow w2.heap.size 9 1 v9 (linesN b i ++ [wordsL (sumL m (b.sumAt m))] ++ (pre ++ [x]).map (bandLine b m)).length ((linesN b i ++ [wordsL (sumL m (b.sumAt m))] ++ (pre ++ [x]).map (bandLine b m)).map strV) := by
                have e1 : linesN b i ++ [wordsL (sumL m (b.sumAt m))] ++ (pre ++ [x]).map (bandLine b m) = (linesN b i ++ [wordsL (sumL m (b.sumAt m))] ++ pre.map (bandLine b m)) ++ [bandLine b m x] := by rw [List.map_append]; simp
                rw [e1, List.length_append, List.map_append]
                show World.ownsRow _ _ _ _ _ _ (_ ++ [Value.string (strB _)])
                rw [HCAT.out]; exact o9
              obtain ⟨N9, hN9⟩ : ∃ N, (linesN b i ++ [wordsL (sumL m (b.sumAt m))] ++ (pre ++ [x]).map (bandLine b m)).length = N := ⟨_, rfl⟩
              rw [hN9] at o9
              have HN9 := Lib.hid hN9
              clear hN9
              obtain ⟨A9, c9, rfl, _⟩ := StrsI.of_own o9
              simp only [Act.put]
              have L9 := Lx.own (g := w.heap.size) hr8 g9 (by omega) (by omega : w2.heap.size ≤ wb.heap.size)
              have v9b : Boxed V9 w.heap.size 56 v := hv8.kept g9 (hv8.not_row (by decide) hr8)
              have h9c := v9b.cell
              have h9f := v9b.frozen
              refine hK'.out _ _ (hS.kept g9 (hS.not_row (by decide) hr8)) (fun hS => ?_)
              clear hK' K'
              refine wpAnyH_ready (rs := [11]) (by kernel_rfl) (by simp) ?_
              refine AllReadyH.cons rfl (fun K' hK' => ?_) AllReadyH.nil
              go_simp
              refine hK'.out _ _ (hS.far (p := ⟨w.heap.size, 0, none⟩) (by show p ≠ w.heap.size; omega) _) (fun hS => ?_)
              clear hK' K'
              refine wpAnyH_done (by kernel_rfl) ?_ _
              exact ⟨((hk8.trans L9.2).trans (KeepsOthers.setCell _ _ _)).from _, trivial, _, v9b.set _, by rw [HN9.out]; exact lown_same o9 (fun k hk => Below.heap_setCell _ _ _ k (by have := (o9.lt k hk).1; show k ≠ w.heap.size; omega)), (hL8.trans L9).trans (Lx.set _ _ _), (hM8.keep L9.2).keep (KeepsOthers.setCell _ _ _)⟩
            · skip
              go_simp
              refine (HIT2.out _ hP2.out).mono ?_
              rintro e V7 ⟨rfl, b7⟩
              dsimp only
              rw [← b7.cell (p := ⟨w.heap.size, 0, none⟩) (by show w.heap.size < _; omega)] at hOC
              refine hK'.out _ _ (hS.below b7 hS.lt) (fun hS => ?_)
              clear hK' K'
              refine wpAnyH_take (i := 8) (v := ?v8_3010) rfl (by kernel_rfl) (by kernel_rfl) (by kernel_rfl) (fun _ _ _ h => h) (Or.inl ⟨by rfl, ?y8_3010⟩) hS ?r8_3010
              case y8_3010 =>
                rintro W hH
                go_simp
                with_reducible rfl
              simp only [Act.put]
              try simp only [List.getElem_toArray, List.getElem_cons_succ, List.getElem_cons_zero]
              try simp only [List.setIfInBounds_toArray, List.set_cons_succ, List.set_cons_zero]
              refine wpAnyH_ready (rs := [0, 9]) (by kernel_rfl) (by simp) ?_
              refine AllReadyH.cons rfl (fun K' hK' => ?_) (AllReadyH.cons rfl (fun K' hK' => ?_) AllReadyH.nil)
              · skip
                go_simp
                refine hK'.out _ _ hS (fun hS => ?_)
                clear hK' K'
                refine wpAnyH_ready (rs := [9]) (by kernel_rfl) (by simp) ?_
                refine AllReadyH.cons rfl (fun K' hK' => ?_) AllReadyH.nil
                go_simp
                have bb := b7.alloc b7.size (.cells #[.string (⟨#[98, 97, 110, 100]⟩ ++ TB ++ ⟨#[32, 109, 97, 110, 121, 32]⟩ ++ IB)] 9)
                have hn8 : Held (V7.alloc (.cells #[.string (⟨#[98, 97, 110, 100]⟩ ++ TB ++ ⟨#[32, 109, 97, 110, 121, 32]⟩ ++ IB)] 9)) V7.heap.size 9 #[.string (⟨#[98, 97, 110, 100]⟩ ++ TB ++ ⟨#[32, 109, 97, 110, 121, 32]⟩ ++ IB)] := Held.new _ _ _
                have hl8 : w.heap.size < V7.heap.size := by have := b7.size; omega
                rw [← Below.cell ((Below.refl V7.heap.size V7).alloc (Nat.le_refl _) (.cells #[.string (⟨#[98, 97, 110, 100]⟩ ++ TB ++ ⟨#[32, 109, 97, 110, 121, 32]⟩ ++ IB)] 9)) (p := ⟨w.heap.size, 0, none⟩) hl8] at hOC
                have hS8 := hS.alloc (.cells #[.string (⟨#[98, 97, 110, 100]⟩ ++ TB ++ ⟨#[32, 109, 97, 110, 121, 32]⟩ ++ IB)] 9)
                obtain ⟨wb, hwb⟩ : ∃ Z, V7.alloc (.cells #[.string (⟨#[98, 97, 110, 100]⟩ ++ TB ++ ⟨#[32, 109, 97, 110, 121, 32]⟩ ++ IB)] 9) = Z := ⟨_, rfl⟩
                rw [hwb] at hOC bb hn8 hS8 ⊢
                have hr8 := lown_up dr bb
                have hL8 := dL.trans (Lx.below bb (by omega) hdzL)
                have hM8 := dM.keep (keepsOthers_below bb)
                have hv8 : Boxed wb w.heap.size 56 v := (bb.block _ dv.lt).trans dv
                have hz8 : wd.heap.size ≤ wb.heap.size := bb.size
                have hk8 := dk.trans (keepsOthers_below bb)
                refine hK'.out _ _ hS8 (fun hS => ?_)
                clear hK' K'
                refine wpAnyH_ready (rs := [10]) (by kernel_rfl) (by simp) ?_
                refine AllReadyH.cons rfl (fun K' hK' => ?_) AllReadyH.nil
                refine wp_append_own _ (.tmp 55) (.tmp 64) 56 rfl w2.heap.size 9 i1 (.string ⟨#[]⟩) 1 16 Tryd.underlying56 hi1 hy0 hy1 hy2 rfl (by decide) v (linesN b i ++ [wordsL (sumL m (b.sumAt m))] ++ pre.map (bandLine b m)).length _ (by kernel_rfl) hr8 ⟨V7.heap.size, 0, none⟩ 1 1 [.string (⟨#[98, 97, 110, 100]⟩ ++ TB ++ ⟨#[32, 109, 97, 110, 121, 32]⟩ ++ IB)] (by kernel_rfl) rfl ?_ ?_ HBY.out.1 HBY.out.2 (by omega) ?_
                · intro j u hu
                  cases j with
                  | zero => simp at hu; subst hu; exact hn8.cell 0
                  | succ j => simp at hu
                · intro u hu; simp at hu; subst hu; rfl
                intro v9 V9 o9 g9 _
                replace o9 : V9.ownsRow w2.heap.size 9 1 v9 (linesN b i ++ [wordsL (sumL m (b.sumAt m))] ++ (pre ++ [x]).map (bandLine b m)).length ((linesN b i ++ [wordsL (sumL m (b.sumAt m))] ++ (pre ++ [x]).map (bandLine b m)).map strV) := by
                  have e1 : linesN b i ++ [wordsL (sumL m (b.sumAt m))] ++ (pre ++ [x]).map (bandLine b m) = (linesN b i ++ [wordsL (sumL m (b.sumAt m))] ++ pre.map (bandLine b m)) ++ [bandLine b m x] := by rw [List.map_append]; simp
                  rw [e1, List.length_append, List.map_append]
                  show World.ownsRow _ _ _ _ _ _ (_ ++ [Value.string (strB _)])
                  rw [HCAT.out]; exact o9
                obtain ⟨N9, hN9⟩ : ∃ N, (linesN b i ++ [wordsL (sumL m (b.sumAt m))] ++ (pre ++ [x]).map (bandLine b m)).length = N := ⟨_, rfl⟩
                rw [hN9] at o9
                have HN9 := Lib.hid hN9
                clear hN9
                obtain ⟨A9, c9, rfl, _⟩ := StrsI.of_own o9
                simp only [Act.put]
                have L9 := Lx.own (g := w.heap.size) hr8 g9 (by omega) (by omega : w2.heap.size ≤ wb.heap.size)
                have v9b : Boxed V9 w.heap.size 56 v := hv8.kept g9 (hv8.not_row (by decide) hr8)
                have h9c := v9b.cell
                have h9f := v9b.frozen
                refine hK'.out _ _ (hS.kept g9 (hS.not_row (by decide) hr8)) (fun hS => ?_)
                clear hK' K'
                refine wpAnyH_ready (rs := [11]) (by kernel_rfl) (by simp) ?_
                refine AllReadyH.cons rfl (fun K' hK' => ?_) AllReadyH.nil
                go_simp
                refine hK'.out _ _ (hS.far (p := ⟨w.heap.size, 0, none⟩) (by show p ≠ w.heap.size; omega) _) (fun hS => ?_)
                clear hK' K'
                refine wpAnyH_done (by kernel_rfl) ?_ _
                exact ⟨((hk8.trans L9.2).trans (KeepsOthers.setCell _ _ _)).from _, trivial, _, v9b.set _, by rw [HN9.out]; exact lown_same o9 (fun k hk => Below.heap_setCell _ _ _ k (by have := (o9.lt k hk).1; show k ≠ w.heap.size; omega)), (hL8.trans L9).trans (Lx.set _ _ _), (hM8.keep L9.2).keep (KeepsOthers.setCell _ _ _)⟩
              · skip
                go_simp
                have bb := b7.alloc b7.size (.cells #[.string (⟨#[98, 97, 110, 100]⟩ ++ TB ++ ⟨#[32, 109, 97, 110, 121, 32]⟩ ++ IB)] 9)
                have hn8 : Held (V7.alloc (.cells #[.string (⟨#[98, 97, 110, 100]⟩ ++ TB ++ ⟨#[32, 109, 97, 110, 121, 32]⟩ ++ IB)] 9)) V7.heap.size 9 #[.string (⟨#[98, 97, 110, 100]⟩ ++ TB ++ ⟨#[32, 109, 97, 110, 121, 32]⟩ ++ IB)] := Held.new _ _ _
                have hl8 : w.heap.size < V7.heap.size := by have := b7.size; omega
                rw [← Below.cell ((Below.refl V7.heap.size V7).alloc (Nat.le_refl _) (.cells #[.string (⟨#[98, 97, 110, 100]⟩ ++ TB ++ ⟨#[32, 109, 97, 110, 121, 32]⟩ ++ IB)] 9)) (p := ⟨w.heap.size, 0, none⟩) hl8] at hOC
                have hS8 := hS.alloc (.cells #[.string (⟨#[98, 97, 110, 100]⟩ ++ TB ++ ⟨#[32, 109, 97, 110, 121, 32]⟩ ++ IB)] 9)
                obtain ⟨wb, hwb⟩ : ∃ Z, V7.alloc (.cells #[.string (⟨#[98, 97, 110, 100]⟩ ++ TB ++ ⟨#[32, 109, 97, 110, 121, 32]⟩ ++ IB)] 9) = Z := ⟨_, rfl⟩
                rw [hwb] at hOC bb hn8 hS8 ⊢
                have hr8 := lown_up dr bb
                have hL8 := dL.trans (Lx.below bb (by omega) hdzL)
                have hM8 := dM.keep (keepsOthers_below bb)
                have hv8 : Boxed wb w.heap.size 56 v := (bb.block _ dv.lt).trans dv
                have hz8 : wd.heap.size ≤ wb.heap.size := bb.size
                have hk8 := dk.trans (keepsOthers_below bb)
                refine hK'.out _ _ hS8 (fun hS => ?_)
                clear hK' K'
                refine wpAnyH_ready (rs := [0]) (by kernel_rfl) (by simp) ?_
                refine AllReadyH.cons rfl (fun K' hK' => ?_) AllReadyH.nil
                go_simp
                refine hK'.out _ _ hS (fun hS => ?_)
                clear hK' K'
                refine wpAnyH_ready (rs := [10]) (by kernel_rfl) (by simp) ?_
                refine AllReadyH.cons rfl (fun K' hK' => ?_) AllReadyH.nil
                refine wp_append_own _ (.tmp 55) (.tmp 64) 56 rfl w2.heap.size 9 i1 (.string ⟨#[]⟩) 1 16 Tryd.underlying56 hi1 hy0 hy1 hy2 rfl (by decide) v (linesN b i ++ [wordsL (sumL m (b.sumAt m))] ++ pre.map (bandLine b m)).length _ (by kernel_rfl) hr8 ⟨V7.heap.size, 0, none⟩ 1 1 [.string (⟨#[98, 97, 110, 100]⟩ ++ TB ++ ⟨#[32, 109, 97, 110, 121, 32]⟩ ++ IB)] (by kernel_rfl) rfl ?_ ?_ HBY.out.1 HBY.out.2 (by omega) ?_
                · intro j u hu
                  cases j with
                  | zero => simp at hu; subst hu; exact hn8.cell 0
                  | succ j => simp at hu
                · intro u hu; simp at hu; subst hu; rfl
                intro v9 V9 o9 g9 _
                replace o9 : V9.ownsRow w2.heap.size 9 1 v9 (linesN b i ++ [wordsL (sumL m (b.sumAt m))] ++ (pre ++ [x]).map (bandLine b m)).length ((linesN b i ++ [wordsL (sumL m (b.sumAt m))] ++ (pre ++ [x]).map (bandLine b m)).map strV) := by
                  have e1 : linesN b i ++ [wordsL (sumL m (b.sumAt m))] ++ (pre ++ [x]).map (bandLine b m) = (linesN b i ++ [wordsL (sumL m (b.sumAt m))] ++ pre.map (bandLine b m)) ++ [bandLine b m x] := by rw [List.map_append]; simp
                  rw [e1, List.length_append, List.map_append]
                  show World.ownsRow _ _ _ _ _ _ (_ ++ [Value.string (strB _)])
                  rw [HCAT.out]; exact o9
                obtain ⟨N9, hN9⟩ : ∃ N, (linesN b i ++ [wordsL (sumL m (b.sumAt m))] ++ (pre ++ [x]).map (bandLine b m)).length = N := ⟨_, rfl⟩
                rw [hN9] at o9
                have HN9 := Lib.hid hN9
                clear hN9
                obtain ⟨A9, c9, rfl, _⟩ := StrsI.of_own o9
                simp only [Act.put]
                have L9 := Lx.own (g := w.heap.size) hr8 g9 (by omega) (by omega : w2.heap.size ≤ wb.heap.size)
                have v9b : Boxed V9 w.heap.size 56 v := hv8.kept g9 (hv8.not_row (by decide) hr8)
                have h9c := v9b.cell
                have h9f := v9b.frozen
                refine hK'.out _ _ (hS.kept g9 (hS.not_row (by decide) hr8)) (fun hS => ?_)
                clear hK' K'
                refine wpAnyH_ready (rs := [11]) (by kernel_rfl) (by simp) ?_
                refine AllReadyH.cons rfl (fun K' hK' => ?_) AllReadyH.nil
                go_simp
                refine hK'.out _ _ (hS.far (p := ⟨w.heap.size, 0, none⟩) (by show p ≠ w.heap.size; omega) _) (fun hS => ?_)
                clear hK' K'
                refine wpAnyH_done (by kernel_rfl) ?_ _
                exact ⟨((hk8.trans L9.2).trans (KeepsOthers.setCell _ _ _)).from _, trivial, _, v9b.set _, by rw [HN9.out]; exact lown_same o9 (fun k hk => Below.heap_setCell _ _ _ k (by have := (o9.lt k hk).1; show k ≠ w.heap.size; omega)), (hL8.trans L9).trans (Lx.set _ _ _), (hM8.keep L9.2).keep (KeepsOthers.setCell _ _ _)⟩
        case done =>
          rintro D ys Z hD rfl ⟨v8, h1, h2, h3, h4⟩ hk
          dsimp only
          have hsuc : linesN b (i + 1) = linesN b i ++ [wordsL (sumL m (b.sumAt m))] ++ (bandN b m 8).map (bandLine b m) := by
            rw [linesN_succ b i m HHM.out, List.append_assoc]; rfl
          have HSUC := Lib.hid hsuc
          have hDn : D ∉ Ds := fun hm => by have := HDS.out D hm; omega
          have HMK2 : Hid (Mk w2.heap.size (D :: Ds) Z) := Lib.hid (h4.cons (by omega) hDn hk)
          have H1 := Lib.hid h1
          have H2 := Lib.hid h2
          have H3 := Lib.hid h3
          clear h1 h2 h3 h4 hk hsuc hDn
          have hi64 : (i : Int) < 64 := by have := HML.out; omega
          go_wp2_with fail
          refine ⟨⟨i + 1, _, _, _, _, _, _, _, _, _, _, _, _, _, _, _, _, _, _, _, _, _, _, _, _, _, _, _, _, _, _, _, _, _, _, _, D :: Ds, v8, rfl, by omega, H1.out, by rw [HSUC.out]; exact H2.out, H3.out, HMK2.out⟩, ?_⟩
          simp [intOf]; omega
        case stop => exact fun D c pre Y _ _ h => h.elim
    · obtain rfl : i = (metI b 64).length := by omega
      have hcv := hv.cell
      have hll : linesN b (metI b 64).length = linesL b := by unfold linesN linesL; rw [List.take_of_length_le (by simp [metI])]
      rw [hll] at hrow
      obtain ⟨A9, c9, rfl, hs9⟩ := StrsI.of_own hrow
      have HROW := Lib.hid hrow
      have HMK := Lib.hid hMk
      have HBL := Lib.hid (hbw2.trans (hLx.1.1))
      have hfin : decide (((metI b 64).length : Int) < ((metI b 64).length : Int)) = false := by simp
      clear hrow hMk hLx hs9 hll
      go_wp2_with fail
      gi_wp2
      refine leaves_marks (B := w2.heap.size) (fun V => V.ownsRow w2.heap.size 9 1 (.slice A9 (linesL b).length c9) (linesL b).length ((linesL b).map strV) ∧ Below w.heap.size w V) (fun V D hD hk hV => ⟨own_put hV.1 hk rfl, below_put _ hV.2 (by omega)⟩) (fun V hV => ?_) Ds W HMK.out ⟨HROW.out, HBL.out⟩
      obtain ⟨A8, c8, e8, hs8⟩ := StrsI.of_own hV.1
      injection e8 with e1 e2 e3
      subst e1 e3
      exact ⟨_, results_tmp rfl _ _ _, ⟨_, _, rfl, hs8⟩, hV.2⟩
end Go.Proofs.YtjcpgnachkhjaaaDoor
