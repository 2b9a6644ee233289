/- kilowattref25.Total. -/
import Derived.Test.YtnnknnaimabehaaDoorLedAdd
namespace Go.Proofs.YtnnknnaimabehaaDoor
open Go.RowKit
attribute [local go_sem] Oper.semAt_some
set_option linter.unusedVariables false
set_option linter.unusedSimpArgs false
set_option maxRecDepth 100000
theorem zero_totI (m k : Int) : (runB []).totI m k = Tot.zero := by
  unfold Bk.totI
  split
  · exact zero_tot _ _
  · rfl
theorem zero_sumI (m : Int) : (runB []).sumI m = SumS.zero := by
  unfold Bk.sumI
  split
  · exact zero_sum _
  · rfl
theorem amt_wrap {a : Int} (h : amt a) : IntKind.i64.wrap a = a := by
  unfold amt at h
  simp only [IntKind.wrap_i64]; omega
/-- What stands at the loop's head. -/
def TotR (es : List Ent) (m k : Int) (w : World) (g6 g7 : Nat) (v : Value) (wr : World) : Prop := ∃ i : Nat, i ≤ es.length ∧ v = .int .i64 i ∧ Held wr g6 56 Tot.zero.arr ∧ Held wr g7 56 ((runB (es.take i)).totI m k).arr ∧ Below w.heap.size w wr
theorem AddedE.totOk {es : List Ent} (hA : AddedE es) (i : Nat) (hi : i ≤ es.length) (m k : Int) : ((runB (es.take i)).totI m k).ok i := totI_ok (hA.book i hi) (by omega) m k
theorem AddedE.sumOk {es : List Ent} (hA : AddedE es) (i : Nat) (hi : i ≤ es.length) (m : Int) : ((runB (es.take i)).sumI m).ok i := sumI_ok (hA.book i hi) (by omega) m
set_option maxHeartbeats 4000000 in
theorem rtotal_any (es : List Ent) (hA : AddedE es) (A : Option Addr) (n c : Nat) (m k : Int) (w : World) (hl : EnI w A n es) (hn : es.length ≤ 100000) :
    Calls Tryd.prog 19 #[.slice A n c, .int .i64 m, .int .i64 k] w fun e w' => e = .returned (.agg ((runB es).totI m k).arr) ∧ Below w.heap.size w w' := by
  obtain ⟨hnl, hok, hat⟩ := hl
  subst hnl
  have HAT := Lib.hid hat
  have HOK := Lib.hid hok
  have HAD := Lib.hid hA
  clear hat hok hA
  go_in
  go_upto_region 2 with (first
    | ((with_reducible refine wpList_alloc_held (dst := some 6) 56 Tot.zero.arr (by kernel_rfl) alloc_tot ?_); intro V1 h6 b6 z6; (have l6 : w.heap.size < V1.heap.size := (by omega)); clear z6; simp only [Act.put, List.setIfInBounds_toArray, List.set_cons_succ, List.set_cons_zero])
    | ((with_reducible refine wpList_alloc_held (dst := some 7) 56 Tot.zero.arr (by kernel_rfl) alloc_tot ?_); intro V2 h7 b7 z7; (have l7 : V1.heap.size < V2.heap.size := (by omega)); clear z7; simp only [Act.put, List.setIfInBounds_toArray, List.set_cons_succ, List.set_cons_zero]))
  have h0 : Hid (Held V2 w.heap.size 56 Tot.zero.arr ∧ Held V2 V1.heap.size 56 Tot.zero.arr ∧ Below w.heap.size w V2) := Lib.hid ⟨h6.below b7 h6.lt, h7, b6.trans (b7.mono (by omega))⟩
  clear h6 b6 h7 b7
  generalize V1.heap.size = g7 at h0 l6 l7 ⊢
  go_wp2_with fail
  go_loopw [8] (TotR es m k w w.heap.size g7) (fun v _ => es.length - (intOf v).toNat)
  case atStart => exact ⟨0, Nat.zero_le _, rfl, h0.out.1, by rw [List.take_zero, zero_totI]; exact h0.out.2.1, h0.out.2.2⟩
  case round =>
    obtain ⟨i, hi, rfl, h6r, h7r, hbl⟩ := hrel
    by_cases hlt : i < es.length
    · obtain ⟨e, he⟩ : ∃ e, es[i]? = some e := ⟨_, List.getElem?_eq_getElem hlt⟩
      obtain ⟨g, o, rfl, hrg⟩ := HAT.out i e he
      have hre := rangeAt_up hrg hbl
      have heo := HOK.out e (List.mem_of_getElem? he)
      have hel := heo.2.2.2.2.2.2.2.2.2.2.1
      have IE : Hid ((Tryd.prog.info? 63).map (·.size) = some e.cells.length) := Lib.hid (by rw [ent_size e hel]; simp [Ent.arr])
      have HST := Lib.hid (HAD.out.tot i e he m k)
      have HTO := HAD.out.totOk i hi m k
      have HTN := HAD.out.totOk (i + 1) (by omega) m k
      rw [HST.out] at HTN
      obtain ⟨T, hT⟩ : ∃ T, (runB (es.take i)).totI m k = T := ⟨_, rfl⟩
      rw [hT] at h7r HST HTO HTN
      obtain ⟨te, tc, tn⟩ := T
      have HADDS : Hid (Calls Tryd.prog 33 #[.agg e.cells.toArray] wr fun e' w' => e' = .returned (.bool (addsB e)) ∧ Below wr.heap.size wr w') := Lib.hid (adds_any e wr)
      obtain ⟨bA, hbA⟩ : ∃ b, addsB e = b := ⟨_, rfl⟩
      rw [hbA] at HADDS
      replace hbA := Lib.hid hbA
      have hltI : (i : Int) < (es.length : Int) := by omega
      have hbz := hbl.size
      have hlz := h7r.lt
      have hl6 := h6r.lt
      have hgw : g < w.heap.size := World.block_lt_of_cell? w _ (hrg 0 _ rfl)
      clear heo hel he hT
      cases bA with
      | false =>
        have HJ : Hid (totJ ⟨te, tc, tn⟩ e m k = ⟨te, tc, tn⟩) := Lib.hid (by unfold totJ; rw [if_neg (by simp [hbA.out])])
        go_wp2_with (first
          | ((with_reducible refine wpList_load_at (dst := some 18) 63 (.tmp 17) g (o + i * 42) e.cells _ (by kernel_rfl) (by kernel_rfl) hre Tryd.underlying63 (by kernel_rfl) IE.out ?_); simp only [Act.put, List.setIfInBounds_toArray, List.set_cons_succ, List.set_cons_zero])
          | (go_at_call 33; (with_reducible refine HADDS.out.mono ?_); rintro e' V3 ⟨rfl, hb3⟩))
        go_roundw
        case rel => exact ⟨i + 1, by omega, by go_num, h6r.below hb3 hl6, by rw [HST.out, HJ.out]; exact h7r.below hb3 hlz, hbl.trans (hb3.mono hbz)⟩
        case measure => simp [intOf]; omega
      | true =>
        by_cases hm : e.meter = m
        case neg =>
          have hmb : (e.meter == m) = false := by simp [hm]
          have HJ : Hid (totJ ⟨te, tc, tn⟩ e m k = ⟨te, tc, tn⟩) := Lib.hid (by unfold totJ; rw [if_neg (fun q => hm q.2.1)])
          go_wp2_with (first
            | ((with_reducible refine wpList_load_at (dst := some 18) 63 (.tmp 17) g (o + i * 42) e.cells _ (by kernel_rfl) (by kernel_rfl) hre Tryd.underlying63 (by kernel_rfl) IE.out ?_); simp only [Act.put, List.setIfInBounds_toArray, List.set_cons_succ, List.set_cons_zero])
            | (go_at_call 33; (with_reducible refine HADDS.out.mono ?_); rintro e' V3 ⟨rfl, hb3⟩; (have hre3 := rangeAt_up hre hb3); (have cm : V3.cell? ⟨g, o + i * 42 + 1, none⟩ = some (.int .i64 e.meter) := hre3 1 _ rfl)))
          go_roundw
          case rel => exact ⟨i + 1, by omega, by go_num, h6r.below hb3 hl6, by rw [HST.out, HJ.out]; exact h7r.below hb3 hlz, hbl.trans (hb3.mono hbz)⟩
          case measure => simp [intOf]; omega
        by_cases hk : e.band = k
        case neg =>
          have hkb : (e.band == k) = false := by simp [hk]
          have HJ : Hid (totJ ⟨te, tc, tn⟩ e m k = ⟨te, tc, tn⟩) := Lib.hid (by unfold totJ; rw [if_neg (fun q => hk q.2.2)])
          go_wp2_with (first
            | ((with_reducible refine wpList_load_at (dst := some 18) 63 (.tmp 17) g (o + i * 42) e.cells _ (by kernel_rfl) (by kernel_rfl) hre Tryd.underlying63 (by kernel_rfl) IE.out ?_); simp only [Act.put, List.setIfInBounds_toArray, List.set_cons_succ, List.set_cons_zero])
            | (go_at_call 33; (with_reducible refine HADDS.out.mono ?_); rintro e' V3 ⟨rfl, hb3⟩; (have hre3 := rangeAt_up hre hb3); (have cm : V3.cell? ⟨g, o + i * 42 + 1, none⟩ = some (.int .i64 m) := (hre3 1 _ rfl).trans (by rw [hm])); (have cb : V3.cell? ⟨g, o + i * 42 + 4, none⟩ = some (.int .i64 e.band) := hre3 4 _ rfl)))
          go_roundw
          case rel => exact ⟨i + 1, by omega, by go_num, h6r.below hb3 hl6, by rw [HST.out, HJ.out]; exact h7r.below hb3 hlz, hbl.trans (hb3.mono hbz)⟩
          case measure => simp [intOf]; omega
        have HJ : Hid (totJ ⟨te, tc, tn⟩ e m k = ⟨te + e.energy, tc + e.cost, tn + 1⟩) := Lib.hid (by unfold totJ; rw [if_pos ⟨hbA.out, hm, hk⟩])
        rw [HJ.out] at HTN
        obtain ⟨n1, n2, n3, n4⟩ := HTN
        dsimp only at n1 n2 n3 n4
        have w1 := amt_wrap n1
        have w2 := amt_wrap n2
        have w3 : IntKind.i64.wrap (tn + 1) = tn + 1 := by simp only [IntKind.wrap_i64]; omega
        clear n1 n2 n3 n4 HTO
        go_upto_region 6 with (first
          | ((with_reducible refine wpList_load_at (dst := some 18) 63 (.tmp 17) g (o + i * 42) e.cells _ (by kernel_rfl) (by kernel_rfl) hre Tryd.underlying63 (by kernel_rfl) IE.out ?_); simp only [Act.put, List.setIfInBounds_toArray, List.set_cons_succ, List.set_cons_zero])
          | (go_at_call 33; (with_reducible refine HADDS.out.mono ?_); rintro e' V3 ⟨rfl, hb3⟩; (have hre3 := rangeAt_up hre hb3); (have cm : V3.cell? ⟨g, o + i * 42 + 1, none⟩ = some (.int .i64 m) := (hre3 1 _ rfl).trans (by rw [hm])); (have cb : V3.cell? ⟨g, o + i * 42 + 4, none⟩ = some (.int .i64 k) := (hre3 4 _ rfl).trans (by rw [hk]))))
        have h73 := h7r.below hb3 hlz
        have h63 := h6r.below hb3 hl6
        have hb3w := hbl.trans (hb3.mono hbz)
        clear cm cb hb3 h7r h6r hre HADDS
        obtain ⟨c0, c1, c2⟩ := tot_cells h73
        dsimp only at c0 c1 c2
        have f0 := h73.frozen 0
        have ce : V3.cell? ⟨g, o + i * 42 + 3, none⟩ = some (.int .i64 e.energy) := hre3 3 _ rfl
        go_region
        obtain ⟨V4, hV4⟩ : ∃ W : World, (V3.setCell ⟨g7, 0, none⟩ (.int .i64 (te + e.energy))).drew = W := ⟨_, rfl⟩
        have h74 : Held V4 g7 56 #[.int .i64 (te + e.energy), .int .i64 tc, .int .i64 tn] := by rw [← hV4]; exact (h73.set 0 (.int .i64 (te + e.energy))).drew
        have h64 : Held V4 w.heap.size 56 Tot.zero.arr := by rw [← hV4]; exact (h63.far (p := ⟨g7, 0, none⟩) (by show w.heap.size ≠ g7; omega) _).drew
        have hb4w : Below w.heap.size w V4 := by rw [← hV4]; exact (hb3w.setCell (p := ⟨g7, 0, none⟩) (by show w.heap.size ≤ g7; omega) _).drew
        rw [hV4]
        clear hV4 c0 c1 c2 f0 ce h73 h63 hb3w hre3
        have c1 : V4.cell? ⟨g7, 1, none⟩ = some (.int .i64 tc) := h74.cell 1
        have f1 := h74.frozen 1
        have hre4 := rangeAt_up hrg hb4w
        have cc : V4.cell? ⟨g, o + i * 42 + 6, none⟩ = some (.int .i64 e.cost) := hre4 6 _ rfl
        go_wp2_with fail
        go_region
        obtain ⟨V5, hV5⟩ : ∃ W : World, (V4.setCell ⟨g7, 1, none⟩ (.int .i64 (tc + e.cost))).drew = W := ⟨_, rfl⟩
        have h75 : Held V5 g7 56 #[.int .i64 (te + e.energy), .int .i64 (tc + e.cost), .int .i64 tn] := by rw [← hV5]; exact (h74.set 1 (.int .i64 (tc + e.cost))).drew
        have h65 : Held V5 w.heap.size 56 Tot.zero.arr := by rw [← hV5]; exact (h64.far (p := ⟨g7, 1, none⟩) (by show w.heap.size ≠ g7; omega) _).drew
        have hb5w : Below w.heap.size w V5 := by rw [← hV5]; exact (hb4w.setCell (p := ⟨g7, 1, none⟩) (by show w.heap.size ≤ g7; omega) _).drew
        rw [hV5]
        clear hV5 c1 f1 cc h74 h64 hb4w hre4
        have c2 : V5.cell? ⟨g7, 2, none⟩ = some (.int .i64 tn) := h75.cell 2
        have f2 := h75.frozen 2
        go_wp2_with fail
        go_roundw
        case rel =>
          refine ⟨i + 1, by omega, by go_num, h65.far (p := ⟨g7, 2, none⟩) (by show w.heap.size ≠ g7; omega) _, ?_, hb5w.setCell (p := ⟨g7, 2, none⟩) (by show w.heap.size ≤ g7; omega) _⟩
          rw [HST.out, HJ.out]
          exact h75.set 2 (.int .i64 (tn + 1))
        case measure => simp [intOf]; omega
    · obtain rfl : i = es.length := by omega
      have hltI : decide ((es.length : Int) < (es.length : Int)) = false := by simp
      rw [List.take_length] at h7r
      obtain ⟨T, hT⟩ : ∃ T, (runB es).totI m k = T := ⟨_, rfl⟩
      rw [hT] at h7r
      replace hT := Lib.hid hT
      have ITs : Hid ((Tryd.prog.info? 56).map (·.size) = some T.arr.size) := Lib.hid tot_size
      have hbz := hbl.size
      have hl6 := h6r.lt
      go_wp2_with (first
        | ((with_reducible refine wpList_load_held (dst := some 60) 56 (.tmp 7) g7 56 T.arr _ (by kernel_rfl) (by kernel_rfl) h7r Tryd.underlying56 (by kernel_rfl) ITs.out ?_); simp only [Act.put, List.setIfInBounds_toArray, List.set_cons_succ, List.set_cons_zero])
        | ((with_reducible refine wpList_store_held 56 (.tmp 6) (.tmp 60) w.heap.size 56 _ T.arr (by kernel_rfl) (by kernel_rfl) (by kernel_rfl) h6r (by kernel_rfl) ITs.out (tot_one _) ?_); intro V2 g6 b2 z2; clear z2; simp only [Act.put, List.setIfInBounds_toArray, List.set_cons_succ, List.set_cons_zero]))
      refine bodyPost_ret (results_cell_held rfl _ _ _ _ _ _ (by kernel_rfl) g6 Tryd.underlying56 (by kernel_rfl) ITs.out) rfl ?_
      exact ⟨by rw [hT.out], hbl.trans (b2.below (Nat.le_refl _) hbz)⟩
end Go.Proofs.YtnnknnaimabehaaDoor
namespace Go.Proofs.YtnnknnaimabehaaDoor
open Go.RowKit
attribute [local go_sem] Oper.semAt_some
set_option linter.unusedVariables false
set_option linter.unusedSimpArgs false
set_option maxRecDepth 100000
theorem SumS.last_set (a : SumS) (x : Ent) {W : World} {g : Nat} {t : TypeId} (hl : a.last.hash.length = 32) (hx : x.hash.length = 32) (h : Held W g t a.arr) : Held (W.setCells g 7 x.cells) g t ({ a with last := x } : SumS).arr := by
  have := held_splice (W := W) (B := g) (t := t) x.cells a.last.cells [.int .i64 a.energy, .int .i64 a.cost, .int .i64 a.intervals, .int .i64 a.flagged, .int .i64 a.suspects, .int .i64 a.replaced, .int .i64 a.corrected] [] (by rw [Ent.cells_len _ hx, Ent.cells_len _ hl]) (by simpa [SumS.arr, SumS.cells] using h)
  simpa [SumS.arr, SumS.cells] using this
/-- What stands at the loop's head. -/
def SumR (es : List Ent) (m : Int) (w : World) (g4 g5 : Nat) (v : Value) (wr : World) : Prop := ∃ i : Nat, i ≤ es.length ∧ v = .int .i64 i ∧ Held wr g4 65 SumS.zero.arr ∧ Held wr g5 65 ((runB (es.take i)).sumI m).arr ∧ Below w.heap.size w wr
set_option maxHeartbeats 4000000 in
theorem rsum_any (es : List Ent) (hA : AddedE es) (A : Option Addr) (n c : Nat) (m : Int) (w : World) (hl : EnI w A n es) (hn : es.length ≤ 100000) :
    Calls Tryd.prog 18 #[.slice A n c, .int .i64 m] w fun e w' => e = .returned (.agg ((runB es).sumI m).arr) ∧ Below w.heap.size w w' := by
  obtain ⟨hnl, hok, hat⟩ := hl
  subst hnl
  have HAT := Lib.hid hat
  have HOK := Lib.hid hok
  have HAD := Lib.hid hA
  have AE := Lib.hid alloc_new
  have OE := Lib.hid (show (Ent.none 0).arr.size = 42 from by rw [Ent.arr_size _ (by simp [Ent.none])])
  clear hat hok hA
  generalize (Ent.none 0).arr = ZE at AE OE
  go_in
  go_upto_region 2 with (first
    | ((with_reducible refine wpList_alloc_held (dst := some 4) 65 SumS.zero.arr (by kernel_rfl) alloc_sum ?_); intro V1 h4 b4 z4; (have l4 : w.heap.size < V1.heap.size := (by omega)); clear z4; simp only [Act.put, List.setIfInBounds_toArray, List.set_cons_succ, List.set_cons_zero])
    | ((with_reducible refine wpList_alloc_held (dst := some 5) 65 SumS.zero.arr (by kernel_rfl) alloc_sum ?_); intro V2 h5 b5 z5; (have l5 : V1.heap.size < V2.heap.size := (by omega)); clear z5; simp only [Act.put, List.setIfInBounds_toArray, List.set_cons_succ, List.set_cons_zero]))
  have h0 : Hid (Held V2 w.heap.size 65 SumS.zero.arr ∧ Held V2 V1.heap.size 65 SumS.zero.arr ∧ Below w.heap.size w V2) := Lib.hid ⟨h4.below b5 h4.lt, h5, b4.trans (b5.mono (by omega))⟩
  clear h4 b4 h5 b5
  generalize V1.heap.size = g5 at h0 l4 l5 ⊢
  go_wp2_with fail
  go_loopw [6] (SumR es m w w.heap.size g5) (fun v _ => es.length - (intOf v).toNat)
  case atStart => exact ⟨0, Nat.zero_le _, rfl, h0.out.1, by rw [List.take_zero, zero_sumI]; exact h0.out.2.1, h0.out.2.2⟩
  case round =>
    obtain ⟨i, hi, rfl, h4r, h5r, hbl⟩ := hrel
    by_cases hlt : i < es.length
    · obtain ⟨e, he⟩ : ∃ e, es[i]? = some e := ⟨_, List.getElem?_eq_getElem hlt⟩
      obtain ⟨g, o, rfl, hrg⟩ := HAT.out i e he
      have hre := rangeAt_up hrg hbl
      have heo := HOK.out e (List.mem_of_getElem? he)
      have hel := heo.2.2.2.2.2.2.2.2.2.2.1
      have HEL := Lib.hid hel
      have IE : Hid ((Tryd.prog.info? 63).map (·.size) = some e.cells.length) := Lib.hid (by rw [ent_size e hel]; simp [Ent.arr])
      have IA : Hid ((Tryd.prog.info? 63).map (·.size) = some e.arr.size) := Lib.hid (ent_size e hel)
      have ZS : Hid (e.arr.size = ZE.size) := Lib.hid (by rw [OE.out, Ent.arr_size _ hel])
      have HST := Lib.hid (HAD.out.sum i e he m)
      have HSO := HAD.out.sumOk i hi m
      have HSN := HAD.out.sumOk (i + 1) (by omega) m
      have hacc := HAD.out.2 i e he
      rw [addP_two] at hacc
      obtain ⟨⟨hk1, hk5⟩, _⟩ := okE_in e heo (nextP_e _ e hacc)
      rw [HST.out] at HSN
      obtain ⟨S, hS⟩ : ∃ S, (runB (es.take i)).sumI m = S := ⟨_, rfl⟩
      rw [hS] at h5r HST HSO HSN
      have hltI : (i : Int) < (es.length : Int) := by omega
      have hbz := hbl.size
      have hl5 := h5r.lt
      have hl4 := h4r.lt
      clear heo hel he hS hacc hrg
      go_upto_region 6 with (first
        | ((with_reducible refine wpList_load_at (dst := some 17) 63 (.tmp 16) g (o + i * 42) e.cells _ (by kernel_rfl) (by kernel_rfl) hre Tryd.underlying63 (by kernel_rfl) IE.out ?_); simp only [Act.put, List.setIfInBounds_toArray, List.set_cons_succ, List.set_cons_zero])
        | ((with_reducible refine wpList_alloc_held (dst := some 7) 63 ZE (by kernel_rfl) AE.out ?_); intro V3 h7 b7 z7; (have l7 : wr.heap.size < V3.heap.size := (by omega)); clear z7; simp only [Act.put, List.setIfInBounds_toArray, List.set_cons_succ, List.set_cons_zero])
        | ((with_reducible refine wpList_store_held 63 (.tmp 7) (.tmp 17) wr.heap.size 63 ZE e.arr (by kernel_rfl) (by kernel_rfl) (by kernel_rfl) h7 ZS.out IA.out (ent_one e) ?_); intro V4 g7 c7 z8; clear z8; simp only [Act.put, List.setIfInBounds_toArray, List.set_cons_succ, List.set_cons_zero]))
      have b74 : Below wr.heap.size wr V4 := b7.trans (c7.below (Nat.le_refl _) (by omega))
      have h44 := h4r.below b74 hl4
      have h54 := h5r.below b74 hl5
      have hb4 := hbl.trans (b74.mono hbz)
      have hz4 := b74.size
      have hg7 := g7.lt
      have hn5 : g5 ≠ wr.heap.size := by omega
      clear h7 b7 c7 b74 h4r h5r hbl hre IE ZS
      generalize wr.heap.size = gx at g7 hg7 hn5 hbz hz4 hl4 hl5 l7 ⊢
      obtain ⟨xk, xm, _, xe, _, _, xc, xf, _⟩ := ent_cells g7
      obtain ⟨se, sc, si, sf, ss, sr, so, sl⟩ := S
      obtain ⟨⟨_, _⟩, ⟨_, _⟩, ⟨si0, si1⟩, ⟨sf0, sf1⟩, ⟨ss0, ss1⟩, ⟨sr0, sr1⟩, ⟨so0, so1⟩, slo⟩ := HSO
      dsimp only at si0 si1 sf0 sf1 ss0 ss1 sr0 sr1 so0 so1 slo
      have hsl := slo.2.2.2.2.2.2.2.2.2.2.1
      by_cases h5 : e.kind = 5
      · have HJ : Hid (sumJ ⟨se, sc, si, sf, ss, sr, so, sl⟩ e m = ⟨se, sc, si, sf, ss, sr, so, sl⟩) := Lib.hid (by unfold sumJ; rw [if_pos (.inl h5)])
        rw [h5] at xk
        clear HSN
        go_wp2_with fail
        go_roundw
        case rel => exact ⟨i + 1, by omega, by go_num, h44, by rw [HST.out, HJ.out]; exact h54, hb4⟩
        case measure => simp [intOf]; omega
      by_cases hm : e.meter = m
      case neg =>
        have HJ : Hid (sumJ ⟨se, sc, si, sf, ss, sr, so, sl⟩ e m = ⟨se, sc, si, sf, ss, sr, so, sl⟩) := Lib.hid (by unfold sumJ; rw [if_pos (.inr hm)])
        have hkb : (e.kind == 5) = false := by simp [h5]
        have hmb : (e.meter != m) = true := by simp [hm]
        clear HSN
        go_wp2_with fail
        go_roundw
        case rel => exact ⟨i + 1, by omega, by go_num, h44, by rw [HST.out, HJ.out]; exact h54, hb4⟩
        case measure => simp [intOf]; omega
      rw [hm] at xm
      have hkb : (e.kind == 5) = false := by simp [h5]
      have HJ0 : sumJ ⟨se, sc, si, sf, ss, sr, so, sl⟩ e m = kindJ ⟨se + e.energy, sc + e.cost, si, sf, ss, sr, so, sl⟩ e := by unfold sumJ; rw [if_neg (by simp [h5, hm])]
      rw [HJ0] at HSN HST
      clear HJ0
      have hen : amt (se + e.energy) ∧ amt (sc + e.cost) := by
        have h1 := HSN.1
        have h2 := HSN.2.1
        unfold kindJ at h1 h2
        by_cases k1 : e.kind = 1
        · rw [if_pos k1] at h1 h2; exact ⟨h1, h2⟩
        rw [if_neg k1] at h1 h2
        by_cases k2 : e.kind = 2
        · rw [if_pos k2] at h1 h2; exact ⟨h1, h2⟩
        rw [if_neg k2] at h1 h2
        by_cases k3 : e.kind = 3
        · rw [if_pos k3] at h1 h2; exact ⟨h1, h2⟩
        rw [if_neg k3] at h1 h2
        by_cases k4 : e.kind = 4
        · rw [if_pos k4] at h1 h2; exact ⟨h1, h2⟩
        rw [if_neg k4] at h1 h2; exact ⟨h1, h2⟩
      have w1 := amt_wrap hen.1
      have w2 := amt_wrap hen.2
      clear HSN hen
      obtain ⟨s0, s1, _, _, _, _, _⟩ := sum_cells h54
      dsimp only at s0 s1
      have f0 := h54.frozen 0
      have f1 := h54.frozen 1
      go_upto_region 9 with fail
      obtain ⟨V5, hV5⟩ : ∃ W : World, (V4.setCell ⟨g5, 0, none⟩ (.int .i64 (se + e.energy))).setCell ⟨g5, 1, none⟩ (.int .i64 (sc + e.cost)) = W := ⟨_, rfl⟩
      have h55 : Held V5 g5 65 (⟨se + e.energy, sc + e.cost, si, sf, ss, sr, so, sl⟩ : SumS).arr := by rw [← hV5]; have := (h54.set 0 (.int .i64 (se + e.energy))).set 1 (.int .i64 (sc + e.cost)); simpa [SumS.arr, SumS.cells] using this
      have h45 : Held V5 w.heap.size 65 SumS.zero.arr := by rw [← hV5]; exact (h44.far (p := ⟨g5, 0, none⟩) (by show w.heap.size ≠ g5; omega) _).far (p := ⟨g5, 1, none⟩) (by show w.heap.size ≠ g5; omega) _
      have g75 : Held V5 gx 63 e.arr := by rw [← hV5]; exact (g7.far (p := ⟨g5, 0, none⟩) (by show gx ≠ g5; omega) _).far (p := ⟨g5, 1, none⟩) (by show gx ≠ g5; omega) _
      have hb5 : Below w.heap.size w V5 := by rw [← hV5]; exact (hb4.setCell (p := ⟨g5, 0, none⟩) (by show w.heap.size ≤ g5; omega) _).setCell (p := ⟨g5, 1, none⟩) (by show w.heap.size ≤ g5; omega) _
      rw [hV5]
      clear hV5 s0 s1 f0 f1 h54 h44 g7 hb4 xk xm xe xc xf
      obtain ⟨xk, _, _, _, _, _, _, xf, _⟩ := ent_cells g75
      generalize se + e.energy = te at h55 HST
      generalize sc + e.cost = tc at h55 HST
      clear w1 w2
      obtain ⟨_, _, s2, s3, s4, s5, s6⟩ := sum_cells h55
      dsimp only at s2 s3 s4 s5 s6
      have f4 := h55.frozen 4
      have f5 := h55.frozen 5
      have f6 := h55.frozen 6
      have f2 := h55.frozen 2
      have w2 : IntKind.i64.wrap (si + 1) = si + 1 := by simp only [IntKind.wrap_i64]; omega
      have w3 : IntKind.i64.wrap (sf + 1) = sf + 1 := by simp only [IntKind.wrap_i64]; omega
      have w4 : IntKind.i64.wrap (ss + 1) = ss + 1 := by simp only [IntKind.wrap_i64]; omega
      have w5 : IntKind.i64.wrap (sr + 1) = sr + 1 := by simp only [IntKind.wrap_i64]; omega
      have w6 : IntKind.i64.wrap (so + 1) = so + 1 := by simp only [IntKind.wrap_i64]; omega
      by_cases k2 : e.kind = 2
      · have HJ : Hid (kindJ ⟨te, tc, si, sf, ss, sr, so, sl⟩ e = ⟨te, tc, si, sf, ss + 1, sr, so, sl⟩) := Lib.hid (by unfold kindJ; rw [if_neg (by omega), if_pos k2])
        rw [k2] at xk
        go_wp2_with fail
        go_roundw
        case rel =>
          refine ⟨i + 1, by omega, by go_num, h45.far (p := ⟨g5, 4, none⟩) (by show w.heap.size ≠ g5; omega) _, ?_, hb5.setCell (p := ⟨g5, 4, none⟩) (by show w.heap.size ≤ g5; omega) _⟩
          rw [HST.out, HJ.out]
          have := h55.set 4 (.int .i64 (ss + 1))
          simpa [SumS.arr, SumS.cells] using this
        case measure => simp [intOf]; omega
      by_cases k3 : e.kind = 3
      · have HJ : Hid (kindJ ⟨te, tc, si, sf, ss, sr, so, sl⟩ e = ⟨te, tc, si, sf, ss, sr + 1, so, sl⟩) := Lib.hid (by unfold kindJ; rw [if_neg (by omega), if_neg k2, if_pos k3])
        rw [k3] at xk
        go_wp2_with fail
        go_roundw
        case rel =>
          refine ⟨i + 1, by omega, by go_num, h45.far (p := ⟨g5, 5, none⟩) (by show w.heap.size ≠ g5; omega) _, ?_, hb5.setCell (p := ⟨g5, 5, none⟩) (by show w.heap.size ≤ g5; omega) _⟩
          rw [HST.out, HJ.out]
          have := h55.set 5 (.int .i64 (sr + 1))
          simpa [SumS.arr, SumS.cells] using this
        case measure => simp [intOf]; omega
      by_cases k4 : e.kind = 4
      · have HJ : Hid (kindJ ⟨te, tc, si, sf, ss, sr, so, sl⟩ e = ⟨te, tc, si, sf, ss, sr, so + 1, sl⟩) := Lib.hid (by unfold kindJ; rw [if_neg (by omega), if_neg k2, if_neg k3, if_pos k4])
        rw [k4] at xk
        go_wp2_with fail
        go_roundw
        case rel =>
          refine ⟨i + 1, by omega, by go_num, h45.far (p := ⟨g5, 6, none⟩) (by show w.heap.size ≠ g5; omega) _, ?_, hb5.setCell (p := ⟨g5, 6, none⟩) (by show w.heap.size ≤ g5; omega) _⟩
          rw [HST.out, HJ.out]
          have := h55.set 6 (.int .i64 (so + 1))
          simpa [SumS.arr, SumS.cells] using this
        case measure => simp [intOf]; omega
      have k1 : e.kind = 1 := by omega
      rw [k1] at xk
      go_upto_region 12 with fail
      obtain ⟨V6, hV6⟩ : ∃ W : World, V5.setCell ⟨g5, 2, none⟩ (.int .i64 (si + 1)) = W := ⟨_, rfl⟩
      have h56 : Held V6 g5 65 (⟨te, tc, si + 1, sf, ss, sr, so, sl⟩ : SumS).arr := by rw [← hV6]; have := h55.set 2 (.int .i64 (si + 1)); simpa [SumS.arr, SumS.cells] using this
      have h46 : Held V6 w.heap.size 65 SumS.zero.arr := by rw [← hV6]; exact h45.far (p := ⟨g5, 2, none⟩) (by show w.heap.size ≠ g5; omega) _
      have g76 : Held V6 gx 63 e.arr := by rw [← hV6]; exact g75.far (p := ⟨g5, 2, none⟩) (by show gx ≠ g5; omega) _
      have hb6 : Below w.heap.size w V6 := by rw [← hV6]; exact hb5.setCell (p := ⟨g5, 2, none⟩) (by show w.heap.size ≤ g5; omega) _
      rw [hV6]
      clear hV6 h55 h45 g75 hb5 s2 s3 s4 s5 s6 f2 f4 f5 f6 w2 w4 w5 w6
      have hth : V6.there g5 7 e.arr.size := h56.there 7 _ (by rw [Ent.arr_size _ HEL.out, SumS.arr_size _ hsl]; omega)
      go_upto_region 13 with (first
        | ((with_reducible refine wpList_load_held (dst := some 47) 63 (.tmp 7) gx 63 e.arr _ (by kernel_rfl) (by kernel_rfl) g76 Tryd.underlying63 (by kernel_rfl) IA.out ?_); simp only [Act.put, List.setIfInBounds_toArray, List.set_cons_succ, List.set_cons_zero])
        | ((with_reducible refine wpList_store_at 63 (.tmp 48) (.tmp 47) g5 7 e.arr (by kernel_rfl) (by kernel_rfl) (by kernel_rfl) hth IA.out (ent_one e) ?_); simp only [Act.put, List.setIfInBounds_toArray, List.set_cons_succ, List.set_cons_zero]))
      obtain ⟨V7, hV7⟩ : ∃ W : World, V6.setCells g5 7 e.arr.toList = W := ⟨_, rfl⟩
      have h57 : Held V7 g5 65 (⟨te, tc, si + 1, sf, ss, sr, so, e⟩ : SumS).arr := by rw [← hV7]; exact SumS.last_set ⟨te, tc, si + 1, sf, ss, sr, so, sl⟩ e hsl HEL.out h56
      have h47 : Held V7 w.heap.size 65 SumS.zero.arr := by rw [← hV7]; exact h46.sets_far g5 7 _ (by omega)
      have g77 : Held V7 gx 63 e.arr := by rw [← hV7]; exact g76.sets_far g5 7 _ (by omega)
      have hb7 : Below w.heap.size w V7 := by rw [← hV7]; exact hb6.trans ((But.sets _ _ (But.refl g5 V6)).below (by omega) hb6.size)
      rw [hV7]
      clear hV7 h56 h46 g76 hb6 hth xk xf
      obtain ⟨_, _, _, _, _, _, _, xf, _⟩ := ent_cells g77
      obtain ⟨_, _, _, s3, _, _, _⟩ := sum_cells h57
      dsimp only at s3
      have f3 := h57.frozen 3
      by_cases hf : 0 < e.flags
      · have HJ : Hid (kindJ ⟨te, tc, si, sf, ss, sr, so, sl⟩ e = ⟨te, tc, si + 1, sf + 1, ss, sr, so, e⟩) := Lib.hid (by unfold kindJ; rw [if_pos k1, if_pos hf])
        go_wp2_with fail
        go_roundw
        case rel =>
          refine ⟨i + 1, by omega, by go_num, h47.far (p := ⟨g5, 3, none⟩) (by show w.heap.size ≠ g5; omega) _, ?_, hb7.setCell (p := ⟨g5, 3, none⟩) (by show w.heap.size ≤ g5; omega) _⟩
          rw [HST.out, HJ.out]
          have := h57.set 3 (.int .i64 (sf + 1))
          simpa [SumS.arr, SumS.cells] using this
        case measure => simp [intOf]; omega
      · have HJ : Hid (kindJ ⟨te, tc, si, sf, ss, sr, so, sl⟩ e = ⟨te, tc, si + 1, sf, ss, sr, so, e⟩) := Lib.hid (by unfold kindJ; rw [if_pos k1, if_neg hf])
        go_wp2_with fail
        go_roundw
        case rel => exact ⟨i + 1, by omega, by go_num, h47, by rw [HST.out, HJ.out]; exact h57, hb7⟩
        case measure => simp [intOf]; omega
    · obtain rfl : i = es.length := by omega
      have hltI : decide ((es.length : Int) < (es.length : Int)) = false := by simp
      rw [List.take_length] at h5r
      have hso := HAD.out.sumOk es.length (Nat.le_refl _) m
      rw [List.take_length] at hso
      obtain ⟨S, hS⟩ : ∃ S, (runB es).sumI m = S := ⟨_, rfl⟩
      rw [hS] at h5r hso
      replace hS := Lib.hid hS
      have ISs : Hid ((Tryd.prog.info? 65).map (·.size) = some S.arr.size) := Lib.hid (by rw [sum_size, SumS.arr_size _ hso.hash])
      have IZ : Hid (S.arr.size = SumS.zero.arr.size) := Lib.hid (by rw [SumS.arr_size _ hso.hash, SumS.arr_size _ rfl])
      have hbz := hbl.size
      have hl4 := h4r.lt
      go_wp2_with (first
        | ((with_reducible refine wpList_load_held (dst := some 74) 65 (.tmp 5) g5 65 S.arr _ (by kernel_rfl) (by kernel_rfl) h5r Tryd.underlying65 (by kernel_rfl) ISs.out ?_); simp only [Act.put, List.setIfInBounds_toArray, List.set_cons_succ, List.set_cons_zero])
        | ((with_reducible refine wpList_store_held 65 (.tmp 4) (.tmp 74) w.heap.size 65 _ S.arr (by kernel_rfl) (by kernel_rfl) (by kernel_rfl) h4r IZ.out ISs.out (sum_one _) ?_); intro V2 g4 b2 z2; clear z2; simp only [Act.put, List.setIfInBounds_toArray, List.set_cons_succ, List.set_cons_zero]))
      refine bodyPost_ret (results_cell_held rfl _ _ _ _ _ _ (by kernel_rfl) g4 Tryd.underlying65 (by kernel_rfl) ISs.out) rfl ?_
      exact ⟨by rw [hS.out], hbl.trans (b2.below (Nat.le_refl _) hbz)⟩
end Go.Proofs.YtnnknnaimabehaaDoor
namespace Go.Proofs.YtnnknnaimabehaaDoor
open Go.RowKit
attribute [local go_sem] Oper.semAt_some
set_option linter.unusedVariables false
set_option linter.unusedSimpArgs false
set_option maxRecDepth 100000
end Go.Proofs.YtnnknnaimabehaaDoor
namespace Go.Proofs.YtnnknnaimabehaaDoor
open Go.RowKit
attribute [local go_sem] Oper.semAt_some
set_option linter.unusedVariables false
set_option linter.unusedSimpArgs false
set_option maxRecDepth 100000
/-- Is an entry of a meter, and no seal? -/
def ofM (e : Ent) (m : Nat) : Prop := e.kind ≠ 5 ∧ e.meter = m
instance (e : Ent) (m : Nat) : Decidable (ofM e m) := by unfold ofM; infer_instance
theorem of_none {es : List Ent} (hA : AddedE es) (m : Nat) (hm : m < 64) : ∀ n, n ≤ es.length → (∀ j e, j < n → es[j]? = some e → ¬ ofM e m) → (runB (es.take n)).ofAt m = 0 := by
  intro n
  induction n with
  | zero => intro _ _; rw [List.take_zero]; exact getD_rep _ _ _
  | succ n ih =>
    intro hn h
    have hx : es[n]? = some es[n] := List.getElem?_eq_getElem (by omega)
    rw [hA.ofm n _ hx m hm, ih (by omega) (fun j e hj he => h j e (by omega) he), if_neg (show ¬ (es[n].kind ≠ 5 ∧ es[n].meter = (m : Int)) from h n _ (by omega) hx)]
    omega
theorem of_some {es : List Ent} (hA : AddedE es) (m : Nat) (hm : m < 64) (j : Nat) (e : Ent) (he : es[j]? = some e) (ho : ofM e m) : ∀ n, n ≤ es.length → j < n → 0 < (runB (es.take n)).ofAt m := by
  intro n
  induction n with
  | zero => intro _ h; omega
  | succ n ih =>
    intro hn hj
    have hx : es[n]? = some es[n] := List.getElem?_eq_getElem (by omega)
    rw [hA.ofm n _ hx m hm]
    have h0 := ((hA.book n (by omega)).ofAt m hm).1
    rcases Nat.lt_or_ge j n with h | h
    · have := ih (by omega) h
      split <;> omega
    · obtain rfl : j = n := by omega
      rw [hx] at he
      injection he with he
      rw [he, if_pos (show e.kind ≠ 5 ∧ e.meter = (m : Int) from ho)]
      omega
/-- What stands at the inner loop's head. -/
def InM (es : List Ent) (b : Bk) (w : World) (m : Nat) (v3 v5 : Value) (W : World) : Prop := ∃ j : Nat, j ≤ es.length ∧ v5 = .int .i64 j ∧ (∀ q e, q < j → es[q]? = some e → ¬ ofM e m) ∧ W.ownsRow w.heap.size 3 1 v3 (metI b m).length ((metI b m).map (Value.int .i64)) ∧ Below w.heap.size w W
end Go.Proofs.YtnnknnaimabehaaDoor
