/- civil.ParseAt. -/
import Derived.Test.YtgeocjodkkkiiaaDoorCivParse
import Derived.Laws.CopyOwn
import Derived.Laws.Tables
import Derived.OrdersHeld
import Derived.Deep.RegionHeld
namespace Go.Proofs.YtgeocjodkkkiiaaDoor
open Go.RowKit

theorem parV_is (q : ByteArray) : ∃ Y M D E, parV q = .tuple #[.agg #[.int .i64 Y, .int .i64 M, .int .i64 D], .int .i64 E] ∧ (parB q = true → E = 0 ∧ Y = numAt q 0 4 ∧ M = numAt q 5 7 ∧ D = numAt q 8 10) ∧ (parB q = false → E = 60 ∧ Y = 0 ∧ M = 0 ∧ D = 0) := by
  cases h : parB q with
  | true => exact ⟨_, _, _, _, by rw [parV, if_pos h], fun _ => ⟨rfl, rfl, rfl, rfl⟩, by simp⟩
  | false => exact ⟨_, _, _, _, by rw [parV, if_neg (by simp [h])], by simp, fun _ => ⟨rfl, rfl, rfl, rfl⟩⟩

theorem held_fresh {X W : World} {t : TypeId} {cs : Array Value} (hb : Below (X.alloc (.cells cs t)).heap.size (X.alloc (.cells cs t)) W) : Held W X.heap.size t cs := (Held.new X t cs).below hb (by simp)

theorem Held.setRow {W : World} {B : Nat} {t : TypeId} {cs : Array Value} (h : Held W B t cs) (cs' : Array Value) : Held (W.setRow B cs') B t cs' := setRow_heap W B cs cs' t (0, 0) h
/-- A date lies here. -/
def SD (z : Nat) (Y M D : Int) (W : World) : Prop := W.cell? ⟨z, 0, none⟩ = some (.int .i64 Y) ∧ W.cell? ⟨z, 1, none⟩ = some (.int .i64 M) ∧ W.cell? ⟨z, 2, none⟩ = some (.int .i64 D)
theorem SD.keep {z n : Nat} {Y M D : Int} {W W' : World} (h : SD z Y M D W) (hb : Below n W W') (hz : z < n) : SD z Y M D W' :=
  ⟨(hb.cell (p := ⟨z, 0, none⟩) hz).trans h.1, (hb.cell (p := ⟨z, 1, none⟩) hz).trans h.2.1, (hb.cell (p := ⟨z, 2, none⟩) hz).trans h.2.2⟩

/-- A text is a moment's. -/
def atB (s : ByteArray) : Bool := decide (s.size = 19) && parB (s.extract 0 10) && okB (numAt (s.extract 0 10) 0 4) (numAt (s.extract 0 10) 5 7) (numAt (s.extract 0 10) 8 10) (numAt s 11 13) (numAt s 14 16) (numAt s 17 19) && decide (strU (momL (numAt (s.extract 0 10) 0 4) (numAt (s.extract 0 10) 5 7) (numAt (s.extract 0 10) 8 10) (numAt s 11 13) (numAt s 14 16) (numAt s 17 19)) = s)
def atV (s : ByteArray) : Value := if atB s = true then .tuple #[.agg #[.int .i64 (numAt (s.extract 0 10) 0 4), .int .i64 (numAt (s.extract 0 10) 5 7), .int .i64 (numAt (s.extract 0 10) 8 10), .int .i64 (numAt s 11 13), .int .i64 (numAt s 14 16), .int .i64 (numAt s 17 19)], .int .i64 0] else .tuple #[.agg #[.int .i64 0, .int .i64 0, .int .i64 0, .int .i64 0, .int .i64 0, .int .i64 0], .int .i64 60]
theorem at_facts (s : ByteArray) (h : s.size = 19) (Y M D E : Int) (hv1 : parB (s.extract 0 10) = true → E = 0 ∧ Y = numAt (s.extract 0 10) 0 4 ∧ M = numAt (s.extract 0 10) 5 7 ∧ D = numAt (s.extract 0 10) 8 10) (hv2 : parB (s.extract 0 10) = false → E = 60 ∧ Y = 0 ∧ M = 0 ∧ D = 0) :
    (E = 0 ∨ E = 60) ∧ (okB Y M D (numAt s 11 13) (numAt s 14 16) (numAt s 17 19) = false → atV s = .tuple #[.agg #[.int .i64 0, .int .i64 0, .int .i64 0, .int .i64 0, .int .i64 0, .int .i64 0], .int .i64 60]) ∧
    (okB Y M D (numAt s 11 13) (numAt s 14 16) (numAt s 17 19) = true → E = 0) ∧
    (okB Y M D (numAt s 11 13) (numAt s 14 16) (numAt s 17 19) = true → strU (momL Y M D (numAt s 11 13) (numAt s 14 16) (numAt s 17 19)) = s → atV s = .tuple #[.agg #[.int .i64 Y, .int .i64 M, .int .i64 D, .int .i64 (numAt s 11 13), .int .i64 (numAt s 14 16), .int .i64 (numAt s 17 19)], .int .i64 0]) ∧
    (okB Y M D (numAt s 11 13) (numAt s 14 16) (numAt s 17 19) = true → strU (momL Y M D (numAt s 11 13) (numAt s 14 16) (numAt s 17 19)) ≠ s → atV s = .tuple #[.agg #[.int .i64 0, .int .i64 0, .int .i64 0, .int .i64 0, .int .i64 0, .int .i64 0], .int .i64 60]) := by
  cases hp : parB (s.extract 0 10) with
  | true =>
    obtain ⟨rfl, rfl, rfl, rfl⟩ := hv1 hp
    refine ⟨Or.inl rfl, fun hk => ?_, fun _ => rfl, fun hk hs => ?_, fun hk hs => ?_⟩
    · rw [atV, if_neg (by simp [atB, hk])]
    · rw [atV, if_pos (by simp [atB, hk, hp, h, hs])]
    · rw [atV, if_neg (by simp [atB, hs])]
  | false =>
    obtain ⟨rfl, rfl, rfl, rfl⟩ := hv2 hp
    have hn : ∀ a b c, okB 0 0 0 a b c = false := by intro a b c; simp [okB, mayB]
    refine ⟨Or.inr rfl, fun hk => ?_, fun hk => ?_, fun hk => ?_, fun hk => ?_⟩
    · rw [atV, if_neg (by simp [atB, hp])]
    · rw [hn] at hk; cases hk
    · rw [hn] at hk; cases hk
    · rw [hn] at hk; cases hk

set_option maxRecDepth 100000 in
set_option maxHeartbeats 8000000 in
theorem parseat_own (s : ByteArray) (h : s.size = 19) (w : World) (T : Lens w) (hP : P10 w) : Calls Tryd.prog 33 #[.string s] w fun e w' => e = .returned (atV s) ∧ Below w.heap.size w w' := by
  have HT := Lib.hid T
  have HPP := Lib.hid hP
  have C1 : Hid (∀ W, Calls Tryd.prog 39 #[.string s, .int .i64 11, .int .i64 13] W fun e w' => e = .returned (.int .i64 (numAt s 11 13)) ∧ Below W.heap.size W w') := Lib.hid (fun W => part_own s 11 13 (by omega) (by omega) (by omega) W)
  have C2 : Hid (∀ W, Calls Tryd.prog 39 #[.string s, .int .i64 14, .int .i64 16] W fun e w' => e = .returned (.int .i64 (numAt s 14 16)) ∧ Below W.heap.size W w') := Lib.hid (fun W => part_own s 14 16 (by omega) (by omega) (by omega) W)
  have C3 : Hid (∀ W, Calls Tryd.prog 39 #[.string s, .int .i64 17, .int .i64 19] W fun e w' => e = .returned (.int .i64 (numAt s 17 19)) ∧ Below W.heap.size W w') := Lib.hid (fun W => part_own s 17 19 (by omega) (by omega) (by omega) W)
  obtain ⟨Y, M, D, E, hV, hv1, hv2⟩ := parV_is (s.extract 0 10)
  have HV := Lib.hid hV
  obtain ⟨hE, hno, hyes, hok, hne⟩ := at_facts s h Y M D E hv1 hv2
  have HNO := Lib.hid hno
  have HYES := Lib.hid hyes
  have HOK := Lib.hid hok
  have HNE := Lib.hid hne
  clear hno hyes hok hne
  clear T hP hV hv1 hv2
  have hX := Held.new w 41 #[.int .i64 0, .int .i64 0, .int .i64 0, .int .i64 0, .int .i64 0, .int .i64 0]
  have b := below_alloc (Below.refl w.heap.size w) (Obj.cells #[.int .i64 0, .int .i64 0, .int .i64 0, .int .i64 0, .int .i64 0, .int .i64 0] 41)
  have zx : w.heap.size < (w.alloc (Obj.cells #[.int .i64 0, .int .i64 0, .int .i64 0, .int .i64 0, .int .i64 0, .int .i64 0] 41)).heap.size := by simp
  go_in
  go_wp2_with fail
  refine (parse_own (s.extract 0 10) _ (HT.out.up b) (tabIs_up HPP.out b)).mono ?_
  rintro e w1 ⟨rfl, hb⟩
  rw [HV.out]
  have b := below_step b hb
  have hX := hX.below hb zx
  have zx : w.heap.size < w1.heap.size := by have := hb.size; omega
  clear hb
  go_wp2_with fail
  have hD := Held.new w1 23 #[.int .i64 Y, .int .i64 M, .int .i64 D]
  have b := below_alloc b (Obj.cells #[.int .i64 Y, .int .i64 M, .int .i64 D] 23)
  have hX := hX.alloc (Obj.cells #[.int .i64 Y, .int .i64 M, .int .i64 D] 23)
  have zd : w1.heap.size < (w1.alloc (Obj.cells #[.int .i64 Y, .int .i64 M, .int .i64 D] 23)).heap.size := by simp
  generalize w1.alloc (Obj.cells #[.int .i64 Y, .int .i64 M, .int .i64 D] 23) = w2 at hX b hD zd ⊢
  have d0 := hD.cell 0
  have d1 := hD.cell 1
  have d2 := hD.cell 2
  simp only [List.getElem?_toArray, List.getElem?_cons_zero, List.getElem?_cons_succ] at d0 d1 d2
  have zX : w.heap.size < w2.heap.size := by omega
  have hS0 : SD w1.heap.size Y M D w2 := ⟨d0, d1, d2⟩
  have hS : SD w1.heap.size Y M D w2.drew := ⟨d0, d1, d2⟩
  have hB : Below w2.heap.size w2 w2.drew := (Below.refl _ _).drew
  clear d0 d1 d2
  refine wp_region_held (S := SD w1.heap.size Y M D) (by kernel_rfl) ?_
  refine wpAnyH_take (i := 0) (v := ?v0_1) rfl (by kernel_rfl) (by kernel_rfl) (by kernel_rfl) (fun _ _ _ h => h) (Or.inl ⟨by rfl, ?y0_1⟩) hS ?r0_1
  case y0_1 =>
    rintro w ⟨hc0, hc1, hc2⟩
    go_simp
    with_reducible rfl
  simp only [Act.put]
  refine wpAnyH_take (i := 1) (v := ?v1_2) rfl (by kernel_rfl) (by kernel_rfl) (by kernel_rfl) (fun _ _ _ h => h) (Or.inl ⟨by rfl, ?y1_2⟩) hS ?r1_2
  case y1_2 =>
    rintro w ⟨hc0, hc1, hc2⟩
    go_simp
    with_reducible rfl
  simp only [Act.put]
  refine wpAnyH_take (i := 3) (v := ?v3_3) rfl (by kernel_rfl) (by kernel_rfl) (by kernel_rfl) (fun _ _ _ h => h) (Or.inl ⟨by rfl, ?y3_3⟩) hS ?r3_3
  case y3_3 =>
    rintro w ⟨hc0, hc1, hc2⟩
    go_simp
    with_reducible rfl
  simp only [Act.put]
  refine wpAnyH_take (i := 5) (v := ?v5_4) rfl (by kernel_rfl) (by kernel_rfl) (by kernel_rfl) (fun _ _ _ h => h) (Or.inl ⟨by rfl, ?y5_4⟩) hS ?r5_4
  case y5_4 =>
    rintro w ⟨hc0, hc1, hc2⟩
    go_simp
    with_reducible rfl
  simp only [Act.put]
  refine wpAnyH_ready (rs := [2, 8]) (by kernel_rfl) (by simp) ?_
  refine AllReadyH.cons rfl (fun K hK => ?_) (AllReadyH.cons rfl (fun K hK => ?_) AllReadyH.nil)
  · skip
    go_simp
    refine (C1.out _).mono ?_
    rintro e u1 ⟨rfl, hb⟩
    have hB := below_step (a := w2) hB hb
    clear hb
    go_simp
    refine hK.out _ _ (hS0.keep hB zd) (fun hS => ?_)
    clear hK K
    refine wpAnyH_ready (rs := [4, 8]) (by kernel_rfl) (by simp) ?_
    refine AllReadyH.cons rfl (fun K hK => ?_) (AllReadyH.cons rfl (fun K hK => ?_) AllReadyH.nil)
    · skip
      go_simp
      refine (C2.out _).mono ?_
      rintro e u2 ⟨rfl, hb⟩
      have hB := below_step (a := w2) hB hb
      clear hb
      go_simp
      refine hK.out _ _ (hS0.keep hB zd) (fun hS => ?_)
      clear hK K
      refine wpAnyH_ready (rs := [6, 8]) (by kernel_rfl) (by simp) ?_
      refine AllReadyH.cons rfl (fun K hK => ?_) (AllReadyH.cons rfl (fun K hK => ?_) AllReadyH.nil)
      · skip
        go_simp
        refine (C3.out _).mono ?_
        rintro e u3 ⟨rfl, hb⟩
        have hB := below_step (a := w2) hB hb
        clear hb
        go_simp
        refine hK.out _ _ (hS0.keep hB zd) (fun hS => ?_)
        clear hK K
        refine wpAnyH_take (i := 7) (v := ?v7_5) rfl (by kernel_rfl) (by kernel_rfl) (by kernel_rfl) (fun _ _ _ h => h) (Or.inl ⟨by rfl, ?y7_5⟩) hS ?r7_5
        case y7_5 =>
          rintro w ⟨hc0, hc1, hc2⟩
          go_simp
          with_reducible rfl
        simp only [Act.put]
        refine wpAnyH_ready (rs := [8]) (by kernel_rfl) (by simp) ?_
        refine AllReadyH.cons rfl (fun K hK => ?_) AllReadyH.nil
        go_simp
        refine hK.out _ _ (hS0.keep (below_alloc hB _) zd) (fun hS => ?_)
        clear hK K
        refine wpAnyH_ready (rs := [9]) (by kernel_rfl) (by simp) ?_
        refine AllReadyH.cons rfl (fun K hK => ?_) AllReadyH.nil
        refine wp_store_row 41 _ _ rfl _ _ rfl rfl 41 _ (Held.new _ _ _) (by kernel_rfl) rfl (by simp [Value.oneCell']) ?_
        refine hK.out _ _ (hS0.keep (below_setRow (below_alloc hB _) hB.size _) zd) (fun hS => ?_)
        clear hK K
        have hBB := below_setRow (below_alloc hB (Obj.cells #[.int .i64 0, .int .i64 0, .int .i64 0, .int .i64 0, .int .i64 0, .int .i64 0] 41)) hB.size #[.int .i64 Y, .int .i64 M, .int .i64 D, .int .i64 (numAt s 11 13), .int .i64 (numAt s 14 16), .int .i64 (numAt s 17 19)]
        have hR := Held.setRow (Held.new u3 41 #[.int .i64 0, .int .i64 0, .int .i64 0, .int .i64 0, .int .i64 0, .int .i64 0]) #[.int .i64 Y, .int .i64 M, .int .i64 D, .int .i64 (numAt s 11 13), .int .i64 (numAt s 14 16), .int .i64 (numAt s 17 19)]
        have b := below_step b hBB
        have hX := hX.below hBB zX
        refine wpAnyH_done (by kernel_rfl) ?_ _
        clear hS hBB hB hD hS0
        generalize (u3.alloc (Obj.cells #[.int .i64 0, .int .i64 0, .int .i64 0, .int .i64 0, .int .i64 0, .int .i64 0] 41)).setRow u3.heap.size #[.int .i64 Y, .int .i64 M, .int .i64 D, .int .i64 (numAt s 11 13), .int .i64 (numAt s 14 16), .int .i64 (numAt s 17 19)] = W at hR b hX ⊢
        have a0 := hR.cell 0
        have a1 := hR.cell 1
        have a2 := hR.cell 2
        have a3 := hR.cell 3
        have a4 := hR.cell 4
        have a5 := hR.cell 5
        simp only [List.getElem?_toArray, List.getElem?_cons_zero, List.getElem?_cons_succ] at a0 a1 a2 a3 a4 a5
        go_wp2_with fail
        clear a0 a1 a2 a3 a4 a5
        cases hk : okB Y M D (numAt s 11 13) (numAt s 14 16) (numAt s 17 19) with
        | false =>
          have HN := Lib.hid (HNO.out hk)
          refine (textat_no _ _ _ _ _ _ _ (HT.out.up b) hk).mono ?_
          rintro e w9 ⟨rfl, hb⟩
          have b := below_step b hb
          have hX := hX.below hb hX.lt
          clear hb hR
          rcases hE with rfl | rfl
          all_goals
            go_wp2_with (refine wpList_store_row rfl 41 (.tmp 2) (.tmp 43) rfl w.heap.size #[.int .i64 0, .int .i64 0, .int .i64 0, .int .i64 0, .int .i64 0, .int .i64 0] rfl rfl 41 #[.int .i64 0, .int .i64 0, .int .i64 0, .int .i64 0, .int .i64 0, .int .i64 0] hX (by kernel_rfl) rfl (by simp [Value.oneCell']) ?_)
            have hR2 := hX.setRow #[.int .i64 0, .int .i64 0, .int .i64 0, .int .i64 0, .int .i64 0, .int .i64 0]
            exact bodyPost_ret (results_moment _ rfl _ _ _ _ _ _ _ _ _ _ rfl rfl hR2) rfl ⟨congrArg _ HN.out.symm, below_setRow b (Nat.le_refl _) _⟩
        | true =>
          obtain rfl := HYES.out hk
          refine (textat_yes _ _ _ _ _ _ _ (HT.out.up b) (tabIs_up HPP.out b) hk).mono ?_
          rintro e w9 ⟨rfl, hb⟩
          have b := below_step b hb
          have hX := hX.below hb hX.lt
          have hR := hR.below hb hR.lt
          clear hb
          by_cases hs : strU (momL Y M D (numAt s 11 13) (numAt s 14 16) (numAt s 17 19)) = s
          · have HN := Lib.hid (HOK.out hk hs)
            rw [hs]
            clear hs
            have a0 := hR.cell 0
            have a1 := hR.cell 1
            have a2 := hR.cell 2
            have a3 := hR.cell 3
            have a4 := hR.cell 4
            have a5 := hR.cell 5
            simp only [List.getElem?_toArray, List.getElem?_cons_zero, List.getElem?_cons_succ] at a0 a1 a2 a3 a4 a5
            go_wp2_with (refine wpList_store_row rfl 41 (.tmp 2) (.tmp 44) rfl w.heap.size #[.int .i64 Y, .int .i64 M, .int .i64 D, .int .i64 (numAt s 11 13), .int .i64 (numAt s 14 16), .int .i64 (numAt s 17 19)] rfl rfl 41 #[.int .i64 0, .int .i64 0, .int .i64 0, .int .i64 0, .int .i64 0, .int .i64 0] hX (by kernel_rfl) rfl (by simp [Value.oneCell']) ?_)
            have hR2 := hX.setRow #[.int .i64 Y, .int .i64 M, .int .i64 D, .int .i64 (numAt s 11 13), .int .i64 (numAt s 14 16), .int .i64 (numAt s 17 19)]
            exact bodyPost_ret (results_moment _ rfl _ _ _ _ _ _ _ _ _ _ rfl rfl hR2) rfl ⟨congrArg _ HN.out.symm, below_setRow b (Nat.le_refl _) _⟩
          · have HN := Lib.hid (HNE.out hk hs)
            generalize strU (momL Y M D (numAt s 11 13) (numAt s 14 16) (numAt s 17 19)) = A at hs ⊢
            have sn := str_ne hs
            go_wp2_with (refine wpList_store_row rfl 41 (.tmp 2) (.tmp 43) rfl w.heap.size #[.int .i64 0, .int .i64 0, .int .i64 0, .int .i64 0, .int .i64 0, .int .i64 0] rfl rfl 41 #[.int .i64 0, .int .i64 0, .int .i64 0, .int .i64 0, .int .i64 0, .int .i64 0] hX (by kernel_rfl) rfl (by simp [Value.oneCell']) ?_)
            have hR2 := hX.setRow #[.int .i64 0, .int .i64 0, .int .i64 0, .int .i64 0, .int .i64 0, .int .i64 0]
            exact bodyPost_ret (results_moment _ rfl _ _ _ _ _ _ _ _ _ _ rfl rfl hR2) rfl ⟨congrArg _ HN.out.symm, below_setRow b (Nat.le_refl _) _⟩
      · skip
        go_simp
        refine hK.out _ _ (hS0.keep (below_alloc hB _) zd) (fun hS => ?_)
        clear hK K
        refine wpAnyH_ready (rs := [6]) (by kernel_rfl) (by simp) ?_
        refine AllReadyH.cons rfl (fun K hK => ?_) AllReadyH.nil
        go_simp
        refine (C3.out _).mono ?_
        rintro e u3 ⟨rfl, hb⟩
        have hN := held_fresh hb
        have hq := hB.size
        have hB := below_alloc hB (Obj.cells #[.int .i64 0, .int .i64 0, .int .i64 0, .int .i64 0, .int .i64 0, .int .i64 0] 41)
        have hB := below_step (a := w2) hB hb
        clear hb
        go_simp
        refine hK.out _ _ (hS0.keep hB zd) (fun hS => ?_)
        clear hK K
        refine wpAnyH_take (i := 7) (v := ?v7_6) rfl (by kernel_rfl) (by kernel_rfl) (by kernel_rfl) (fun _ _ _ h => h) (Or.inl ⟨by rfl, ?y7_6⟩) hS ?r7_6
        case y7_6 =>
          rintro w ⟨hc0, hc1, hc2⟩
          go_simp
          with_reducible rfl
        simp only [Act.put]
        refine wpAnyH_ready (rs := [9]) (by kernel_rfl) (by simp) ?_
        refine AllReadyH.cons rfl (fun K hK => ?_) AllReadyH.nil
        refine wp_store_row 41 _ _ rfl _ _ rfl rfl 41 _ hN (by kernel_rfl) rfl (by simp [Value.oneCell']) ?_
        refine hK.out _ _ (hS0.keep (below_setRow hB hq _) zd) (fun hS => ?_)
        clear hK K
        have hBB := below_setRow hB hq #[.int .i64 Y, .int .i64 M, .int .i64 D, .int .i64 (numAt s 11 13), .int .i64 (numAt s 14 16), .int .i64 (numAt s 17 19)]
        have hR := Held.setRow hN #[.int .i64 Y, .int .i64 M, .int .i64 D, .int .i64 (numAt s 11 13), .int .i64 (numAt s 14 16), .int .i64 (numAt s 17 19)]
        have b := below_step b hBB
        have hX := hX.below hBB zX
        refine wpAnyH_done (by kernel_rfl) ?_ _
        clear hS hBB hB hD hS0
        generalize u3.setRow u2.heap.size #[.int .i64 Y, .int .i64 M, .int .i64 D, .int .i64 (numAt s 11 13), .int .i64 (numAt s 14 16), .int .i64 (numAt s 17 19)] = W at hR b hX ⊢
        have a0 := hR.cell 0
        have a1 := hR.cell 1
        have a2 := hR.cell 2
        have a3 := hR.cell 3
        have a4 := hR.cell 4
        have a5 := hR.cell 5
        simp only [List.getElem?_toArray, List.getElem?_cons_zero, List.getElem?_cons_succ] at a0 a1 a2 a3 a4 a5
        go_wp2_with fail
        clear a0 a1 a2 a3 a4 a5
        cases hk : okB Y M D (numAt s 11 13) (numAt s 14 16) (numAt s 17 19) with
        | false =>
          have HN := Lib.hid (HNO.out hk)
          refine (textat_no _ _ _ _ _ _ _ (HT.out.up b) hk).mono ?_
          rintro e w9 ⟨rfl, hb⟩
          have b := below_step b hb
          have hX := hX.below hb hX.lt
          clear hb hR
          rcases hE with rfl | rfl
          all_goals
            go_wp2_with (refine wpList_store_row rfl 41 (.tmp 2) (.tmp 43) rfl w.heap.size #[.int .i64 0, .int .i64 0, .int .i64 0, .int .i64 0, .int .i64 0, .int .i64 0] rfl rfl 41 #[.int .i64 0, .int .i64 0, .int .i64 0, .int .i64 0, .int .i64 0, .int .i64 0] hX (by kernel_rfl) rfl (by simp [Value.oneCell']) ?_)
            have hR2 := hX.setRow #[.int .i64 0, .int .i64 0, .int .i64 0, .int .i64 0, .int .i64 0, .int .i64 0]
            exact bodyPost_ret (results_moment _ rfl _ _ _ _ _ _ _ _ _ _ rfl rfl hR2) rfl ⟨congrArg _ HN.out.symm, below_setRow b (Nat.le_refl _) _⟩
        | true =>
          obtain rfl := HYES.out hk
          refine (textat_yes _ _ _ _ _ _ _ (HT.out.up b) (tabIs_up HPP.out b) hk).mono ?_
          rintro e w9 ⟨rfl, hb⟩
          have b := below_step b hb
          have hX := hX.below hb hX.lt
          have hR := hR.below hb hR.lt
          clear hb
          by_cases hs : strU (momL Y M D (numAt s 11 13) (numAt s 14 16) (numAt s 17 19)) = s
          · have HN := Lib.hid (HOK.out hk hs)
            rw [hs]
            clear hs
            have a0 := hR.cell 0
            have a1 := hR.cell 1
            have a2 := hR.cell 2
            have a3 := hR.cell 3
            have a4 := hR.cell 4
            have a5 := hR.cell 5
            simp only [List.getElem?_toArray, List.getElem?_cons_zero, List.getElem?_cons_succ] at a0 a1 a2 a3 a4 a5
            go_wp2_with (refine wpList_store_row rfl 41 (.tmp 2) (.tmp 44) rfl w.heap.size #[.int .i64 Y, .int .i64 M, .int .i64 D, .int .i64 (numAt s 11 13), .int .i64 (numAt s 14 16), .int .i64 (numAt s 17 19)] rfl rfl 41 #[.int .i64 0, .int .i64 0, .int .i64 0, .int .i64 0, .int .i64 0, .int .i64 0] hX (by kernel_rfl) rfl (by simp [Value.oneCell']) ?_)
            have hR2 := hX.setRow #[.int .i64 Y, .int .i64 M, .int .i64 D, .int .i64 (numAt s 11 13), .int .i64 (numAt s 14 16), .int .i64 (numAt s 17 19)]
            exact bodyPost_ret (results_moment _ rfl _ _ _ _ _ _ _ _ _ _ rfl rfl hR2) rfl ⟨congrArg _ HN.out.symm, below_setRow b (Nat.le_refl _) _⟩
          · have HN := Lib.hid (HNE.out hk hs)
            generalize strU (momL Y M D (numAt s 11 13) (numAt s 14 16) (numAt s 17 19)) = A at hs ⊢
            have sn := str_ne hs
            go_wp2_with (refine wpList_store_row rfl 41 (.tmp 2) (.tmp 43) rfl w.heap.size #[.int .i64 0, .int .i64 0, .int .i64 0, .int .i64 0, .int .i64 0, .int .i64 0] rfl rfl 41 #[.int .i64 0, .int .i64 0, .int .i64 0, .int .i64 0, .int .i64 0, .int .i64 0] hX (by kernel_rfl) rfl (by simp [Value.oneCell']) ?_)
            have hR2 := hX.setRow #[.int .i64 0, .int .i64 0, .int .i64 0, .int .i64 0, .int .i64 0, .int .i64 0]
            exact bodyPost_ret (results_moment _ rfl _ _ _ _ _ _ _ _ _ _ rfl rfl hR2) rfl ⟨congrArg _ HN.out.symm, below_setRow b (Nat.le_refl _) _⟩
    · skip
      go_simp
      refine hK.out _ _ (hS0.keep (below_alloc hB _) zd) (fun hS => ?_)
      clear hK K
      refine wpAnyH_ready (rs := [4]) (by kernel_rfl) (by simp) ?_
      refine AllReadyH.cons rfl (fun K hK => ?_) AllReadyH.nil
      go_simp
      refine (C2.out _).mono ?_
      rintro e u2 ⟨rfl, hb⟩
      have hN := held_fresh hb
      have hq := hB.size
      have hB := below_alloc hB (Obj.cells #[.int .i64 0, .int .i64 0, .int .i64 0, .int .i64 0, .int .i64 0, .int .i64 0] 41)
      have hB := below_step (a := w2) hB hb
      clear hb
      go_simp
      refine hK.out _ _ (hS0.keep hB zd) (fun hS => ?_)
      clear hK K
      refine wpAnyH_ready (rs := [6]) (by kernel_rfl) (by simp) ?_
      refine AllReadyH.cons rfl (fun K hK => ?_) AllReadyH.nil
      go_simp
      refine (C3.out _).mono ?_
      rintro e u3 ⟨rfl, hb⟩
      have hN := hN.below hb hN.lt
      have hB := below_step (a := w2) hB hb
      clear hb
      go_simp
      refine hK.out _ _ (hS0.keep hB zd) (fun hS => ?_)
      clear hK K
      refine wpAnyH_take (i := 7) (v := ?v7_7) rfl (by kernel_rfl) (by kernel_rfl) (by kernel_rfl) (fun _ _ _ h => h) (Or.inl ⟨by rfl, ?y7_7⟩) hS ?r7_7
      case y7_7 =>
        rintro w ⟨hc0, hc1, hc2⟩
        go_simp
        with_reducible rfl
      simp only [Act.put]
      refine wpAnyH_ready (rs := [9]) (by kernel_rfl) (by simp) ?_
      refine AllReadyH.cons rfl (fun K hK => ?_) AllReadyH.nil
      refine wp_store_row 41 _ _ rfl _ _ rfl rfl 41 _ hN (by kernel_rfl) rfl (by simp [Value.oneCell']) ?_
      refine hK.out _ _ (hS0.keep (below_setRow hB hq _) zd) (fun hS => ?_)
      clear hK K
      have hBB := below_setRow hB hq #[.int .i64 Y, .int .i64 M, .int .i64 D, .int .i64 (numAt s 11 13), .int .i64 (numAt s 14 16), .int .i64 (numAt s 17 19)]
      have hR := Held.setRow hN #[.int .i64 Y, .int .i64 M, .int .i64 D, .int .i64 (numAt s 11 13), .int .i64 (numAt s 14 16), .int .i64 (numAt s 17 19)]
      have b := below_step b hBB
      have hX := hX.below hBB zX
      refine wpAnyH_done (by kernel_rfl) ?_ _
      clear hS hBB hB hD hS0
      generalize u3.setRow u1.heap.size #[.int .i64 Y, .int .i64 M, .int .i64 D, .int .i64 (numAt s 11 13), .int .i64 (numAt s 14 16), .int .i64 (numAt s 17 19)] = W at hR b hX ⊢
      have a0 := hR.cell 0
      have a1 := hR.cell 1
      have a2 := hR.cell 2
      have a3 := hR.cell 3
      have a4 := hR.cell 4
      have a5 := hR.cell 5
      simp only [List.getElem?_toArray, List.getElem?_cons_zero, List.getElem?_cons_succ] at a0 a1 a2 a3 a4 a5
      go_wp2_with fail
      clear a0 a1 a2 a3 a4 a5
      cases hk : okB Y M D (numAt s 11 13) (numAt s 14 16) (numAt s 17 19) with
      | false =>
        have HN := Lib.hid (HNO.out hk)
        refine (textat_no _ _ _ _ _ _ _ (HT.out.up b) hk).mono ?_
        rintro e w9 ⟨rfl, hb⟩
        have b := below_step b hb
        have hX := hX.below hb hX.lt
        clear hb hR
        rcases hE with rfl | rfl
        all_goals
          go_wp2_with (refine wpList_store_row rfl 41 (.tmp 2) (.tmp 43) rfl w.heap.size #[.int .i64 0, .int .i64 0, .int .i64 0, .int .i64 0, .int .i64 0, .int .i64 0] rfl rfl 41 #[.int .i64 0, .int .i64 0, .int .i64 0, .int .i64 0, .int .i64 0, .int .i64 0] hX (by kernel_rfl) rfl (by simp [Value.oneCell']) ?_)
          have hR2 := hX.setRow #[.int .i64 0, .int .i64 0, .int .i64 0, .int .i64 0, .int .i64 0, .int .i64 0]
          exact bodyPost_ret (results_moment _ rfl _ _ _ _ _ _ _ _ _ _ rfl rfl hR2) rfl ⟨congrArg _ HN.out.symm, below_setRow b (Nat.le_refl _) _⟩
      | true =>
        obtain rfl := HYES.out hk
        refine (textat_yes _ _ _ _ _ _ _ (HT.out.up b) (tabIs_up HPP.out b) hk).mono ?_
        rintro e w9 ⟨rfl, hb⟩
        have b := below_step b hb
        have hX := hX.below hb hX.lt
        have hR := hR.below hb hR.lt
        clear hb
        by_cases hs : strU (momL Y M D (numAt s 11 13) (numAt s 14 16) (numAt s 17 19)) = s
        · have HN := Lib.hid (HOK.out hk hs)
          rw [hs]
          clear hs
          have a0 := hR.cell 0
          have a1 := hR.cell 1
          have a2 := hR.cell 2
          have a3 := hR.cell 3
          have a4 := hR.cell 4
          have a5 := hR.cell 5
          simp only [List.getElem?_toArray, List.getElem?_cons_zero, List.getElem?_cons_succ] at a0 a1 a2 a3 a4 a5
          go_wp2_with (refine wpList_store_row rfl 41 (.tmp 2) (.tmp 44) rfl w.heap.size #[.int .i64 Y, .int .i64 M, .int .i64 D, .int .i64 (numAt s 11 13), .int .i64 (numAt s 14 16), .int .i64 (numAt s 17 19)] rfl rfl 41 #[.int .i64 0, .int .i64 0, .int .i64 0, .int .i64 0, .int .i64 0, .int .i64 0] hX (by kernel_rfl) rfl (by simp [Value.oneCell']) ?_)
          have hR2 := hX.setRow #[.int .i64 Y, .int .i64 M, .int .i64 D, .int .i64 (numAt s 11 13), .int .i64 (numAt s 14 16), .int .i64 (numAt s 17 19)]
          exact bodyPost_ret (results_moment _ rfl _ _ _ _ _ _ _ _ _ _ rfl rfl hR2) rfl ⟨congrArg _ HN.out.symm, below_setRow b (Nat.le_refl _) _⟩
        · have HN := Lib.hid (HNE.out hk hs)
          generalize strU (momL Y M D (numAt s 11 13) (numAt s 14 16) (numAt s 17 19)) = A at hs ⊢
          have sn := str_ne hs
          go_wp2_with (refine wpList_store_row rfl 41 (.tmp 2) (.tmp 43) rfl w.heap.size #[.int .i64 0, .int .i64 0, .int .i64 0, .int .i64 0, .int .i64 0, .int .i64 0] rfl rfl 41 #[.int .i64 0, .int .i64 0, .int .i64 0, .int .i64 0, .int .i64 0, .int .i64 0] hX (by kernel_rfl) rfl (by simp [Value.oneCell']) ?_)
          have hR2 := hX.setRow #[.int .i64 0, .int .i64 0, .int .i64 0, .int .i64 0, .int .i64 0, .int .i64 0]
          exact bodyPost_ret (results_moment _ rfl _ _ _ _ _ _ _ _ _ _ rfl rfl hR2) rfl ⟨congrArg _ HN.out.symm, below_setRow b (Nat.le_refl _) _⟩
  · skip
    go_simp
    refine hK.out _ _ (hS0.keep (below_alloc hB _) zd) (fun hS => ?_)
    clear hK K
    refine wpAnyH_ready (rs := [2]) (by kernel_rfl) (by simp) ?_
    refine AllReadyH.cons rfl (fun K hK => ?_) AllReadyH.nil
    go_simp
    refine (C1.out _).mono ?_
    rintro e u1 ⟨rfl, hb⟩
    have hN := (Held.new w2 41 #[.int .i64 0, .int .i64 0, .int .i64 0, .int .i64 0, .int .i64 0, .int .i64 0]).drew.below hb (by simp)
    have hq : w2.heap.size ≤ w2.heap.size := Nat.le_refl _
    have hB := (below_alloc (Below.refl w2.heap.size w2) (Obj.cells #[.int .i64 0, .int .i64 0, .int .i64 0, .int .i64 0, .int .i64 0, .int .i64 0] 41)).drew
    have hB := below_step (a := w2) hB hb
    clear hb
    go_simp
    refine hK.out _ _ (hS0.keep hB zd) (fun hS => ?_)
    clear hK K
    refine wpAnyH_ready (rs := [4]) (by kernel_rfl) (by simp) ?_
    refine AllReadyH.cons rfl (fun K hK => ?_) AllReadyH.nil
    go_simp
    refine (C2.out _).mono ?_
    rintro e u2 ⟨rfl, hb⟩
    have hN := hN.below hb hN.lt
    have hB := below_step (a := w2) hB hb
    clear hb
    go_simp
    refine hK.out _ _ (hS0.keep hB zd) (fun hS => ?_)
    clear hK K
    refine wpAnyH_ready (rs := [6]) (by kernel_rfl) (by simp) ?_
    refine AllReadyH.cons rfl (fun K hK => ?_) AllReadyH.nil
    go_simp
    refine (C3.out _).mono ?_
    rintro e u3 ⟨rfl, hb⟩
    have hN := hN.below hb hN.lt
    have hB := below_step (a := w2) hB hb
    clear hb
    go_simp
    refine hK.out _ _ (hS0.keep hB zd) (fun hS => ?_)
    clear hK K
    refine wpAnyH_take (i := 7) (v := ?v7_8) rfl (by kernel_rfl) (by kernel_rfl) (by kernel_rfl) (fun _ _ _ h => h) (Or.inl ⟨by rfl, ?y7_8⟩) hS ?r7_8
    case y7_8 =>
      rintro w ⟨hc0, hc1, hc2⟩
      go_simp
      with_reducible rfl
    simp only [Act.put]
    refine wpAnyH_ready (rs := [9]) (by kernel_rfl) (by simp) ?_
    refine AllReadyH.cons rfl (fun K hK => ?_) AllReadyH.nil
    refine wp_store_row 41 _ _ rfl _ _ rfl rfl 41 _ hN (by kernel_rfl) rfl (by simp [Value.oneCell']) ?_
    refine hK.out _ _ (hS0.keep (below_setRow hB hq _) zd) (fun hS => ?_)
    clear hK K
    have hBB := below_setRow hB hq #[.int .i64 Y, .int .i64 M, .int .i64 D, .int .i64 (numAt s 11 13), .int .i64 (numAt s 14 16), .int .i64 (numAt s 17 19)]
    have hR := Held.setRow hN #[.int .i64 Y, .int .i64 M, .int .i64 D, .int .i64 (numAt s 11 13), .int .i64 (numAt s 14 16), .int .i64 (numAt s 17 19)]
    have b := below_step b hBB
    have hX := hX.below hBB zX
    refine wpAnyH_done (by kernel_rfl) ?_ _
    clear hS hBB hB hD hS0
    generalize u3.setRow w2.heap.size #[.int .i64 Y, .int .i64 M, .int .i64 D, .int .i64 (numAt s 11 13), .int .i64 (numAt s 14 16), .int .i64 (numAt s 17 19)] = W at hR b hX ⊢
    have a0 := hR.cell 0
    have a1 := hR.cell 1
    have a2 := hR.cell 2
    have a3 := hR.cell 3
    have a4 := hR.cell 4
    have a5 := hR.cell 5
    simp only [List.getElem?_toArray, List.getElem?_cons_zero, List.getElem?_cons_succ] at a0 a1 a2 a3 a4 a5
    go_wp2_with fail
    clear a0 a1 a2 a3 a4 a5
    cases hk : okB Y M D (numAt s 11 13) (numAt s 14 16) (numAt s 17 19) with
    | false =>
      have HN := Lib.hid (HNO.out hk)
      refine (textat_no _ _ _ _ _ _ _ (HT.out.up b) hk).mono ?_
      rintro e w9 ⟨rfl, hb⟩
      have b := below_step b hb
      have hX := hX.below hb hX.lt
      clear hb hR
      rcases hE with rfl | rfl
      all_goals
        go_wp2_with (refine wpList_store_row rfl 41 (.tmp 2) (.tmp 43) rfl w.heap.size #[.int .i64 0, .int .i64 0, .int .i64 0, .int .i64 0, .int .i64 0, .int .i64 0] rfl rfl 41 #[.int .i64 0, .int .i64 0, .int .i64 0, .int .i64 0, .int .i64 0, .int .i64 0] hX (by kernel_rfl) rfl (by simp [Value.oneCell']) ?_)
        have hR2 := hX.setRow #[.int .i64 0, .int .i64 0, .int .i64 0, .int .i64 0, .int .i64 0, .int .i64 0]
        exact bodyPost_ret (results_moment _ rfl _ _ _ _ _ _ _ _ _ _ rfl rfl hR2) rfl ⟨congrArg _ HN.out.symm, below_setRow b (Nat.le_refl _) _⟩
    | true =>
      obtain rfl := HYES.out hk
      refine (textat_yes _ _ _ _ _ _ _ (HT.out.up b) (tabIs_up HPP.out b) hk).mono ?_
      rintro e w9 ⟨rfl, hb⟩
      have b := below_step b hb
      have hX := hX.below hb hX.lt
      have hR := hR.below hb hR.lt
      clear hb
      by_cases hs : strU (momL Y M D (numAt s 11 13) (numAt s 14 16) (numAt s 17 19)) = s
      · have HN := Lib.hid (HOK.out hk hs)
        rw [hs]
        clear hs
        have a0 := hR.cell 0
        have a1 := hR.cell 1
        have a2 := hR.cell 2
        have a3 := hR.cell 3
        have a4 := hR.cell 4
        have a5 := hR.cell 5
        simp only [List.getElem?_toArray, List.getElem?_cons_zero, List.getElem?_cons_succ] at a0 a1 a2 a3 a4 a5
        go_wp2_with (refine wpList_store_row rfl 41 (.tmp 2) (.tmp 44) rfl w.heap.size #[.int .i64 Y, .int .i64 M, .int .i64 D, .int .i64 (numAt s 11 13), .int .i64 (numAt s 14 16), .int .i64 (numAt s 17 19)] rfl rfl 41 #[.int .i64 0, .int .i64 0, .int .i64 0, .int .i64 0, .int .i64 0, .int .i64 0] hX (by kernel_rfl) rfl (by simp [Value.oneCell']) ?_)
        have hR2 := hX.setRow #[.int .i64 Y, .int .i64 M, .int .i64 D, .int .i64 (numAt s 11 13), .int .i64 (numAt s 14 16), .int .i64 (numAt s 17 19)]
        exact bodyPost_ret (results_moment _ rfl _ _ _ _ _ _ _ _ _ _ rfl rfl hR2) rfl ⟨congrArg _ HN.out.symm, below_setRow b (Nat.le_refl _) _⟩
      · have HN := Lib.hid (HNE.out hk hs)
        generalize strU (momL Y M D (numAt s 11 13) (numAt s 14 16) (numAt s 17 19)) = A at hs ⊢
        have sn := str_ne hs
        go_wp2_with (refine wpList_store_row rfl 41 (.tmp 2) (.tmp 43) rfl w.heap.size #[.int .i64 0, .int .i64 0, .int .i64 0, .int .i64 0, .int .i64 0, .int .i64 0] rfl rfl 41 #[.int .i64 0, .int .i64 0, .int .i64 0, .int .i64 0, .int .i64 0, .int .i64 0] hX (by kernel_rfl) rfl (by simp [Value.oneCell']) ?_)
        have hR2 := hX.setRow #[.int .i64 0, .int .i64 0, .int .i64 0, .int .i64 0, .int .i64 0, .int .i64 0]
        exact bodyPost_ret (results_moment _ rfl _ _ _ _ _ _ _ _ _ _ rfl rfl hR2) rfl ⟨congrArg _ HN.out.symm, below_setRow b (Nat.le_refl _) _⟩
end Go.Proofs.YtgeocjodkkkiiaaDoor
