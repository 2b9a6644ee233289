/- The law CivilBack: its walk. -/
import Derived.Test.YtgeocjodkkkiiaaDoorCivUndo
namespace Go.Proofs.YtgeocjodkkkiiaaDoor
open Go.RowKit

theorem date_nsame (w : World) (a b c : Int) : (binOp .neq 23 (.agg #[.int .i64 a, .int .i64 b, .int .i64 c]) (.agg #[.int .i64 a, .int .i64 b, .int .i64 c])).run Tryd.prog w = .ok (.bool false) w := by
  rw [run_neq_struct, date_in w 9998]; simp
theorem date_nguard (w : World) (x y : Operand) (xs ys : Array Value) : (eqGuard .neq 23 x y (.agg xs) (.agg ys)).run Tryd.prog w = .ok () w := run_eqGuard_agg w .neq 23 x y xs ys (by kernel_rfl)
theorem mom_nsame (w : World) (a b c d e f : Int) : (binOp .neq 41 (.agg #[.int .i64 a, .int .i64 b, .int .i64 c, .int .i64 d, .int .i64 e, .int .i64 f]) (.agg #[.int .i64 a, .int .i64 b, .int .i64 c, .int .i64 d, .int .i64 e, .int .i64 f])).run Tryd.prog w = .ok (.bool false) w := by
  rw [run_neq_struct, moment_in w 9997]; simp
theorem mom_nguard (w : World) (x y : Operand) (xs ys : Array Value) : (eqGuard .neq 41 x y (.agg xs) (.agg ys)).run Tryd.prog w = .ok () w := run_eqGuard_agg w .neq 41 x y xs ys (by kernel_rfl)
theorem ins_at (t : Int) (y m d : Int) (hi : IsD (t / 86400) y m d) : insV y m d (t % 86400 / 3600) (t % 86400 / 60 % 60) (t % 60) = t ∧ insE y m d (t % 86400 / 3600) (t % 86400 / 60 % 60) (t % 60) = 0 := by
  have hk : okB y m d (t % 86400 / 3600) (t % 86400 / 60 % 60) (t % 60) = true := by
    rw [okB_iff]; refine ⟨hi.1, ?_, ?_, ?_, ?_, ?_, ?_⟩ <;> omega
  refine ⟨?_, by simp [insE, hk]⟩
  rw [insV, if_pos hk, secN, hi.2]
  omega

theorem par_yes (s : ByteArray) (h : parB s = true) : parV s = .tuple #[.agg #[.int .i64 (numAt s 0 4), .int .i64 (numAt s 5 7), .int .i64 (numAt s 8 10)], .int .i64 0] ∧ mayB (numAt s 0 4) (numAt s 5 7) (numAt s 8 10) = true ∧ strU (dateL (numAt s 0 4) (numAt s 5 7) (numAt s 8 10)) = s := by
  refine ⟨by rw [parV, if_pos h], ?_⟩
  simp only [parB, Bool.and_eq_true, decide_eq_true_eq] at h
  exact ⟨h.1.2, h.2⟩
theorem par_no (s : ByteArray) (h : parB s = false) : parV s = .tuple #[.agg #[.int .i64 0, .int .i64 0, .int .i64 0], .int .i64 60] := by
  rw [parV, if_neg (by simp [h])]
theorem may_zero : mayB 0 0 0 = false := by decide +kernel

set_option maxRecDepth 100000 in
set_option maxHeartbeats 40000000 in
theorem law_back (day t y m d h mi sec : Int) (s : ByteArray) (w : World) (T : Lens w) (hP : P10 w) : Calls Tryd.prog 8 #[.int .i64 day, .int .i64 t, .agg #[.int .i64 y, .int .i64 m, .int .i64 d, .int .i64 h, .int .i64 mi, .int .i64 sec], .string s] w fun e w' => e = .returned (.bool true) ∧ Below w.heap.size w w' := by
  have HT := Lib.hid T
  have HPP := Lib.hid hP
  have dg := date_nguard
  have mg := mom_nguard
  clear T hP
  have hM := Held.new w 41 #[.int .i64 y, .int .i64 m, .int .i64 d, .int .i64 h, .int .i64 mi, .int .i64 sec]
  have b := below_alloc (Below.refl w.heap.size w) (Obj.cells #[.int .i64 y, .int .i64 m, .int .i64 d, .int .i64 h, .int .i64 mi, .int .i64 sec] 41)
  go_in
  go_wp2_with fail
  refine (alive_any _ (HT.out.up b)).mono ?_
  rintro e w1 ⟨rfl, hb⟩
  have b := below_step b hb
  have hM := hM.below hb hM.lt
  clear hb
  by_cases hl : s.size ≤ 100
  case neg =>
    have g1 : decide ((100 : Int) < (s.size : Int)) = true := by simp; omega
    have g2 : (100 : Int) < (s.size : Int) := by omega
    go_wp2
    go_ret
    exact ⟨rfl, b⟩
  have g1 : decide ((100 : Int) < (s.size : Int)) = false := by simp; omega
  have g2 : ¬ (100 : Int) < (s.size : Int) := by omega
  go_wp2_with fail
  clear g1 g2
  by_cases hd : 0 ≤ day ∧ day ≤ 2932896
  · refine (of_in day hd.1 hd.2 _ (HT.out.up b)).mono ?_
    rintro e w2 ⟨⟨y1, m1, d1, hi, rfl⟩, hb⟩
    have b := below_step b hb
    have hM := hM.below hb hM.lt
    clear hb
    have HI := Lib.hid (show dayV y1 m1 d1 = day ∧ dayE y1 m1 d1 = 0 by simp [dayV, dayE, hi.1, hi.2])
    clear hi
    go_wp2_with fail
    have b := below_alloc b (Obj.cells #[.int .i64 y1, .int .i64 m1, .int .i64 d1] 23)
    have hM := hM.alloc (Obj.cells #[.int .i64 y1, .int .i64 m1, .int .i64 d1] 23)
    generalize w2.alloc (Obj.cells #[.int .i64 y1, .int .i64 m1, .int .i64 d1] 23) = w3 at hM b ⊢
    refine (day_own y1 m1 d1 _ (HT.out.up b)).mono ?_
    rintro e w4 ⟨rfl, hb⟩
    rw [HI.out.1, HI.out.2]
    have b := below_step b hb
    have hM := hM.below hb hM.lt
    clear hb
    clear HI
    have a0 := hM.cell 0
    have a1 := hM.cell 1
    have a2 := hM.cell 2
    simp only [List.getElem?_toArray, List.getElem?_cons_zero, List.getElem?_cons_succ] at a0 a1 a2
    go_wp2_with fail
    clear a0 a1 a2
    cases hm : mayB y m d with
    | true =>
      have HV := Lib.hid (show dayV y m d = numN y m d ∧ dayE y m d = 0 by simp [dayV, dayE, hm])
      have hn := numN_bd y m d hm
      have hI : IsD (numN y m d) y m d := ⟨hm, rfl⟩
      have HN := Lib.hid hI
      clear hI
      refine (day_own y m d _ (HT.out.up b)).mono ?_
      rintro e w5 ⟨rfl, hb⟩
      rw [HV.out.1, HV.out.2]
      have b := below_step b hb
      have hM := hM.below hb hM.lt
      clear hb
      clear HV
      go_wp2_with fail
      refine (of_in (numN y m d) hn.1 hn.2 _ (HT.out.up b)).mono ?_
      rintro e w6 ⟨⟨y1, m1, d1, hi, rfl⟩, hb⟩
      obtain ⟨e1, e2, e3⟩ := isD_one hi HN.out
      rw [e1, e2, e3]
      have b := below_step b hb
      have hM := hM.below hb hM.lt
      clear hb
      clear hi HN hn e1 e2 e3
      have dn := fun (w : World) => date_nsame w y m d
      have zm := hM.lt
      have a0 := hM.cell 0
      have a1 := hM.cell 1
      have a2 := hM.cell 2
      simp only [List.getElem?_toArray, List.getElem?_cons_zero, List.getElem?_cons_succ] at a0 a1 a2
      go_wp2_with fail
      clear a0 a1 a2
      clear dn zm
      have b := below_alloc b (Obj.cells #[.int .i64 y, .int .i64 m, .int .i64 d] 23)
      have hM := hM.alloc (Obj.cells #[.int .i64 y, .int .i64 m, .int .i64 d] 23)
      generalize w6.alloc (Obj.cells #[.int .i64 y, .int .i64 m, .int .i64 d] 23) = w7 at hM b ⊢
      by_cases ht : 0 ≤ t ∧ t < 253402300800
      · refine (at_in t ht.1 ht.2 _ (HT.out.up b)).mono ?_
        rintro e w8 ⟨⟨y1, m1, d1, hi, rfl⟩, hb⟩
        have b := below_step b hb
        have hM := hM.below hb hM.lt
        clear hb
        have HI := Lib.hid (ins_at t y1 m1 d1 hi)
        clear hi
        go_wp2_with fail
        have b := below_alloc b (Obj.cells #[.int .i64 y1, .int .i64 m1, .int .i64 d1, .int .i64 (t % 86400 / 3600), .int .i64 (t % 86400 / 60 % 60), .int .i64 (t % 60)] 41)
        have hM := hM.alloc (Obj.cells #[.int .i64 y1, .int .i64 m1, .int .i64 d1, .int .i64 (t % 86400 / 3600), .int .i64 (t % 86400 / 60 % 60), .int .i64 (t % 60)] 41)
        generalize w8.alloc (Obj.cells #[.int .i64 y1, .int .i64 m1, .int .i64 d1, .int .i64 (t % 86400 / 3600), .int .i64 (t % 86400 / 60 % 60), .int .i64 (t % 60)] 41) = w9 at hM b ⊢
        refine (instant_own y1 m1 d1 _ _ _ _ (HT.out.up b)).mono ?_
        rintro e w10 ⟨rfl, hb⟩
        rw [HI.out.1, HI.out.2]
        have b := below_step b hb
        have hM := hM.below hb hM.lt
        clear hb
        clear HI
        have a0 := hM.cell 0
        have a1 := hM.cell 1
        have a2 := hM.cell 2
        have a3 := hM.cell 3
        have a4 := hM.cell 4
        have a5 := hM.cell 5
        simp only [List.getElem?_toArray, List.getElem?_cons_zero, List.getElem?_cons_succ] at a0 a1 a2 a3 a4 a5
        go_wp2_with fail
        clear a0 a1 a2 a3 a4 a5
        cases hk : okB y m d h mi sec with
        | true =>
          refine (textat_yes y m d h mi sec _ (HT.out.up b) (tabIs_up HPP.out b) hk).mono ?_
          rintro e w11 ⟨rfl, hb⟩
          have b := below_step b hb
          have hM := hM.below hb hM.lt
          clear hb
          obtain ⟨hz, hv⟩ := atV_text y m d h mi sec hk
          have HZ := Lib.hid hz
          have HV := Lib.hid hv
          clear hz hv hk
          generalize strU (momL y m d h mi sec) = A at HZ HV ⊢
          go_wp2_with fail
          refine (parseat_own A HZ.out _ (HT.out.up b) (tabIs_up HPP.out b)).mono ?_
          rintro e w12 ⟨rfl, hb⟩
          rw [HV.out]
          have b := below_step b hb
          have hM := hM.below hb hM.lt
          clear hb
          clear HZ HV
          have dn := fun (w : World) => mom_nsame w y m d h mi sec
          have zm := hM.lt
          have a0 := hM.cell 0
          have a1 := hM.cell 1
          have a2 := hM.cell 2
          have a3 := hM.cell 3
          have a4 := hM.cell 4
          have a5 := hM.cell 5
          simp only [List.getElem?_toArray, List.getElem?_cons_zero, List.getElem?_cons_succ] at a0 a1 a2 a3 a4 a5
          go_wp2_with fail
          clear a0 a1 a2 a3 a4 a5
          clear dn zm
          have b := below_alloc b (Obj.cells #[.int .i64 y, .int .i64 m, .int .i64 d, .int .i64 h, .int .i64 mi, .int .i64 sec] 41)
          have hM := hM.alloc (Obj.cells #[.int .i64 y, .int .i64 m, .int .i64 d, .int .i64 h, .int .i64 mi, .int .i64 sec] 41)
          generalize w12.alloc (Obj.cells #[.int .i64 y, .int .i64 m, .int .i64 d, .int .i64 h, .int .i64 mi, .int .i64 sec] 41) = w13 at hM b ⊢
          cases hp : parB s with
          | true =>
            obtain ⟨hv, hy, hs⟩ := par_yes s hp
            have HV := Lib.hid hv
            have HS := Lib.hid hs
            have HY := Lib.hid hy
            clear hv hy hs hp
            refine (parse_own s _ (HT.out.up b) (tabIs_up HPP.out b)).mono ?_
            rintro e w14 ⟨rfl, hb⟩
            rw [HV.out]
            have b := below_step b hb
            clear hb HV hM
            generalize numAt s 0 4 = Y at HS HY ⊢
            generalize numAt s 5 7 = M at HS HY ⊢
            generalize numAt s 8 10 = D at HS HY ⊢
            go_wp2_with fail
            have b := below_alloc b (Obj.cells #[.int .i64 Y, .int .i64 M, .int .i64 D] 23)
            generalize w14.alloc (Obj.cells #[.int .i64 Y, .int .i64 M, .int .i64 D] 23) = w15 at b ⊢
            refine (text_yes Y M D _ (HT.out.up b) (tabIs_up HPP.out b) HY.out).mono ?_
            rintro e w16 ⟨rfl, hb⟩
            rw [HS.out]
            have b := below_step b hb
            clear hb
            go_wp2
            go_ret
            exact ⟨rfl, b⟩
          | false =>
            have HV := Lib.hid (par_no s hp)
            clear hp
            refine (parse_own s _ (HT.out.up b) (tabIs_up HPP.out b)).mono ?_
            rintro e w14 ⟨rfl, hb⟩
            rw [HV.out]
            have b := below_step b hb
            clear hb HV hM
            go_wp2_with fail
            have b := below_alloc b (Obj.cells #[.int .i64 0, .int .i64 0, .int .i64 0] 23)
            generalize w14.alloc (Obj.cells #[.int .i64 0, .int .i64 0, .int .i64 0] 23) = w15 at b ⊢
            refine (text_no 0 0 0 _ (HT.out.up b) may_zero).mono ?_
            rintro e w16 ⟨rfl, hb⟩
            have b := below_step b hb
            clear hb
            go_wp2
            go_ret
            exact ⟨rfl, b⟩
        | false =>
          refine (textat_no y m d h mi sec _ (HT.out.up b) hk).mono ?_
          rintro e w11 ⟨rfl, hb⟩
          have b := below_step b hb
          have hM := hM.below hb hM.lt
          clear hb
          clear hk
          go_wp2_with fail
          refine (at_short _ (by decide) _).mono ?_
          rintro e w12 ⟨rfl, hb⟩
          have b := below_step b hb
          have hM := hM.below hb hM.lt
          clear hb
          go_wp2_with fail
          have b := below_alloc b (Obj.cells #[.int .i64 0, .int .i64 0, .int .i64 0, .int .i64 0, .int .i64 0, .int .i64 0] 41)
          have hM := hM.alloc (Obj.cells #[.int .i64 0, .int .i64 0, .int .i64 0, .int .i64 0, .int .i64 0, .int .i64 0] 41)
          generalize w12.alloc (Obj.cells #[.int .i64 0, .int .i64 0, .int .i64 0, .int .i64 0, .int .i64 0, .int .i64 0] 41) = w13 at hM b ⊢
          cases hp : parB s with
          | true =>
            obtain ⟨hv, hy, hs⟩ := par_yes s hp
            have HV := Lib.hid hv
            have HS := Lib.hid hs
            have HY := Lib.hid hy
            clear hv hy hs hp
            refine (parse_own s _ (HT.out.up b) (tabIs_up HPP.out b)).mono ?_
            rintro e w14 ⟨rfl, hb⟩
            rw [HV.out]
            have b := below_step b hb
            clear hb HV hM
            generalize numAt s 0 4 = Y at HS HY ⊢
            generalize numAt s 5 7 = M at HS HY ⊢
            generalize numAt s 8 10 = D at HS HY ⊢
            go_wp2_with fail
            have b := below_alloc b (Obj.cells #[.int .i64 Y, .int .i64 M, .int .i64 D] 23)
            generalize w14.alloc (Obj.cells #[.int .i64 Y, .int .i64 M, .int .i64 D] 23) = w15 at b ⊢
            refine (text_yes Y M D _ (HT.out.up b) (tabIs_up HPP.out b) HY.out).mono ?_
            rintro e w16 ⟨rfl, hb⟩
            rw [HS.out]
            have b := below_step b hb
            clear hb
            go_wp2
            go_ret
            exact ⟨rfl, b⟩
          | false =>
            have HV := Lib.hid (par_no s hp)
            clear hp
            refine (parse_own s _ (HT.out.up b) (tabIs_up HPP.out b)).mono ?_
            rintro e w14 ⟨rfl, hb⟩
            rw [HV.out]
            have b := below_step b hb
            clear hb HV hM
            go_wp2_with fail
            have b := below_alloc b (Obj.cells #[.int .i64 0, .int .i64 0, .int .i64 0] 23)
            generalize w14.alloc (Obj.cells #[.int .i64 0, .int .i64 0, .int .i64 0] 23) = w15 at b ⊢
            refine (text_no 0 0 0 _ (HT.out.up b) may_zero).mono ?_
            rintro e w16 ⟨rfl, hb⟩
            have b := below_step b hb
            clear hb
            go_wp2
            go_ret
            exact ⟨rfl, b⟩
      · refine (at_no t (by omega) _).mono ?_
        rintro e w8 ⟨rfl, hb⟩
        have b := below_step b hb
        have hM := hM.below hb hM.lt
        clear hb
        go_wp2_with fail
        have b := below_alloc b (Obj.cells #[.int .i64 0, .int .i64 0, .int .i64 0, .int .i64 0, .int .i64 0, .int .i64 0] 41)
        have hM := hM.alloc (Obj.cells #[.int .i64 0, .int .i64 0, .int .i64 0, .int .i64 0, .int .i64 0, .int .i64 0] 41)
        generalize w8.alloc (Obj.cells #[.int .i64 0, .int .i64 0, .int .i64 0, .int .i64 0, .int .i64 0, .int .i64 0] 41) = w9 at hM b ⊢
        refine (instant_own 0 0 0 0 0 0 _ (HT.out.up b)).mono ?_
        rintro e w10 ⟨rfl, hb⟩
        have b := below_step b hb
        have hM := hM.below hb hM.lt
        clear hb
        have a0 := hM.cell 0
        have a1 := hM.cell 1
        have a2 := hM.cell 2
        have a3 := hM.cell 3
        have a4 := hM.cell 4
        have a5 := hM.cell 5
        simp only [List.getElem?_toArray, List.getElem?_cons_zero, List.getElem?_cons_succ] at a0 a1 a2 a3 a4 a5
        go_wp2_with fail
        clear a0 a1 a2 a3 a4 a5
        cases hk : okB y m d h mi sec with
        | true =>
          refine (textat_yes y m d h mi sec _ (HT.out.up b) (tabIs_up HPP.out b) hk).mono ?_
          rintro e w11 ⟨rfl, hb⟩
          have b := below_step b hb
          have hM := hM.below hb hM.lt
          clear hb
          obtain ⟨hz, hv⟩ := atV_text y m d h mi sec hk
          have HZ := Lib.hid hz
          have HV := Lib.hid hv
          clear hz hv hk
          generalize strU (momL y m d h mi sec) = A at HZ HV ⊢
          go_wp2_with fail
          refine (parseat_own A HZ.out _ (HT.out.up b) (tabIs_up HPP.out b)).mono ?_
          rintro e w12 ⟨rfl, hb⟩
          rw [HV.out]
          have b := below_step b hb
          have hM := hM.below hb hM.lt
          clear hb
          clear HZ HV
          have dn := fun (w : World) => mom_nsame w y m d h mi sec
          have zm := hM.lt
          have a0 := hM.cell 0
          have a1 := hM.cell 1
          have a2 := hM.cell 2
          have a3 := hM.cell 3
          have a4 := hM.cell 4
          have a5 := hM.cell 5
          simp only [List.getElem?_toArray, List.getElem?_cons_zero, List.getElem?_cons_succ] at a0 a1 a2 a3 a4 a5
          go_wp2_with fail
          clear a0 a1 a2 a3 a4 a5
          clear dn zm
          have b := below_alloc b (Obj.cells #[.int .i64 y, .int .i64 m, .int .i64 d, .int .i64 h, .int .i64 mi, .int .i64 sec] 41)
          have hM := hM.alloc (Obj.cells #[.int .i64 y, .int .i64 m, .int .i64 d, .int .i64 h, .int .i64 mi, .int .i64 sec] 41)
          generalize w12.alloc (Obj.cells #[.int .i64 y, .int .i64 m, .int .i64 d, .int .i64 h, .int .i64 mi, .int .i64 sec] 41) = w13 at hM b ⊢
          cases hp : parB s with
          | true =>
            obtain ⟨hv, hy, hs⟩ := par_yes s hp
            have HV := Lib.hid hv
            have HS := Lib.hid hs
            have HY := Lib.hid hy
            clear hv hy hs hp
            refine (parse_own s _ (HT.out.up b) (tabIs_up HPP.out b)).mono ?_
            rintro e w14 ⟨rfl, hb⟩
            rw [HV.out]
            have b := below_step b hb
            clear hb HV hM
            generalize numAt s 0 4 = Y at HS HY ⊢
            generalize numAt s 5 7 = M at HS HY ⊢
            generalize numAt s 8 10 = D at HS HY ⊢
            go_wp2_with fail
            have b := below_alloc b (Obj.cells #[.int .i64 Y, .int .i64 M, .int .i64 D] 23)
            generalize w14.alloc (Obj.cells #[.int .i64 Y, .int .i64 M, .int .i64 D] 23) = w15 at b ⊢
            refine (text_yes Y M D _ (HT.out.up b) (tabIs_up HPP.out b) HY.out).mono ?_
            rintro e w16 ⟨rfl, hb⟩
            rw [HS.out]
            have b := below_step b hb
            clear hb
            go_wp2
            go_ret
            exact ⟨rfl, b⟩
          | false =>
            have HV := Lib.hid (par_no s hp)
            clear hp
            refine (parse_own s _ (HT.out.up b) (tabIs_up HPP.out b)).mono ?_
            rintro e w14 ⟨rfl, hb⟩
            rw [HV.out]
            have b := below_step b hb
            clear hb HV hM
            go_wp2_with fail
            have b := below_alloc b (Obj.cells #[.int .i64 0, .int .i64 0, .int .i64 0] 23)
            generalize w14.alloc (Obj.cells #[.int .i64 0, .int .i64 0, .int .i64 0] 23) = w15 at b ⊢
            refine (text_no 0 0 0 _ (HT.out.up b) may_zero).mono ?_
            rintro e w16 ⟨rfl, hb⟩
            have b := below_step b hb
            clear hb
            go_wp2
            go_ret
            exact ⟨rfl, b⟩
        | false =>
          refine (textat_no y m d h mi sec _ (HT.out.up b) hk).mono ?_
          rintro e w11 ⟨rfl, hb⟩
          have b := below_step b hb
          have hM := hM.below hb hM.lt
          clear hb
          clear hk
          go_wp2_with fail
          refine (at_short _ (by decide) _).mono ?_
          rintro e w12 ⟨rfl, hb⟩
          have b := below_step b hb
          have hM := hM.below hb hM.lt
          clear hb
          go_wp2_with fail
          have b := below_alloc b (Obj.cells #[.int .i64 0, .int .i64 0, .int .i64 0, .int .i64 0, .int .i64 0, .int .i64 0] 41)
          have hM := hM.alloc (Obj.cells #[.int .i64 0, .int .i64 0, .int .i64 0, .int .i64 0, .int .i64 0, .int .i64 0] 41)
          generalize w12.alloc (Obj.cells #[.int .i64 0, .int .i64 0, .int .i64 0, .int .i64 0, .int .i64 0, .int .i64 0] 41) = w13 at hM b ⊢
          cases hp : parB s with
          | true =>
            obtain ⟨hv, hy, hs⟩ := par_yes s hp
            have HV := Lib.hid hv
            have HS := Lib.hid hs
            have HY := Lib.hid hy
            clear hv hy hs hp
            refine (parse_own s _ (HT.out.up b) (tabIs_up HPP.out b)).mono ?_
            rintro e w14 ⟨rfl, hb⟩
            rw [HV.out]
            have b := below_step b hb
            clear hb HV hM
            generalize numAt s 0 4 = Y at HS HY ⊢
            generalize numAt s 5 7 = M at HS HY ⊢
            generalize numAt s 8 10 = D at HS HY ⊢
            go_wp2_with fail
            have b := below_alloc b (Obj.cells #[.int .i64 Y, .int .i64 M, .int .i64 D] 23)
            generalize w14.alloc (Obj.cells #[.int .i64 Y, .int .i64 M, .int .i64 D] 23) = w15 at b ⊢
            refine (text_yes Y M D _ (HT.out.up b) (tabIs_up HPP.out b) HY.out).mono ?_
            rintro e w16 ⟨rfl, hb⟩
            rw [HS.out]
            have b := below_step b hb
            clear hb
            go_wp2
            go_ret
            exact ⟨rfl, b⟩
          | false =>
            have HV := Lib.hid (par_no s hp)
            clear hp
            refine (parse_own s _ (HT.out.up b) (tabIs_up HPP.out b)).mono ?_
            rintro e w14 ⟨rfl, hb⟩
            rw [HV.out]
            have b := below_step b hb
            clear hb HV hM
            go_wp2_with fail
            have b := below_alloc b (Obj.cells #[.int .i64 0, .int .i64 0, .int .i64 0] 23)
            generalize w14.alloc (Obj.cells #[.int .i64 0, .int .i64 0, .int .i64 0] 23) = w15 at b ⊢
            refine (text_no 0 0 0 _ (HT.out.up b) may_zero).mono ?_
            rintro e w16 ⟨rfl, hb⟩
            have b := below_step b hb
            clear hb
            go_wp2
            go_ret
            exact ⟨rfl, b⟩
    | false =>
      have HV := Lib.hid (show dayV y m d = 0 ∧ dayE y m d = 60 by simp [dayV, dayE, hm])
      refine (day_own y m d _ (HT.out.up b)).mono ?_
      rintro e w5 ⟨rfl, hb⟩
      rw [HV.out.1, HV.out.2]
      have b := below_step b hb
      have hM := hM.below hb hM.lt
      clear hb
      clear HV
      go_wp2_with fail
      refine (of_in 0 (by omega) (by omega) _ (HT.out.up b)).mono ?_
      rintro e w6 ⟨⟨y1, m1, d1, hi, rfl⟩, hb⟩
      have b := below_step b hb
      have hM := hM.below hb hM.lt
      clear hb
      clear hi
      go_wp2_with fail
      have b := below_alloc b (Obj.cells #[.int .i64 y1, .int .i64 m1, .int .i64 d1] 23)
      have hM := hM.alloc (Obj.cells #[.int .i64 y1, .int .i64 m1, .int .i64 d1] 23)
      generalize w6.alloc (Obj.cells #[.int .i64 y1, .int .i64 m1, .int .i64 d1] 23) = w7 at hM b ⊢
      by_cases ht : 0 ≤ t ∧ t < 253402300800
      · refine (at_in t ht.1 ht.2 _ (HT.out.up b)).mono ?_
        rintro e w8 ⟨⟨y1, m1, d1, hi, rfl⟩, hb⟩
        have b := below_step b hb
        have hM := hM.below hb hM.lt
        clear hb
        have HI := Lib.hid (ins_at t y1 m1 d1 hi)
        clear hi
        go_wp2_with fail
        have b := below_alloc b (Obj.cells #[.int .i64 y1, .int .i64 m1, .int .i64 d1, .int .i64 (t % 86400 / 3600), .int .i64 (t % 86400 / 60 % 60), .int .i64 (t % 60)] 41)
        have hM := hM.alloc (Obj.cells #[.int .i64 y1, .int .i64 m1, .int .i64 d1, .int .i64 (t % 86400 / 3600), .int .i64 (t % 86400 / 60 % 60), .int .i64 (t % 60)] 41)
        generalize w8.alloc (Obj.cells #[.int .i64 y1, .int .i64 m1, .int .i64 d1, .int .i64 (t % 86400 / 3600), .int .i64 (t % 86400 / 60 % 60), .int .i64 (t % 60)] 41) = w9 at hM b ⊢
        refine (instant_own y1 m1 d1 _ _ _ _ (HT.out.up b)).mono ?_
        rintro e w10 ⟨rfl, hb⟩
        rw [HI.out.1, HI.out.2]
        have b := below_step b hb
        have hM := hM.below hb hM.lt
        clear hb
        clear HI
        have a0 := hM.cell 0
        have a1 := hM.cell 1
        have a2 := hM.cell 2
        have a3 := hM.cell 3
        have a4 := hM.cell 4
        have a5 := hM.cell 5
        simp only [List.getElem?_toArray, List.getElem?_cons_zero, List.getElem?_cons_succ] at a0 a1 a2 a3 a4 a5
        go_wp2_with fail
        clear a0 a1 a2 a3 a4 a5
        cases hk : okB y m d h mi sec with
        | true =>
          refine (textat_yes y m d h mi sec _ (HT.out.up b) (tabIs_up HPP.out b) hk).mono ?_
          rintro e w11 ⟨rfl, hb⟩
          have b := below_step b hb
          have hM := hM.below hb hM.lt
          clear hb
          obtain ⟨hz, hv⟩ := atV_text y m d h mi sec hk
          have HZ := Lib.hid hz
          have HV := Lib.hid hv
          clear hz hv hk
          generalize strU (momL y m d h mi sec) = A at HZ HV ⊢
          go_wp2_with fail
          refine (parseat_own A HZ.out _ (HT.out.up b) (tabIs_up HPP.out b)).mono ?_
          rintro e w12 ⟨rfl, hb⟩
          rw [HV.out]
          have b := below_step b hb
          have hM := hM.below hb hM.lt
          clear hb
          clear HZ HV
          have dn := fun (w : World) => mom_nsame w y m d h mi sec
          have zm := hM.lt
          have a0 := hM.cell 0
          have a1 := hM.cell 1
          have a2 := hM.cell 2
          have a3 := hM.cell 3
          have a4 := hM.cell 4
          have a5 := hM.cell 5
          simp only [List.getElem?_toArray, List.getElem?_cons_zero, List.getElem?_cons_succ] at a0 a1 a2 a3 a4 a5
          go_wp2_with fail
          clear a0 a1 a2 a3 a4 a5
          clear dn zm
          have b := below_alloc b (Obj.cells #[.int .i64 y, .int .i64 m, .int .i64 d, .int .i64 h, .int .i64 mi, .int .i64 sec] 41)
          have hM := hM.alloc (Obj.cells #[.int .i64 y, .int .i64 m, .int .i64 d, .int .i64 h, .int .i64 mi, .int .i64 sec] 41)
          generalize w12.alloc (Obj.cells #[.int .i64 y, .int .i64 m, .int .i64 d, .int .i64 h, .int .i64 mi, .int .i64 sec] 41) = w13 at hM b ⊢
          cases hp : parB s with
          | true =>
            obtain ⟨hv, hy, hs⟩ := par_yes s hp
            have HV := Lib.hid hv
            have HS := Lib.hid hs
            have HY := Lib.hid hy
            clear hv hy hs hp
            refine (parse_own s _ (HT.out.up b) (tabIs_up HPP.out b)).mono ?_
            rintro e w14 ⟨rfl, hb⟩
            rw [HV.out]
            have b := below_step b hb
            clear hb HV hM
            generalize numAt s 0 4 = Y at HS HY ⊢
            generalize numAt s 5 7 = M at HS HY ⊢
            generalize numAt s 8 10 = D at HS HY ⊢
            go_wp2_with fail
            have b := below_alloc b (Obj.cells #[.int .i64 Y, .int .i64 M, .int .i64 D] 23)
            generalize w14.alloc (Obj.cells #[.int .i64 Y, .int .i64 M, .int .i64 D] 23) = w15 at b ⊢
            refine (text_yes Y M D _ (HT.out.up b) (tabIs_up HPP.out b) HY.out).mono ?_
            rintro e w16 ⟨rfl, hb⟩
            rw [HS.out]
            have b := below_step b hb
            clear hb
            go_wp2
            go_ret
            exact ⟨rfl, b⟩
          | false =>
            have HV := Lib.hid (par_no s hp)
            clear hp
            refine (parse_own s _ (HT.out.up b) (tabIs_up HPP.out b)).mono ?_
            rintro e w14 ⟨rfl, hb⟩
            rw [HV.out]
            have b := below_step b hb
            clear hb HV hM
            go_wp2_with fail
            have b := below_alloc b (Obj.cells #[.int .i64 0, .int .i64 0, .int .i64 0] 23)
            generalize w14.alloc (Obj.cells #[.int .i64 0, .int .i64 0, .int .i64 0] 23) = w15 at b ⊢
            refine (text_no 0 0 0 _ (HT.out.up b) may_zero).mono ?_
            rintro e w16 ⟨rfl, hb⟩
            have b := below_step b hb
            clear hb
            go_wp2
            go_ret
            exact ⟨rfl, b⟩
        | false =>
          refine (textat_no y m d h mi sec _ (HT.out.up b) hk).mono ?_
          rintro e w11 ⟨rfl, hb⟩
          have b := below_step b hb
          have hM := hM.below hb hM.lt
          clear hb
          clear hk
          go_wp2_with fail
          refine (at_short _ (by decide) _).mono ?_
          rintro e w12 ⟨rfl, hb⟩
          have b := below_step b hb
          have hM := hM.below hb hM.lt
          clear hb
          go_wp2_with fail
          have b := below_alloc b (Obj.cells #[.int .i64 0, .int .i64 0, .int .i64 0, .int .i64 0, .int .i64 0, .int .i64 0] 41)
          have hM := hM.alloc (Obj.cells #[.int .i64 0, .int .i64 0, .int .i64 0, .int .i64 0, .int .i64 0, .int .i64 0] 41)
          generalize w12.alloc (Obj.cells #[.int .i64 0, .int .i64 0, .int .i64 0, .int .i64 0, .int .i64 0, .int .i64 0] 41) = w13 at hM b ⊢
          cases hp : parB s with
          | true =>
            obtain ⟨hv, hy, hs⟩ := par_yes s hp
            have HV := Lib.hid hv
            have HS := Lib.hid hs
            have HY := Lib.hid hy
            clear hv hy hs hp
            refine (parse_own s _ (HT.out.up b) (tabIs_up HPP.out b)).mono ?_
            rintro e w14 ⟨rfl, hb⟩
            rw [HV.out]
            have b := below_step b hb
            clear hb HV hM
            generalize numAt s 0 4 = Y at HS HY ⊢
            generalize numAt s 5 7 = M at HS HY ⊢
            generalize numAt s 8 10 = D at HS HY ⊢
            go_wp2_with fail
            have b := below_alloc b (Obj.cells #[.int .i64 Y, .int .i64 M, .int .i64 D] 23)
            generalize w14.alloc (Obj.cells #[.int .i64 Y, .int .i64 M, .int .i64 D] 23) = w15 at b ⊢
            refine (text_yes Y M D _ (HT.out.up b) (tabIs_up HPP.out b) HY.out).mono ?_
            rintro e w16 ⟨rfl, hb⟩
            rw [HS.out]
            have b := below_step b hb
            clear hb
            go_wp2
            go_ret
            exact ⟨rfl, b⟩
          | false =>
            have HV := Lib.hid (par_no s hp)
            clear hp
            refine (parse_own s _ (HT.out.up b) (tabIs_up HPP.out b)).mono ?_
            rintro e w14 ⟨rfl, hb⟩
            rw [HV.out]
            have b := below_step b hb
            clear hb HV hM
            go_wp2_with fail
            have b := below_alloc b (Obj.cells #[.int .i64 0, .int .i64 0, .int .i64 0] 23)
            generalize w14.alloc (Obj.cells #[.int .i64 0, .int .i64 0, .int .i64 0] 23) = w15 at b ⊢
            refine (text_no 0 0 0 _ (HT.out.up b) may_zero).mono ?_
            rintro e w16 ⟨rfl, hb⟩
            have b := below_step b hb
            clear hb
            go_wp2
            go_ret
            exact ⟨rfl, b⟩
      · refine (at_no t (by omega) _).mono ?_
        rintro e w8 ⟨rfl, hb⟩
        have b := below_step b hb
        have hM := hM.below hb hM.lt
        clear hb
        go_wp2_with fail
        have b := below_alloc b (Obj.cells #[.int .i64 0, .int .i64 0, .int .i64 0, .int .i64 0, .int .i64 0, .int .i64 0] 41)
        have hM := hM.alloc (Obj.cells #[.int .i64 0, .int .i64 0, .int .i64 0, .int .i64 0, .int .i64 0, .int .i64 0] 41)
        generalize w8.alloc (Obj.cells #[.int .i64 0, .int .i64 0, .int .i64 0, .int .i64 0, .int .i64 0, .int .i64 0] 41) = w9 at hM b ⊢
        refine (instant_own 0 0 0 0 0 0 _ (HT.out.up b)).mono ?_
        rintro e w10 ⟨rfl, hb⟩
        have b := below_step b hb
        have hM := hM.below hb hM.lt
        clear hb
        have a0 := hM.cell 0
        have a1 := hM.cell 1
        have a2 := hM.cell 2
        have a3 := hM.cell 3
        have a4 := hM.cell 4
        have a5 := hM.cell 5
        simp only [List.getElem?_toArray, List.getElem?_cons_zero, List.getElem?_cons_succ] at a0 a1 a2 a3 a4 a5
        go_wp2_with fail
        clear a0 a1 a2 a3 a4 a5
        cases hk : okB y m d h mi sec with
        | true =>
          refine (textat_yes y m d h mi sec _ (HT.out.up b) (tabIs_up HPP.out b) hk).mono ?_
          rintro e w11 ⟨rfl, hb⟩
          have b := below_step b hb
          have hM := hM.below hb hM.lt
          clear hb
          obtain ⟨hz, hv⟩ := atV_text y m d h mi sec hk
          have HZ := Lib.hid hz
          have HV := Lib.hid hv
          clear hz hv hk
          generalize strU (momL y m d h mi sec) = A at HZ HV ⊢
          go_wp2_with fail
          refine (parseat_own A HZ.out _ (HT.out.up b) (tabIs_up HPP.out b)).mono ?_
          rintro e w12 ⟨rfl, hb⟩
          rw [HV.out]
          have b := below_step b hb
          have hM := hM.below hb hM.lt
          clear hb
          clear HZ HV
          have dn := fun (w : World) => mom_nsame w y m d h mi sec
          have zm := hM.lt
          have a0 := hM.cell 0
          have a1 := hM.cell 1
          have a2 := hM.cell 2
          have a3 := hM.cell 3
          have a4 := hM.cell 4
          have a5 := hM.cell 5
          simp only [List.getElem?_toArray, List.getElem?_cons_zero, List.getElem?_cons_succ] at a0 a1 a2 a3 a4 a5
          go_wp2_with fail
          clear a0 a1 a2 a3 a4 a5
          clear dn zm
          have b := below_alloc b (Obj.cells #[.int .i64 y, .int .i64 m, .int .i64 d, .int .i64 h, .int .i64 mi, .int .i64 sec] 41)
          have hM := hM.alloc (Obj.cells #[.int .i64 y, .int .i64 m, .int .i64 d, .int .i64 h, .int .i64 mi, .int .i64 sec] 41)
          generalize w12.alloc (Obj.cells #[.int .i64 y, .int .i64 m, .int .i64 d, .int .i64 h, .int .i64 mi, .int .i64 sec] 41) = w13 at hM b ⊢
          cases hp : parB s with
          | true =>
            obtain ⟨hv, hy, hs⟩ := par_yes s hp
            have HV := Lib.hid hv
            have HS := Lib.hid hs
            have HY := Lib.hid hy
            clear hv hy hs hp
            refine (parse_own s _ (HT.out.up b) (tabIs_up HPP.out b)).mono ?_
            rintro e w14 ⟨rfl, hb⟩
            rw [HV.out]
            have b := below_step b hb
            clear hb HV hM
            generalize numAt s 0 4 = Y at HS HY ⊢
            generalize numAt s 5 7 = M at HS HY ⊢
            generalize numAt s 8 10 = D at HS HY ⊢
            go_wp2_with fail
            have b := below_alloc b (Obj.cells #[.int .i64 Y, .int .i64 M, .int .i64 D] 23)
            generalize w14.alloc (Obj.cells #[.int .i64 Y, .int .i64 M, .int .i64 D] 23) = w15 at b ⊢
            refine (text_yes Y M D _ (HT.out.up b) (tabIs_up HPP.out b) HY.out).mono ?_
            rintro e w16 ⟨rfl, hb⟩
            rw [HS.out]
            have b := below_step b hb
            clear hb
            go_wp2
            go_ret
            exact ⟨rfl, b⟩
          | false =>
            have HV := Lib.hid (par_no s hp)
            clear hp
            refine (parse_own s _ (HT.out.up b) (tabIs_up HPP.out b)).mono ?_
            rintro e w14 ⟨rfl, hb⟩
            rw [HV.out]
            have b := below_step b hb
            clear hb HV hM
            go_wp2_with fail
            have b := below_alloc b (Obj.cells #[.int .i64 0, .int .i64 0, .int .i64 0] 23)
            generalize w14.alloc (Obj.cells #[.int .i64 0, .int .i64 0, .int .i64 0] 23) = w15 at b ⊢
            refine (text_no 0 0 0 _ (HT.out.up b) may_zero).mono ?_
            rintro e w16 ⟨rfl, hb⟩
            have b := below_step b hb
            clear hb
            go_wp2
            go_ret
            exact ⟨rfl, b⟩
        | false =>
          refine (textat_no y m d h mi sec _ (HT.out.up b) hk).mono ?_
          rintro e w11 ⟨rfl, hb⟩
          have b := below_step b hb
          have hM := hM.below hb hM.lt
          clear hb
          clear hk
          go_wp2_with fail
          refine (at_short _ (by decide) _).mono ?_
          rintro e w12 ⟨rfl, hb⟩
          have b := below_step b hb
          have hM := hM.below hb hM.lt
          clear hb
          go_wp2_with fail
          have b := below_alloc b (Obj.cells #[.int .i64 0, .int .i64 0, .int .i64 0, .int .i64 0, .int .i64 0, .int .i64 0] 41)
          have hM := hM.alloc (Obj.cells #[.int .i64 0, .int .i64 0, .int .i64 0, .int .i64 0, .int .i64 0, .int .i64 0] 41)
          generalize w12.alloc (Obj.cells #[.int .i64 0, .int .i64 0, .int .i64 0, .int .i64 0, .int .i64 0, .int .i64 0] 41) = w13 at hM b ⊢
          cases hp : parB s with
          | true =>
            obtain ⟨hv, hy, hs⟩ := par_yes s hp
            have HV := Lib.hid hv
            have HS := Lib.hid hs
            have HY := Lib.hid hy
            clear hv hy hs hp
            refine (parse_own s _ (HT.out.up b) (tabIs_up HPP.out b)).mono ?_
            rintro e w14 ⟨rfl, hb⟩
            rw [HV.out]
            have b := below_step b hb
            clear hb HV hM
            generalize numAt s 0 4 = Y at HS HY ⊢
            generalize numAt s 5 7 = M at HS HY ⊢
            generalize numAt s 8 10 = D at HS HY ⊢
            go_wp2_with fail
            have b := below_alloc b (Obj.cells #[.int .i64 Y, .int .i64 M, .int .i64 D] 23)
            generalize w14.alloc (Obj.cells #[.int .i64 Y, .int .i64 M, .int .i64 D] 23) = w15 at b ⊢
            refine (text_yes Y M D _ (HT.out.up b) (tabIs_up HPP.out b) HY.out).mono ?_
            rintro e w16 ⟨rfl, hb⟩
            rw [HS.out]
            have b := below_step b hb
            clear hb
            go_wp2
            go_ret
            exact ⟨rfl, b⟩
          | false =>
            have HV := Lib.hid (par_no s hp)
            clear hp
            refine (parse_own s _ (HT.out.up b) (tabIs_up HPP.out b)).mono ?_
            rintro e w14 ⟨rfl, hb⟩
            rw [HV.out]
            have b := below_step b hb
            clear hb HV hM
            go_wp2_with fail
            have b := below_alloc b (Obj.cells #[.int .i64 0, .int .i64 0, .int .i64 0] 23)
            generalize w14.alloc (Obj.cells #[.int .i64 0, .int .i64 0, .int .i64 0] 23) = w15 at b ⊢
            refine (text_no 0 0 0 _ (HT.out.up b) may_zero).mono ?_
            rintro e w16 ⟨rfl, hb⟩
            have b := below_step b hb
            clear hb
            go_wp2
            go_ret
            exact ⟨rfl, b⟩
  · refine (of_no day (by omega) _).mono ?_
    rintro e w2 ⟨rfl, hb⟩
    have b := below_step b hb
    have hM := hM.below hb hM.lt
    clear hb
    go_wp2_with fail
    have b := below_alloc b (Obj.cells #[.int .i64 0, .int .i64 0, .int .i64 0] 23)
    have hM := hM.alloc (Obj.cells #[.int .i64 0, .int .i64 0, .int .i64 0] 23)
    generalize w2.alloc (Obj.cells #[.int .i64 0, .int .i64 0, .int .i64 0] 23) = w3 at hM b ⊢
    refine (day_own 0 0 0 _ (HT.out.up b)).mono ?_
    rintro e w4 ⟨rfl, hb⟩
    have b := below_step b hb
    have hM := hM.below hb hM.lt
    clear hb
    have a0 := hM.cell 0
    have a1 := hM.cell 1
    have a2 := hM.cell 2
    simp only [List.getElem?_toArray, List.getElem?_cons_zero, List.getElem?_cons_succ] at a0 a1 a2
    go_wp2_with fail
    clear a0 a1 a2
    cases hm : mayB y m d with
    | true =>
      have HV := Lib.hid (show dayV y m d = numN y m d ∧ dayE y m d = 0 by simp [dayV, dayE, hm])
      have hn := numN_bd y m d hm
      have hI : IsD (numN y m d) y m d := ⟨hm, rfl⟩
      have HN := Lib.hid hI
      clear hI
      refine (day_own y m d _ (HT.out.up b)).mono ?_
      rintro e w5 ⟨rfl, hb⟩
      rw [HV.out.1, HV.out.2]
      have b := below_step b hb
      have hM := hM.below hb hM.lt
      clear hb
      clear HV
      go_wp2_with fail
      refine (of_in (numN y m d) hn.1 hn.2 _ (HT.out.up b)).mono ?_
      rintro e w6 ⟨⟨y1, m1, d1, hi, rfl⟩, hb⟩
      obtain ⟨e1, e2, e3⟩ := isD_one hi HN.out
      rw [e1, e2, e3]
      have b := below_step b hb
      have hM := hM.below hb hM.lt
      clear hb
      clear hi HN hn e1 e2 e3
      have dn := fun (w : World) => date_nsame w y m d
      have zm := hM.lt
      have a0 := hM.cell 0
      have a1 := hM.cell 1
      have a2 := hM.cell 2
      simp only [List.getElem?_toArray, List.getElem?_cons_zero, List.getElem?_cons_succ] at a0 a1 a2
      go_wp2_with fail
      clear a0 a1 a2
      clear dn zm
      have b := below_alloc b (Obj.cells #[.int .i64 y, .int .i64 m, .int .i64 d] 23)
      have hM := hM.alloc (Obj.cells #[.int .i64 y, .int .i64 m, .int .i64 d] 23)
      generalize w6.alloc (Obj.cells #[.int .i64 y, .int .i64 m, .int .i64 d] 23) = w7 at hM b ⊢
      by_cases ht : 0 ≤ t ∧ t < 253402300800
      · refine (at_in t ht.1 ht.2 _ (HT.out.up b)).mono ?_
        rintro e w8 ⟨⟨y1, m1, d1, hi, rfl⟩, hb⟩
        have b := below_step b hb
        have hM := hM.below hb hM.lt
        clear hb
        have HI := Lib.hid (ins_at t y1 m1 d1 hi)
        clear hi
        go_wp2_with fail
        have b := below_alloc b (Obj.cells #[.int .i64 y1, .int .i64 m1, .int .i64 d1, .int .i64 (t % 86400 / 3600), .int .i64 (t % 86400 / 60 % 60), .int .i64 (t % 60)] 41)
        have hM := hM.alloc (Obj.cells #[.int .i64 y1, .int .i64 m1, .int .i64 d1, .int .i64 (t % 86400 / 3600), .int .i64 (t % 86400 / 60 % 60), .int .i64 (t % 60)] 41)
        generalize w8.alloc (Obj.cells #[.int .i64 y1, .int .i64 m1, .int .i64 d1, .int .i64 (t % 86400 / 3600), .int .i64 (t % 86400 / 60 % 60), .int .i64 (t % 60)] 41) = w9 at hM b ⊢
        refine (instant_own y1 m1 d1 _ _ _ _ (HT.out.up b)).mono ?_
        rintro e w10 ⟨rfl, hb⟩
        rw [HI.out.1, HI.out.2]
        have b := below_step b hb
        have hM := hM.below hb hM.lt
        clear hb
        clear HI
        have a0 := hM.cell 0
        have a1 := hM.cell 1
        have a2 := hM.cell 2
        have a3 := hM.cell 3
        have a4 := hM.cell 4
        have a5 := hM.cell 5
        simp only [List.getElem?_toArray, List.getElem?_cons_zero, List.getElem?_cons_succ] at a0 a1 a2 a3 a4 a5
        go_wp2_with fail
        clear a0 a1 a2 a3 a4 a5
        cases hk : okB y m d h mi sec with
        | true =>
          refine (textat_yes y m d h mi sec _ (HT.out.up b) (tabIs_up HPP.out b) hk).mono ?_
          rintro e w11 ⟨rfl, hb⟩
          have b := below_step b hb
          have hM := hM.below hb hM.lt
          clear hb
          obtain ⟨hz, hv⟩ := atV_text y m d h mi sec hk
          have HZ := Lib.hid hz
          have HV := Lib.hid hv
          clear hz hv hk
          generalize strU (momL y m d h mi sec) = A at HZ HV ⊢
          go_wp2_with fail
          refine (parseat_own A HZ.out _ (HT.out.up b) (tabIs_up HPP.out b)).mono ?_
          rintro e w12 ⟨rfl, hb⟩
          rw [HV.out]
          have b := below_step b hb
          have hM := hM.below hb hM.lt
          clear hb
          clear HZ HV
          have dn := fun (w : World) => mom_nsame w y m d h mi sec
          have zm := hM.lt
          have a0 := hM.cell 0
          have a1 := hM.cell 1
          have a2 := hM.cell 2
          have a3 := hM.cell 3
          have a4 := hM.cell 4
          have a5 := hM.cell 5
          simp only [List.getElem?_toArray, List.getElem?_cons_zero, List.getElem?_cons_succ] at a0 a1 a2 a3 a4 a5
          go_wp2_with fail
          clear a0 a1 a2 a3 a4 a5
          clear dn zm
          have b := below_alloc b (Obj.cells #[.int .i64 y, .int .i64 m, .int .i64 d, .int .i64 h, .int .i64 mi, .int .i64 sec] 41)
          have hM := hM.alloc (Obj.cells #[.int .i64 y, .int .i64 m, .int .i64 d, .int .i64 h, .int .i64 mi, .int .i64 sec] 41)
          generalize w12.alloc (Obj.cells #[.int .i64 y, .int .i64 m, .int .i64 d, .int .i64 h, .int .i64 mi, .int .i64 sec] 41) = w13 at hM b ⊢
          cases hp : parB s with
          | true =>
            obtain ⟨hv, hy, hs⟩ := par_yes s hp
            have HV := Lib.hid hv
            have HS := Lib.hid hs
            have HY := Lib.hid hy
            clear hv hy hs hp
            refine (parse_own s _ (HT.out.up b) (tabIs_up HPP.out b)).mono ?_
            rintro e w14 ⟨rfl, hb⟩
            rw [HV.out]
            have b := below_step b hb
            clear hb HV hM
            generalize numAt s 0 4 = Y at HS HY ⊢
            generalize numAt s 5 7 = M at HS HY ⊢
            generalize numAt s 8 10 = D at HS HY ⊢
            go_wp2_with fail
            have b := below_alloc b (Obj.cells #[.int .i64 Y, .int .i64 M, .int .i64 D] 23)
            generalize w14.alloc (Obj.cells #[.int .i64 Y, .int .i64 M, .int .i64 D] 23) = w15 at b ⊢
            refine (text_yes Y M D _ (HT.out.up b) (tabIs_up HPP.out b) HY.out).mono ?_
            rintro e w16 ⟨rfl, hb⟩
            rw [HS.out]
            have b := below_step b hb
            clear hb
            go_wp2
            go_ret
            exact ⟨rfl, b⟩
          | false =>
            have HV := Lib.hid (par_no s hp)
            clear hp
            refine (parse_own s _ (HT.out.up b) (tabIs_up HPP.out b)).mono ?_
            rintro e w14 ⟨rfl, hb⟩
            rw [HV.out]
            have b := below_step b hb
            clear hb HV hM
            go_wp2_with fail
            have b := below_alloc b (Obj.cells #[.int .i64 0, .int .i64 0, .int .i64 0] 23)
            generalize w14.alloc (Obj.cells #[.int .i64 0, .int .i64 0, .int .i64 0] 23) = w15 at b ⊢
            refine (text_no 0 0 0 _ (HT.out.up b) may_zero).mono ?_
            rintro e w16 ⟨rfl, hb⟩
            have b := below_step b hb
            clear hb
            go_wp2
            go_ret
            exact ⟨rfl, b⟩
        | false =>
          refine (textat_no y m d h mi sec _ (HT.out.up b) hk).mono ?_
          rintro e w11 ⟨rfl, hb⟩
          have b := below_step b hb
          have hM := hM.below hb hM.lt
          clear hb
          clear hk
          go_wp2_with fail
          refine (at_short _ (by decide) _).mono ?_
          rintro e w12 ⟨rfl, hb⟩
          have b := below_step b hb
          have hM := hM.below hb hM.lt
          clear hb
          go_wp2_with fail
          have b := below_alloc b (Obj.cells #[.int .i64 0, .int .i64 0, .int .i64 0, .int .i64 0, .int .i64 0, .int .i64 0] 41)
          have hM := hM.alloc (Obj.cells #[.int .i64 0, .int .i64 0, .int .i64 0, .int .i64 0, .int .i64 0, .int .i64 0] 41)
          generalize w12.alloc (Obj.cells #[.int .i64 0, .int .i64 0, .int .i64 0, .int .i64 0, .int .i64 0, .int .i64 0] 41) = w13 at hM b ⊢
          cases hp : parB s with
          | true =>
            obtain ⟨hv, hy, hs⟩ := par_yes s hp
            have HV := Lib.hid hv
            have HS := Lib.hid hs
            have HY := Lib.hid hy
            clear hv hy hs hp
            refine (parse_own s _ (HT.out.up b) (tabIs_up HPP.out b)).mono ?_
            rintro e w14 ⟨rfl, hb⟩
            rw [HV.out]
            have b := below_step b hb
            clear hb HV hM
            generalize numAt s 0 4 = Y at HS HY ⊢
            generalize numAt s 5 7 = M at HS HY ⊢
            generalize numAt s 8 10 = D at HS HY ⊢
            go_wp2_with fail
            have b := below_alloc b (Obj.cells #[.int .i64 Y, .int .i64 M, .int .i64 D] 23)
            generalize w14.alloc (Obj.cells #[.int .i64 Y, .int .i64 M, .int .i64 D] 23) = w15 at b ⊢
            refine (text_yes Y M D _ (HT.out.up b) (tabIs_up HPP.out b) HY.out).mono ?_
            rintro e w16 ⟨rfl, hb⟩
            rw [HS.out]
            have b := below_step b hb
            clear hb
            go_wp2
            go_ret
            exact ⟨rfl, b⟩
          | false =>
            have HV := Lib.hid (par_no s hp)
            clear hp
            refine (parse_own s _ (HT.out.up b) (tabIs_up HPP.out b)).mono ?_
            rintro e w14 ⟨rfl, hb⟩
            rw [HV.out]
            have b := below_step b hb
            clear hb HV hM
            go_wp2_with fail
            have b := below_alloc b (Obj.cells #[.int .i64 0, .int .i64 0, .int .i64 0] 23)
            generalize w14.alloc (Obj.cells #[.int .i64 0, .int .i64 0, .int .i64 0] 23) = w15 at b ⊢
            refine (text_no 0 0 0 _ (HT.out.up b) may_zero).mono ?_
            rintro e w16 ⟨rfl, hb⟩
            have b := below_step b hb
            clear hb
            go_wp2
            go_ret
            exact ⟨rfl, b⟩
      · refine (at_no t (by omega) _).mono ?_
        rintro e w8 ⟨rfl, hb⟩
        have b := below_step b hb
        have hM := hM.below hb hM.lt
        clear hb
        go_wp2_with fail
        have b := below_alloc b (Obj.cells #[.int .i64 0, .int .i64 0, .int .i64 0, .int .i64 0, .int .i64 0, .int .i64 0] 41)
        have hM := hM.alloc (Obj.cells #[.int .i64 0, .int .i64 0, .int .i64 0, .int .i64 0, .int .i64 0, .int .i64 0] 41)
        generalize w8.alloc (Obj.cells #[.int .i64 0, .int .i64 0, .int .i64 0, .int .i64 0, .int .i64 0, .int .i64 0] 41) = w9 at hM b ⊢
        refine (instant_own 0 0 0 0 0 0 _ (HT.out.up b)).mono ?_
        rintro e w10 ⟨rfl, hb⟩
        have b := below_step b hb
        have hM := hM.below hb hM.lt
        clear hb
        have a0 := hM.cell 0
        have a1 := hM.cell 1
        have a2 := hM.cell 2
        have a3 := hM.cell 3
        have a4 := hM.cell 4
        have a5 := hM.cell 5
        simp only [List.getElem?_toArray, List.getElem?_cons_zero, List.getElem?_cons_succ] at a0 a1 a2 a3 a4 a5
        go_wp2_with fail
        clear a0 a1 a2 a3 a4 a5
        cases hk : okB y m d h mi sec with
        | true =>
          refine (textat_yes y m d h mi sec _ (HT.out.up b) (tabIs_up HPP.out b) hk).mono ?_
          rintro e w11 ⟨rfl, hb⟩
          have b := below_step b hb
          have hM := hM.below hb hM.lt
          clear hb
          obtain ⟨hz, hv⟩ := atV_text y m d h mi sec hk
          have HZ := Lib.hid hz
          have HV := Lib.hid hv
          clear hz hv hk
          generalize strU (momL y m d h mi sec) = A at HZ HV ⊢
          go_wp2_with fail
          refine (parseat_own A HZ.out _ (HT.out.up b) (tabIs_up HPP.out b)).mono ?_
          rintro e w12 ⟨rfl, hb⟩
          rw [HV.out]
          have b := below_step b hb
          have hM := hM.below hb hM.lt
          clear hb
          clear HZ HV
          have dn := fun (w : World) => mom_nsame w y m d h mi sec
          have zm := hM.lt
          have a0 := hM.cell 0
          have a1 := hM.cell 1
          have a2 := hM.cell 2
          have a3 := hM.cell 3
          have a4 := hM.cell 4
          have a5 := hM.cell 5
          simp only [List.getElem?_toArray, List.getElem?_cons_zero, List.getElem?_cons_succ] at a0 a1 a2 a3 a4 a5
          go_wp2_with fail
          clear a0 a1 a2 a3 a4 a5
          clear dn zm
          have b := below_alloc b (Obj.cells #[.int .i64 y, .int .i64 m, .int .i64 d, .int .i64 h, .int .i64 mi, .int .i64 sec] 41)
          have hM := hM.alloc (Obj.cells #[.int .i64 y, .int .i64 m, .int .i64 d, .int .i64 h, .int .i64 mi, .int .i64 sec] 41)
          generalize w12.alloc (Obj.cells #[.int .i64 y, .int .i64 m, .int .i64 d, .int .i64 h, .int .i64 mi, .int .i64 sec] 41) = w13 at hM b ⊢
          cases hp : parB s with
          | true =>
            obtain ⟨hv, hy, hs⟩ := par_yes s hp
            have HV := Lib.hid hv
            have HS := Lib.hid hs
            have HY := Lib.hid hy
            clear hv hy hs hp
            refine (parse_own s _ (HT.out.up b) (tabIs_up HPP.out b)).mono ?_
            rintro e w14 ⟨rfl, hb⟩
            rw [HV.out]
            have b := below_step b hb
            clear hb HV hM
            generalize numAt s 0 4 = Y at HS HY ⊢
            generalize numAt s 5 7 = M at HS HY ⊢
            generalize numAt s 8 10 = D at HS HY ⊢
            go_wp2_with fail
            have b := below_alloc b (Obj.cells #[.int .i64 Y, .int .i64 M, .int .i64 D] 23)
            generalize w14.alloc (Obj.cells #[.int .i64 Y, .int .i64 M, .int .i64 D] 23) = w15 at b ⊢
            refine (text_yes Y M D _ (HT.out.up b) (tabIs_up HPP.out b) HY.out).mono ?_
            rintro e w16 ⟨rfl, hb⟩
            rw [HS.out]
            have b := below_step b hb
            clear hb
            go_wp2
            go_ret
            exact ⟨rfl, b⟩
          | false =>
            have HV := Lib.hid (par_no s hp)
            clear hp
            refine (parse_own s _ (HT.out.up b) (tabIs_up HPP.out b)).mono ?_
            rintro e w14 ⟨rfl, hb⟩
            rw [HV.out]
            have b := below_step b hb
            clear hb HV hM
            go_wp2_with fail
            have b := below_alloc b (Obj.cells #[.int .i64 0, .int .i64 0, .int .i64 0] 23)
            generalize w14.alloc (Obj.cells #[.int .i64 0, .int .i64 0, .int .i64 0] 23) = w15 at b ⊢
            refine (text_no 0 0 0 _ (HT.out.up b) may_zero).mono ?_
            rintro e w16 ⟨rfl, hb⟩
            have b := below_step b hb
            clear hb
            go_wp2
            go_ret
            exact ⟨rfl, b⟩
        | false =>
          refine (textat_no y m d h mi sec _ (HT.out.up b) hk).mono ?_
          rintro e w11 ⟨rfl, hb⟩
          have b := below_step b hb
          have hM := hM.below hb hM.lt
          clear hb
          clear hk
          go_wp2_with fail
          refine (at_short _ (by decide) _).mono ?_
          rintro e w12 ⟨rfl, hb⟩
          have b := below_step b hb
          have hM := hM.below hb hM.lt
          clear hb
          go_wp2_with fail
          have b := below_alloc b (Obj.cells #[.int .i64 0, .int .i64 0, .int .i64 0, .int .i64 0, .int .i64 0, .int .i64 0] 41)
          have hM := hM.alloc (Obj.cells #[.int .i64 0, .int .i64 0, .int .i64 0, .int .i64 0, .int .i64 0, .int .i64 0] 41)
          generalize w12.alloc (Obj.cells #[.int .i64 0, .int .i64 0, .int .i64 0, .int .i64 0, .int .i64 0, .int .i64 0] 41) = w13 at hM b ⊢
          cases hp : parB s with
          | true =>
            obtain ⟨hv, hy, hs⟩ := par_yes s hp
            have HV := Lib.hid hv
            have HS := Lib.hid hs
            have HY := Lib.hid hy
            clear hv hy hs hp
            refine (parse_own s _ (HT.out.up b) (tabIs_up HPP.out b)).mono ?_
            rintro e w14 ⟨rfl, hb⟩
            rw [HV.out]
            have b := below_step b hb
            clear hb HV hM
            generalize numAt s 0 4 = Y at HS HY ⊢
            generalize numAt s 5 7 = M at HS HY ⊢
            generalize numAt s 8 10 = D at HS HY ⊢
            go_wp2_with fail
            have b := below_alloc b (Obj.cells #[.int .i64 Y, .int .i64 M, .int .i64 D] 23)
            generalize w14.alloc (Obj.cells #[.int .i64 Y, .int .i64 M, .int .i64 D] 23) = w15 at b ⊢
            refine (text_yes Y M D _ (HT.out.up b) (tabIs_up HPP.out b) HY.out).mono ?_
            rintro e w16 ⟨rfl, hb⟩
            rw [HS.out]
            have b := below_step b hb
            clear hb
            go_wp2
            go_ret
            exact ⟨rfl, b⟩
          | false =>
            have HV := Lib.hid (par_no s hp)
            clear hp
            refine (parse_own s _ (HT.out.up b) (tabIs_up HPP.out b)).mono ?_
            rintro e w14 ⟨rfl, hb⟩
            rw [HV.out]
            have b := below_step b hb
            clear hb HV hM
            go_wp2_with fail
            have b := below_alloc b (Obj.cells #[.int .i64 0, .int .i64 0, .int .i64 0] 23)
            generalize w14.alloc (Obj.cells #[.int .i64 0, .int .i64 0, .int .i64 0] 23) = w15 at b ⊢
            refine (text_no 0 0 0 _ (HT.out.up b) may_zero).mono ?_
            rintro e w16 ⟨rfl, hb⟩
            have b := below_step b hb
            clear hb
            go_wp2
            go_ret
            exact ⟨rfl, b⟩
    | false =>
      have HV := Lib.hid (show dayV y m d = 0 ∧ dayE y m d = 60 by simp [dayV, dayE, hm])
      refine (day_own y m d _ (HT.out.up b)).mono ?_
      rintro e w5 ⟨rfl, hb⟩
      rw [HV.out.1, HV.out.2]
      have b := below_step b hb
      have hM := hM.below hb hM.lt
      clear hb
      clear HV
      go_wp2_with fail
      refine (of_in 0 (by omega) (by omega) _ (HT.out.up b)).mono ?_
      rintro e w6 ⟨⟨y1, m1, d1, hi, rfl⟩, hb⟩
      have b := below_step b hb
      have hM := hM.below hb hM.lt
      clear hb
      clear hi
      go_wp2_with fail
      have b := below_alloc b (Obj.cells #[.int .i64 y1, .int .i64 m1, .int .i64 d1] 23)
      have hM := hM.alloc (Obj.cells #[.int .i64 y1, .int .i64 m1, .int .i64 d1] 23)
      generalize w6.alloc (Obj.cells #[.int .i64 y1, .int .i64 m1, .int .i64 d1] 23) = w7 at hM b ⊢
      by_cases ht : 0 ≤ t ∧ t < 253402300800
      · refine (at_in t ht.1 ht.2 _ (HT.out.up b)).mono ?_
        rintro e w8 ⟨⟨y1, m1, d1, hi, rfl⟩, hb⟩
        have b := below_step b hb
        have hM := hM.below hb hM.lt
        clear hb
        have HI := Lib.hid (ins_at t y1 m1 d1 hi)
        clear hi
        go_wp2_with fail
        have b := below_alloc b (Obj.cells #[.int .i64 y1, .int .i64 m1, .int .i64 d1, .int .i64 (t % 86400 / 3600), .int .i64 (t % 86400 / 60 % 60), .int .i64 (t % 60)] 41)
        have hM := hM.alloc (Obj.cells #[.int .i64 y1, .int .i64 m1, .int .i64 d1, .int .i64 (t % 86400 / 3600), .int .i64 (t % 86400 / 60 % 60), .int .i64 (t % 60)] 41)
        generalize w8.alloc (Obj.cells #[.int .i64 y1, .int .i64 m1, .int .i64 d1, .int .i64 (t % 86400 / 3600), .int .i64 (t % 86400 / 60 % 60), .int .i64 (t % 60)] 41) = w9 at hM b ⊢
        refine (instant_own y1 m1 d1 _ _ _ _ (HT.out.up b)).mono ?_
        rintro e w10 ⟨rfl, hb⟩
        rw [HI.out.1, HI.out.2]
        have b := below_step b hb
        have hM := hM.below hb hM.lt
        clear hb
        clear HI
        have a0 := hM.cell 0
        have a1 := hM.cell 1
        have a2 := hM.cell 2
        have a3 := hM.cell 3
        have a4 := hM.cell 4
        have a5 := hM.cell 5
        simp only [List.getElem?_toArray, List.getElem?_cons_zero, List.getElem?_cons_succ] at a0 a1 a2 a3 a4 a5
        go_wp2_with fail
        clear a0 a1 a2 a3 a4 a5
        cases hk : okB y m d h mi sec with
        | true =>
          refine (textat_yes y m d h mi sec _ (HT.out.up b) (tabIs_up HPP.out b) hk).mono ?_
          rintro e w11 ⟨rfl, hb⟩
          have b := below_step b hb
          have hM := hM.below hb hM.lt
          clear hb
          obtain ⟨hz, hv⟩ := atV_text y m d h mi sec hk
          have HZ := Lib.hid hz
          have HV := Lib.hid hv
          clear hz hv hk
          generalize strU (momL y m d h mi sec) = A at HZ HV ⊢
          go_wp2_with fail
          refine (parseat_own A HZ.out _ (HT.out.up b) (tabIs_up HPP.out b)).mono ?_
          rintro e w12 ⟨rfl, hb⟩
          rw [HV.out]
          have b := below_step b hb
          have hM := hM.below hb hM.lt
          clear hb
          clear HZ HV
          have dn := fun (w : World) => mom_nsame w y m d h mi sec
          have zm := hM.lt
          have a0 := hM.cell 0
          have a1 := hM.cell 1
          have a2 := hM.cell 2
          have a3 := hM.cell 3
          have a4 := hM.cell 4
          have a5 := hM.cell 5
          simp only [List.getElem?_toArray, List.getElem?_cons_zero, List.getElem?_cons_succ] at a0 a1 a2 a3 a4 a5
          go_wp2_with fail
          clear a0 a1 a2 a3 a4 a5
          clear dn zm
          have b := below_alloc b (Obj.cells #[.int .i64 y, .int .i64 m, .int .i64 d, .int .i64 h, .int .i64 mi, .int .i64 sec] 41)
          have hM := hM.alloc (Obj.cells #[.int .i64 y, .int .i64 m, .int .i64 d, .int .i64 h, .int .i64 mi, .int .i64 sec] 41)
          generalize w12.alloc (Obj.cells #[.int .i64 y, .int .i64 m, .int .i64 d, .int .i64 h, .int .i64 mi, .int .i64 sec] 41) = w13 at hM b ⊢
          cases hp : parB s with
          | true =>
            obtain ⟨hv, hy, hs⟩ := par_yes s hp
            have HV := Lib.hid hv
            have HS := Lib.hid hs
            have HY := Lib.hid hy
            clear hv hy hs hp
            refine (parse_own s _ (HT.out.up b) (tabIs_up HPP.out b)).mono ?_
            rintro e w14 ⟨rfl, hb⟩
            rw [HV.out]
            have b := below_step b hb
            clear hb HV hM
            generalize numAt s 0 4 = Y at HS HY ⊢
            generalize numAt s 5 7 = M at HS HY ⊢
            generalize numAt s 8 10 = D at HS HY ⊢
            go_wp2_with fail
            have b := below_alloc b (Obj.cells #[.int .i64 Y, .int .i64 M, .int .i64 D] 23)
            generalize w14.alloc (Obj.cells #[.int .i64 Y, .int .i64 M, .int .i64 D] 23) = w15 at b ⊢
            refine (text_yes Y M D _ (HT.out.up b) (tabIs_up HPP.out b) HY.out).mono ?_
            rintro e w16 ⟨rfl, hb⟩
            rw [HS.out]
            have b := below_step b hb
            clear hb
            go_wp2
            go_ret
            exact ⟨rfl, b⟩
          | false =>
            have HV := Lib.hid (par_no s hp)
            clear hp
            refine (parse_own s _ (HT.out.up b) (tabIs_up HPP.out b)).mono ?_
            rintro e w14 ⟨rfl, hb⟩
            rw [HV.out]
            have b := below_step b hb
            clear hb HV hM
            go_wp2_with fail
            have b := below_alloc b (Obj.cells #[.int .i64 0, .int .i64 0, .int .i64 0] 23)
            generalize w14.alloc (Obj.cells #[.int .i64 0, .int .i64 0, .int .i64 0] 23) = w15 at b ⊢
            refine (text_no 0 0 0 _ (HT.out.up b) may_zero).mono ?_
            rintro e w16 ⟨rfl, hb⟩
            have b := below_step b hb
            clear hb
            go_wp2
            go_ret
            exact ⟨rfl, b⟩
        | false =>
          refine (textat_no y m d h mi sec _ (HT.out.up b) hk).mono ?_
          rintro e w11 ⟨rfl, hb⟩
          have b := below_step b hb
          have hM := hM.below hb hM.lt
          clear hb
          clear hk
          go_wp2_with fail
          refine (at_short _ (by decide) _).mono ?_
          rintro e w12 ⟨rfl, hb⟩
          have b := below_step b hb
          have hM := hM.below hb hM.lt
          clear hb
          go_wp2_with fail
          have b := below_alloc b (Obj.cells #[.int .i64 0, .int .i64 0, .int .i64 0, .int .i64 0, .int .i64 0, .int .i64 0] 41)
          have hM := hM.alloc (Obj.cells #[.int .i64 0, .int .i64 0, .int .i64 0, .int .i64 0, .int .i64 0, .int .i64 0] 41)
          generalize w12.alloc (Obj.cells #[.int .i64 0, .int .i64 0, .int .i64 0, .int .i64 0, .int .i64 0, .int .i64 0] 41) = w13 at hM b ⊢
          cases hp : parB s with
          | true =>
            obtain ⟨hv, hy, hs⟩ := par_yes s hp
            have HV := Lib.hid hv
            have HS := Lib.hid hs
            have HY := Lib.hid hy
            clear hv hy hs hp
            refine (parse_own s _ (HT.out.up b) (tabIs_up HPP.out b)).mono ?_
            rintro e w14 ⟨rfl, hb⟩
            rw [HV.out]
            have b := below_step b hb
            clear hb HV hM
            generalize numAt s 0 4 = Y at HS HY ⊢
            generalize numAt s 5 7 = M at HS HY ⊢
            generalize numAt s 8 10 = D at HS HY ⊢
            go_wp2_with fail
            have b := below_alloc b (Obj.cells #[.int .i64 Y, .int .i64 M, .int .i64 D] 23)
            generalize w14.alloc (Obj.cells #[.int .i64 Y, .int .i64 M, .int .i64 D] 23) = w15 at b ⊢
            refine (text_yes Y M D _ (HT.out.up b) (tabIs_up HPP.out b) HY.out).mono ?_
            rintro e w16 ⟨rfl, hb⟩
            rw [HS.out]
            have b := below_step b hb
            clear hb
            go_wp2
            go_ret
            exact ⟨rfl, b⟩
          | false =>
            have HV := Lib.hid (par_no s hp)
            clear hp
            refine (parse_own s _ (HT.out.up b) (tabIs_up HPP.out b)).mono ?_
            rintro e w14 ⟨rfl, hb⟩
            rw [HV.out]
            have b := below_step b hb
            clear hb HV hM
            go_wp2_with fail
            have b := below_alloc b (Obj.cells #[.int .i64 0, .int .i64 0, .int .i64 0] 23)
            generalize w14.alloc (Obj.cells #[.int .i64 0, .int .i64 0, .int .i64 0] 23) = w15 at b ⊢
            refine (text_no 0 0 0 _ (HT.out.up b) may_zero).mono ?_
            rintro e w16 ⟨rfl, hb⟩
            have b := below_step b hb
            clear hb
            go_wp2
            go_ret
            exact ⟨rfl, b⟩
      · refine (at_no t (by omega) _).mono ?_
        rintro e w8 ⟨rfl, hb⟩
        have b := below_step b hb
        have hM := hM.below hb hM.lt
        clear hb
        go_wp2_with fail
        have b := below_alloc b (Obj.cells #[.int .i64 0, .int .i64 0, .int .i64 0, .int .i64 0, .int .i64 0, .int .i64 0] 41)
        have hM := hM.alloc (Obj.cells #[.int .i64 0, .int .i64 0, .int .i64 0, .int .i64 0, .int .i64 0, .int .i64 0] 41)
        generalize w8.alloc (Obj.cells #[.int .i64 0, .int .i64 0, .int .i64 0, .int .i64 0, .int .i64 0, .int .i64 0] 41) = w9 at hM b ⊢
        refine (instant_own 0 0 0 0 0 0 _ (HT.out.up b)).mono ?_
        rintro e w10 ⟨rfl, hb⟩
        have b := below_step b hb
        have hM := hM.below hb hM.lt
        clear hb
        have a0 := hM.cell 0
        have a1 := hM.cell 1
        have a2 := hM.cell 2
        have a3 := hM.cell 3
        have a4 := hM.cell 4
        have a5 := hM.cell 5
        simp only [List.getElem?_toArray, List.getElem?_cons_zero, List.getElem?_cons_succ] at a0 a1 a2 a3 a4 a5
        go_wp2_with fail
        clear a0 a1 a2 a3 a4 a5
        cases hk : okB y m d h mi sec with
        | true =>
          refine (textat_yes y m d h mi sec _ (HT.out.up b) (tabIs_up HPP.out b) hk).mono ?_
          rintro e w11 ⟨rfl, hb⟩
          have b := below_step b hb
          have hM := hM.below hb hM.lt
          clear hb
          obtain ⟨hz, hv⟩ := atV_text y m d h mi sec hk
          have HZ := Lib.hid hz
          have HV := Lib.hid hv
          clear hz hv hk
          generalize strU (momL y m d h mi sec) = A at HZ HV ⊢
          go_wp2_with fail
          refine (parseat_own A HZ.out _ (HT.out.up b) (tabIs_up HPP.out b)).mono ?_
          rintro e w12 ⟨rfl, hb⟩
          rw [HV.out]
          have b := below_step b hb
          have hM := hM.below hb hM.lt
          clear hb
          clear HZ HV
          have dn := fun (w : World) => mom_nsame w y m d h mi sec
          have zm := hM.lt
          have a0 := hM.cell 0
          have a1 := hM.cell 1
          have a2 := hM.cell 2
          have a3 := hM.cell 3
          have a4 := hM.cell 4
          have a5 := hM.cell 5
          simp only [List.getElem?_toArray, List.getElem?_cons_zero, List.getElem?_cons_succ] at a0 a1 a2 a3 a4 a5
          go_wp2_with fail
          clear a0 a1 a2 a3 a4 a5
          clear dn zm
          have b := below_alloc b (Obj.cells #[.int .i64 y, .int .i64 m, .int .i64 d, .int .i64 h, .int .i64 mi, .int .i64 sec] 41)
          have hM := hM.alloc (Obj.cells #[.int .i64 y, .int .i64 m, .int .i64 d, .int .i64 h, .int .i64 mi, .int .i64 sec] 41)
          generalize w12.alloc (Obj.cells #[.int .i64 y, .int .i64 m, .int .i64 d, .int .i64 h, .int .i64 mi, .int .i64 sec] 41) = w13 at hM b ⊢
          cases hp : parB s with
          | true =>
            obtain ⟨hv, hy, hs⟩ := par_yes s hp
            have HV := Lib.hid hv
            have HS := Lib.hid hs
            have HY := Lib.hid hy
            clear hv hy hs hp
            refine (parse_own s _ (HT.out.up b) (tabIs_up HPP.out b)).mono ?_
            rintro e w14 ⟨rfl, hb⟩
            rw [HV.out]
            have b := below_step b hb
            clear hb HV hM
            generalize numAt s 0 4 = Y at HS HY ⊢
            generalize numAt s 5 7 = M at HS HY ⊢
            generalize numAt s 8 10 = D at HS HY ⊢
            go_wp2_with fail
            have b := below_alloc b (Obj.cells #[.int .i64 Y, .int .i64 M, .int .i64 D] 23)
            generalize w14.alloc (Obj.cells #[.int .i64 Y, .int .i64 M, .int .i64 D] 23) = w15 at b ⊢
            refine (text_yes Y M D _ (HT.out.up b) (tabIs_up HPP.out b) HY.out).mono ?_
            rintro e w16 ⟨rfl, hb⟩
            rw [HS.out]
            have b := below_step b hb
            clear hb
            go_wp2
            go_ret
            exact ⟨rfl, b⟩
          | false =>
            have HV := Lib.hid (par_no s hp)
            clear hp
            refine (parse_own s _ (HT.out.up b) (tabIs_up HPP.out b)).mono ?_
            rintro e w14 ⟨rfl, hb⟩
            rw [HV.out]
            have b := below_step b hb
            clear hb HV hM
            go_wp2_with fail
            have b := below_alloc b (Obj.cells #[.int .i64 0, .int .i64 0, .int .i64 0] 23)
            generalize w14.alloc (Obj.cells #[.int .i64 0, .int .i64 0, .int .i64 0] 23) = w15 at b ⊢
            refine (text_no 0 0 0 _ (HT.out.up b) may_zero).mono ?_
            rintro e w16 ⟨rfl, hb⟩
            have b := below_step b hb
            clear hb
            go_wp2
            go_ret
            exact ⟨rfl, b⟩
        | false =>
          refine (textat_no y m d h mi sec _ (HT.out.up b) hk).mono ?_
          rintro e w11 ⟨rfl, hb⟩
          have b := below_step b hb
          have hM := hM.below hb hM.lt
          clear hb
          clear hk
          go_wp2_with fail
          refine (at_short _ (by decide) _).mono ?_
          rintro e w12 ⟨rfl, hb⟩
          have b := below_step b hb
          have hM := hM.below hb hM.lt
          clear hb
          go_wp2_with fail
          have b := below_alloc b (Obj.cells #[.int .i64 0, .int .i64 0, .int .i64 0, .int .i64 0, .int .i64 0, .int .i64 0] 41)
          have hM := hM.alloc (Obj.cells #[.int .i64 0, .int .i64 0, .int .i64 0, .int .i64 0, .int .i64 0, .int .i64 0] 41)
          generalize w12.alloc (Obj.cells #[.int .i64 0, .int .i64 0, .int .i64 0, .int .i64 0, .int .i64 0, .int .i64 0] 41) = w13 at hM b ⊢
          cases hp : parB s with
          | true =>
            obtain ⟨hv, hy, hs⟩ := par_yes s hp
            have HV := Lib.hid hv
            have HS := Lib.hid hs
            have HY := Lib.hid hy
            clear hv hy hs hp
            refine (parse_own s _ (HT.out.up b) (tabIs_up HPP.out b)).mono ?_
            rintro e w14 ⟨rfl, hb⟩
            rw [HV.out]
            have b := below_step b hb
            clear hb HV hM
            generalize numAt s 0 4 = Y at HS HY ⊢
            generalize numAt s 5 7 = M at HS HY ⊢
            generalize numAt s 8 10 = D at HS HY ⊢
            go_wp2_with fail
            have b := below_alloc b (Obj.cells #[.int .i64 Y, .int .i64 M, .int .i64 D] 23)
            generalize w14.alloc (Obj.cells #[.int .i64 Y, .int .i64 M, .int .i64 D] 23) = w15 at b ⊢
            refine (text_yes Y M D _ (HT.out.up b) (tabIs_up HPP.out b) HY.out).mono ?_
            rintro e w16 ⟨rfl, hb⟩
            rw [HS.out]
            have b := below_step b hb
            clear hb
            go_wp2
            go_ret
            exact ⟨rfl, b⟩
          | false =>
            have HV := Lib.hid (par_no s hp)
            clear hp
            refine (parse_own s _ (HT.out.up b) (tabIs_up HPP.out b)).mono ?_
            rintro e w14 ⟨rfl, hb⟩
            rw [HV.out]
            have b := below_step b hb
            clear hb HV hM
            go_wp2_with fail
            have b := below_alloc b (Obj.cells #[.int .i64 0, .int .i64 0, .int .i64 0] 23)
            generalize w14.alloc (Obj.cells #[.int .i64 0, .int .i64 0, .int .i64 0] 23) = w15 at b ⊢
            refine (text_no 0 0 0 _ (HT.out.up b) may_zero).mono ?_
            rintro e w16 ⟨rfl, hb⟩
            have b := below_step b hb
            clear hb
            go_wp2
            go_ret
            exact ⟨rfl, b⟩
end Go.Proofs.YtgeocjodkkkiiaaDoor
