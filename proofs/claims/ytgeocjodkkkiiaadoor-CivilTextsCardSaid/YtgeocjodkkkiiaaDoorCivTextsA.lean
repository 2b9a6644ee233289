/- The law CivilTexts, the way A. -/
import Derived.Test.YtgeocjodkkkiiaaDoorCivTextsK
namespace Go.Proofs.YtgeocjodkkkiiaaDoor
open Go.RowKit

set_option maxRecDepth 100000 in
set_option maxHeartbeats 40000000 in
theorem law_textsA (y m d h mi sec : Int) (s : ByteArray) (k n : Int) (w : World) (T : Lens w) (hP : P10 w) (hl : s.size ≤ 100) (hm : mayB y m d = false) : Calls Tryd.prog 7 #[.agg #[.int .i64 y, .int .i64 m, .int .i64 d, .int .i64 h, .int .i64 mi, .int .i64 sec], .string s, .int .i64 k, .int .i64 n] w fun e w' => e = .returned (.bool true) ∧ Below w.heap.size w w' := by
  have HT := Lib.hid T
  have HPP := Lib.hid hP
  have dg := date_nguard
  have dge := date_guard
  have mg := moment_guard
  clear T hP
  have g2 : ¬ (100 : Int) < (s.size : Int) := by omega
  have hM := Held.new w 41 #[.int .i64 y, .int .i64 m, .int .i64 d, .int .i64 h, .int .i64 mi, .int .i64 sec]
  have b := below_alloc (Below.refl w.heap.size w) (Obj.cells #[.int .i64 y, .int .i64 m, .int .i64 d, .int .i64 h, .int .i64 mi, .int .i64 sec] 41)
  go_in
  go_wp2_with (go_at_call 10; refine (may_ref _ _ _ _).mono ?_; rintro e w' ⟨rfl, rfl⟩; rw [hm])
  generalize w.alloc (Obj.cells #[.int .i64 y, .int .i64 m, .int .i64 d, .int .i64 h, .int .i64 mi, .int .i64 sec] 41) = w1 at hM b ⊢
  refine (text_no y m d _ (HT.out.up b) hm).mono ?_
  rintro e w2 ⟨rfl, hb⟩
  have b := below_step b hb
  have hM := hM.below hb hM.lt
  clear hb
  have a0 := hM.cell 0
  have a1 := hM.cell 1
  have a2 := hM.cell 2
  have a3 := hM.cell 3
  have a4 := hM.cell 4
  have a5 := hM.cell 5
  simp only [List.getElem?_toArray, List.getElem?_cons_zero, List.getElem?_cons_succ] at a0 a1 a2 a3 a4 a5
  go_wp2_with fail
  clear a0 a1 a2 a3 a4 a5
  refine (textat_no y m d h mi sec _ (HT.out.up b) (by simp [okB, hm])).mono ?_
  rintro e w3 ⟨rfl, hb⟩
  have b := below_step b hb
  have hM := hM.below hb hM.lt
  clear hb
  clear hm
  go_wp2_with fail
  obtain ⟨Y1, M1, D1, E1, hv, hr⟩ := par_any s
  have HV := Lib.hid hv
  have HR := Lib.hid hr
  clear hv hr
  refine (parse_own s _ (HT.out.up b) (tabIs_up HPP.out b)).mono ?_
  rintro e w4 ⟨rfl, hb⟩
  rw [HV.out]
  have b := below_step b hb
  have hM := hM.below hb hM.lt
  clear hb
  clear HV
  go_wp2_with fail
  have dn := fun (w : World) => date_nsame w Y1 M1 D1
  refine (parse_ref s _).mono ?_
  rintro e w' ⟨rfl, rfl⟩
  rw [HR.out]
  have b := below_alloc b (Obj.cells #[.int .i64 Y1, .int .i64 M1, .int .i64 D1] 23)
  have hM := hM.alloc (Obj.cells #[.int .i64 Y1, .int .i64 M1, .int .i64 D1] 23)
  clear HR
  go_wp2_with fail
  clear dn
  generalize w4.alloc (Obj.cells #[.int .i64 Y1, .int .i64 M1, .int .i64 D1] 23) = w5 at hM b ⊢
  by_cases h19 : s.size = 19
  case neg =>
    have g19 : ((s.size : Int) == 19) = false := by simp; omega
    refine (at_short s h19 _).mono ?_
    rintro e w6 ⟨rfl, hb⟩
    have b := below_step b hb
    have hM := hM.below hb hM.lt
    clear hb
    have zm := hM.lt
    clear h19
    have a0 := hM.cell 0
    have a1 := hM.cell 1
    have a2 := hM.cell 2
    have a3 := hM.cell 3
    have a4 := hM.cell 4
    have a5 := hM.cell 5
    simp only [List.getElem?_toArray, List.getElem?_cons_zero, List.getElem?_cons_succ] at a0 a1 a2 a3 a4 a5
    have zm2 : w.heap.size < w6.heap.size + 1 := by omega
    go_wp2_with fail
    clear a0 a1 a2 a3 a4 a5
    have hU := (Held.new w6 41 #[.int .i64 0, .int .i64 0, .int .i64 0, .int .i64 0, .int .i64 0, .int .i64 0]).alloc (Obj.cells #[.int .i64 0, .int .i64 0, .int .i64 0, .int .i64 0, .int .i64 0, .int .i64 0] 41)
    have hV := Held.new (w6.alloc (Obj.cells #[.int .i64 0, .int .i64 0, .int .i64 0, .int .i64 0, .int .i64 0, .int .i64 0] 41)) 41 #[.int .i64 0, .int .i64 0, .int .i64 0, .int .i64 0, .int .i64 0, .int .i64 0]
    rw [World.size_alloc] at hV
    have b := below_alloc (below_alloc b (Obj.cells #[.int .i64 0, .int .i64 0, .int .i64 0, .int .i64 0, .int .i64 0, .int .i64 0] 41)) (Obj.cells #[.int .i64 0, .int .i64 0, .int .i64 0, .int .i64 0, .int .i64 0, .int .i64 0] 41)
    have hM := (hM.alloc (Obj.cells #[.int .i64 0, .int .i64 0, .int .i64 0, .int .i64 0, .int .i64 0, .int .i64 0] 41)).alloc (Obj.cells #[.int .i64 0, .int .i64 0, .int .i64 0, .int .i64 0, .int .i64 0, .int .i64 0] 41)
    clear zm zm2 g19
    generalize (w6.alloc (Obj.cells #[.int .i64 0, .int .i64 0, .int .i64 0, .int .i64 0, .int .i64 0, .int .i64 0] 41)).alloc (Obj.cells #[.int .i64 0, .int .i64 0, .int .i64 0, .int .i64 0, .int .i64 0, .int .i64 0] 41) = w7 at hU hV hM b ⊢
    cases hnb : nthB y m k n with
    | true =>
      have HR := Lib.hid (show rnV y m k n = .tuple #[.int .i64 (nthD y m k n), .int .i64 0] by rw [rnV, if_pos hnb])
      refine (nth_own y m k n _ (HT.out.up b)).mono ?_
      rintro e w8 ⟨he, hb⟩
      rw [hnb] at he
      rw [if_pos rfl] at he
      subst he
      clear hnb
      have hU := hU.below hb hU.lt
      have hV := hV.below hb hV.lt
      have b := below_step b hb
      have hM := hM.below hb hM.lt
      clear hb
      generalize nthD y m k n = D at HR ⊢
      have zm := hM.lt
      have a0 := hM.cell 0
      have a1 := hM.cell 1
      have a2 := hM.cell 2
      have a3 := hM.cell 3
      have a4 := hM.cell 4
      have a5 := hM.cell 5
      simp only [List.getElem?_toArray, List.getElem?_cons_zero, List.getElem?_cons_succ] at a0 a1 a2 a3 a4 a5
      go_wp2_with fail
      clear a0 a1 a2 a3 a4 a5
      have hQ := Held.new w8 23 #[.int .i64 y, .int .i64 m, .int .i64 D]
      have hU := hU.alloc (Obj.cells #[.int .i64 y, .int .i64 m, .int .i64 D] 23)
      have hV := hV.alloc (Obj.cells #[.int .i64 y, .int .i64 m, .int .i64 D] 23)
      have b := below_alloc b (Obj.cells #[.int .i64 y, .int .i64 m, .int .i64 D] 23)
      have hM := hM.alloc (Obj.cells #[.int .i64 y, .int .i64 m, .int .i64 D] 23)
      clear zm
      generalize w8.alloc (Obj.cells #[.int .i64 y, .int .i64 m, .int .i64 D] 23) = w9 at hQ hU hV hM b ⊢
      refine (rnth y m k n _).mono ?_
      rintro e w' ⟨rfl, rfl⟩
      rw [HR.out]
      clear HR
      have zm := hM.lt
      have zu := hU.lt
      have zv := hV.lt
      have zq := hQ.lt
      have me := fun (w : World) => moment_same w 0 0 0 0 0 0
      have de := fun (w : World) => date_same w y m D
      have a0 := hM.cell 0
      have a1 := hM.cell 1
      have a2 := hM.cell 2
      have a3 := hM.cell 3
      have a4 := hM.cell 4
      have a5 := hM.cell 5
      simp only [List.getElem?_toArray, List.getElem?_cons_zero, List.getElem?_cons_succ] at a0 a1 a2 a3 a4 a5
      have u0 := hU.cell 0
      have u1 := hU.cell 1
      have u2 := hU.cell 2
      have u3 := hU.cell 3
      have u4 := hU.cell 4
      have u5 := hU.cell 5
      simp only [List.getElem?_toArray, List.getElem?_cons_zero, List.getElem?_cons_succ] at u0 u1 u2 u3 u4 u5
      have v0 := hV.cell 0
      have v1 := hV.cell 1
      have v2 := hV.cell 2
      have v3 := hV.cell 3
      have v4 := hV.cell 4
      have v5 := hV.cell 5
      simp only [List.getElem?_toArray, List.getElem?_cons_zero, List.getElem?_cons_succ] at v0 v1 v2 v3 v4 v5
      have q0 := hQ.cell 0
      have q1 := hQ.cell 1
      have q2 := hQ.cell 2
      simp only [List.getElem?_toArray, List.getElem?_cons_zero, List.getElem?_cons_succ] at q0 q1 q2
      go_wp2
      go_ret
      exact ⟨rfl, below_alloc b _⟩
    | false =>
      have HR := Lib.hid (rnV_no hnb)
      refine (nth_own y m k n _ (HT.out.up b)).mono ?_
      rintro e w8 ⟨he, hb⟩
      rw [hnb] at he
      rw [if_neg (by decide)] at he
      subst he
      clear hnb
      have hU := hU.below hb hU.lt
      have hV := hV.below hb hV.lt
      have b := below_step b hb
      have hM := hM.below hb hM.lt
      clear hb
      have zm := hM.lt
      have a0 := hM.cell 0
      have a1 := hM.cell 1
      have a2 := hM.cell 2
      have a3 := hM.cell 3
      have a4 := hM.cell 4
      have a5 := hM.cell 5
      simp only [List.getElem?_toArray, List.getElem?_cons_zero, List.getElem?_cons_succ] at a0 a1 a2 a3 a4 a5
      go_wp2_with fail
      clear a0 a1 a2 a3 a4 a5
      have hQ := Held.new w8 23 #[.int .i64 0, .int .i64 0, .int .i64 0]
      have hU := hU.alloc (Obj.cells #[.int .i64 0, .int .i64 0, .int .i64 0] 23)
      have hV := hV.alloc (Obj.cells #[.int .i64 0, .int .i64 0, .int .i64 0] 23)
      have b := below_alloc b (Obj.cells #[.int .i64 0, .int .i64 0, .int .i64 0] 23)
      have hM := hM.alloc (Obj.cells #[.int .i64 0, .int .i64 0, .int .i64 0] 23)
      clear zm
      generalize w8.alloc (Obj.cells #[.int .i64 0, .int .i64 0, .int .i64 0] 23) = w9 at hQ hU hV hM b ⊢
      refine (rnth y m k n _).mono ?_
      rintro e w' ⟨rfl, rfl⟩
      rw [HR.out]
      clear HR
      have zm := hM.lt
      have zu := hU.lt
      have zv := hV.lt
      have zq := hQ.lt
      have me := fun (w : World) => moment_same w 0 0 0 0 0 0
      have de := fun (w : World) => date_same w 0 0 0
      have a0 := hM.cell 0
      have a1 := hM.cell 1
      have a2 := hM.cell 2
      have a3 := hM.cell 3
      have a4 := hM.cell 4
      have a5 := hM.cell 5
      simp only [List.getElem?_toArray, List.getElem?_cons_zero, List.getElem?_cons_succ] at a0 a1 a2 a3 a4 a5
      have u0 := hU.cell 0
      have u1 := hU.cell 1
      have u2 := hU.cell 2
      have u3 := hU.cell 3
      have u4 := hU.cell 4
      have u5 := hU.cell 5
      simp only [List.getElem?_toArray, List.getElem?_cons_zero, List.getElem?_cons_succ] at u0 u1 u2 u3 u4 u5
      have v0 := hV.cell 0
      have v1 := hV.cell 1
      have v2 := hV.cell 2
      have v3 := hV.cell 3
      have v4 := hV.cell 4
      have v5 := hV.cell 5
      simp only [List.getElem?_toArray, List.getElem?_cons_zero, List.getElem?_cons_succ] at v0 v1 v2 v3 v4 v5
      have q0 := hQ.cell 0
      have q1 := hQ.cell 1
      have q2 := hQ.cell 2
      simp only [List.getElem?_toArray, List.getElem?_cons_zero, List.getElem?_cons_succ] at q0 q1 q2
      go_wp2
      go_ret
      exact ⟨rfl, below_alloc b _⟩
  have HS := Lib.hid (at_same s h19)
  have x1 : numAt (s.extract 10 19) 1 3 = numAt s 11 13 := sub_num s 1 3 (by omega)
  have x2 : numAt (s.extract 10 19) 4 6 = numAt s 14 16 := sub_num s 4 6 (by omega)
  have x3 : numAt (s.extract 10 19) 7 9 = numAt s 17 19 := sub_num s 7 9 (by omega)
  cases hr : refB (s.extract 0 10) with
  | false =>
    have hc := clkV_any (s.extract 10 19)
    obtain ⟨H2, I2, S2, P2, hc⟩ := hc
    have HA := Lib.hid (show atV s = .tuple #[.agg #[.int .i64 0, .int .i64 0, .int .i64 0, .int .i64 0, .int .i64 0, .int .i64 0], .int .i64 60] by rw [atV, if_neg (by rw [HS.out, hr]; simp)])
    have HR := Lib.hid (show refV (s.extract 0 10) = .tuple #[.int .i64 0, .int .i64 0, .int .i64 0, .int .i64 60] from refV_no hr)
    have HC := Lib.hid hc
    clear HS hr hc x1 x2 x3
    refine (parseat_own s h19 _ (HT.out.up b) (tabIs_up HPP.out b)).mono ?_
    rintro e w6 ⟨rfl, hb⟩
    rw [HA.out]
    have b := below_step b hb
    have hM := hM.below hb hM.lt
    clear hb
    clear HA
    go_wp2_with fail
    refine (parse_ref (s.extract 0 10) _).mono ?_
    rintro e w' ⟨rfl, rfl⟩
    rw [HR.out]
    clear HR
    go_wp2_with fail
    refine (clock_parse (s.extract 10 19) _).mono ?_
    rintro e w' ⟨rfl, rfl⟩
    rw [HC.out]
    clear HC
    have zm := hM.lt
    have a0 := hM.cell 0
    have a1 := hM.cell 1
    have a2 := hM.cell 2
    have a3 := hM.cell 3
    have a4 := hM.cell 4
    have a5 := hM.cell 5
    simp only [List.getElem?_toArray, List.getElem?_cons_zero, List.getElem?_cons_succ] at a0 a1 a2 a3 a4 a5
    have zm2 : w.heap.size < w6.heap.size + 1 := by omega
    go_wp2_with fail
    clear a0 a1 a2 a3 a4 a5
    have hU := (Held.new w6 41 #[.int .i64 0, .int .i64 0, .int .i64 0, .int .i64 0, .int .i64 0, .int .i64 0]).alloc (Obj.cells #[.int .i64 0, .int .i64 0, .int .i64 0, .int .i64 0, .int .i64 0, .int .i64 0] 41)
    have hV := Held.new (w6.alloc (Obj.cells #[.int .i64 0, .int .i64 0, .int .i64 0, .int .i64 0, .int .i64 0, .int .i64 0] 41)) 41 #[.int .i64 0, .int .i64 0, .int .i64 0, .int .i64 0, .int .i64 0, .int .i64 0]
    rw [World.size_alloc] at hV
    have b := below_alloc (below_alloc b (Obj.cells #[.int .i64 0, .int .i64 0, .int .i64 0, .int .i64 0, .int .i64 0, .int .i64 0] 41)) (Obj.cells #[.int .i64 0, .int .i64 0, .int .i64 0, .int .i64 0, .int .i64 0, .int .i64 0] 41)
    have hM := (hM.alloc (Obj.cells #[.int .i64 0, .int .i64 0, .int .i64 0, .int .i64 0, .int .i64 0, .int .i64 0] 41)).alloc (Obj.cells #[.int .i64 0, .int .i64 0, .int .i64 0, .int .i64 0, .int .i64 0, .int .i64 0] 41)
    clear zm zm2 h19
    generalize (w6.alloc (Obj.cells #[.int .i64 0, .int .i64 0, .int .i64 0, .int .i64 0, .int .i64 0, .int .i64 0] 41)).alloc (Obj.cells #[.int .i64 0, .int .i64 0, .int .i64 0, .int .i64 0, .int .i64 0, .int .i64 0] 41) = w7 at hU hV hM b ⊢
    cases hnb : nthB y m k n with
    | true =>
      have HR := Lib.hid (show rnV y m k n = .tuple #[.int .i64 (nthD y m k n), .int .i64 0] by rw [rnV, if_pos hnb])
      refine (nth_own y m k n _ (HT.out.up b)).mono ?_
      rintro e w8 ⟨he, hb⟩
      rw [hnb] at he
      rw [if_pos rfl] at he
      subst he
      clear hnb
      have hU := hU.below hb hU.lt
      have hV := hV.below hb hV.lt
      have b := below_step b hb
      have hM := hM.below hb hM.lt
      clear hb
      generalize nthD y m k n = D at HR ⊢
      have zm := hM.lt
      have a0 := hM.cell 0
      have a1 := hM.cell 1
      have a2 := hM.cell 2
      have a3 := hM.cell 3
      have a4 := hM.cell 4
      have a5 := hM.cell 5
      simp only [List.getElem?_toArray, List.getElem?_cons_zero, List.getElem?_cons_succ] at a0 a1 a2 a3 a4 a5
      go_wp2_with fail
      clear a0 a1 a2 a3 a4 a5
      have hQ := Held.new w8 23 #[.int .i64 y, .int .i64 m, .int .i64 D]
      have hU := hU.alloc (Obj.cells #[.int .i64 y, .int .i64 m, .int .i64 D] 23)
      have hV := hV.alloc (Obj.cells #[.int .i64 y, .int .i64 m, .int .i64 D] 23)
      have b := below_alloc b (Obj.cells #[.int .i64 y, .int .i64 m, .int .i64 D] 23)
      have hM := hM.alloc (Obj.cells #[.int .i64 y, .int .i64 m, .int .i64 D] 23)
      clear zm
      generalize w8.alloc (Obj.cells #[.int .i64 y, .int .i64 m, .int .i64 D] 23) = w9 at hQ hU hV hM b ⊢
      refine (rnth y m k n _).mono ?_
      rintro e w' ⟨rfl, rfl⟩
      rw [HR.out]
      clear HR
      have zm := hM.lt
      have zu := hU.lt
      have zv := hV.lt
      have zq := hQ.lt
      have me := fun (w : World) => moment_same w 0 0 0 0 0 0
      have de := fun (w : World) => date_same w y m D
      have a0 := hM.cell 0
      have a1 := hM.cell 1
      have a2 := hM.cell 2
      have a3 := hM.cell 3
      have a4 := hM.cell 4
      have a5 := hM.cell 5
      simp only [List.getElem?_toArray, List.getElem?_cons_zero, List.getElem?_cons_succ] at a0 a1 a2 a3 a4 a5
      have u0 := hU.cell 0
      have u1 := hU.cell 1
      have u2 := hU.cell 2
      have u3 := hU.cell 3
      have u4 := hU.cell 4
      have u5 := hU.cell 5
      simp only [List.getElem?_toArray, List.getElem?_cons_zero, List.getElem?_cons_succ] at u0 u1 u2 u3 u4 u5
      have v0 := hV.cell 0
      have v1 := hV.cell 1
      have v2 := hV.cell 2
      have v3 := hV.cell 3
      have v4 := hV.cell 4
      have v5 := hV.cell 5
      simp only [List.getElem?_toArray, List.getElem?_cons_zero, List.getElem?_cons_succ] at v0 v1 v2 v3 v4 v5
      have q0 := hQ.cell 0
      have q1 := hQ.cell 1
      have q2 := hQ.cell 2
      simp only [List.getElem?_toArray, List.getElem?_cons_zero, List.getElem?_cons_succ] at q0 q1 q2
      go_wp2
      go_ret
      exact ⟨rfl, below_alloc b _⟩
    | false =>
      have HR := Lib.hid (rnV_no hnb)
      refine (nth_own y m k n _ (HT.out.up b)).mono ?_
      rintro e w8 ⟨he, hb⟩
      rw [hnb] at he
      rw [if_neg (by decide)] at he
      subst he
      clear hnb
      have hU := hU.below hb hU.lt
      have hV := hV.below hb hV.lt
      have b := below_step b hb
      have hM := hM.below hb hM.lt
      clear hb
      have zm := hM.lt
      have a0 := hM.cell 0
      have a1 := hM.cell 1
      have a2 := hM.cell 2
      have a3 := hM.cell 3
      have a4 := hM.cell 4
      have a5 := hM.cell 5
      simp only [List.getElem?_toArray, List.getElem?_cons_zero, List.getElem?_cons_succ] at a0 a1 a2 a3 a4 a5
      go_wp2_with fail
      clear a0 a1 a2 a3 a4 a5
      have hQ := Held.new w8 23 #[.int .i64 0, .int .i64 0, .int .i64 0]
      have hU := hU.alloc (Obj.cells #[.int .i64 0, .int .i64 0, .int .i64 0] 23)
      have hV := hV.alloc (Obj.cells #[.int .i64 0, .int .i64 0, .int .i64 0] 23)
      have b := below_alloc b (Obj.cells #[.int .i64 0, .int .i64 0, .int .i64 0] 23)
      have hM := hM.alloc (Obj.cells #[.int .i64 0, .int .i64 0, .int .i64 0] 23)
      clear zm
      generalize w8.alloc (Obj.cells #[.int .i64 0, .int .i64 0, .int .i64 0] 23) = w9 at hQ hU hV hM b ⊢
      refine (rnth y m k n _).mono ?_
      rintro e w' ⟨rfl, rfl⟩
      rw [HR.out]
      clear HR
      have zm := hM.lt
      have zu := hU.lt
      have zv := hV.lt
      have zq := hQ.lt
      have me := fun (w : World) => moment_same w 0 0 0 0 0 0
      have de := fun (w : World) => date_same w 0 0 0
      have a0 := hM.cell 0
      have a1 := hM.cell 1
      have a2 := hM.cell 2
      have a3 := hM.cell 3
      have a4 := hM.cell 4
      have a5 := hM.cell 5
      simp only [List.getElem?_toArray, List.getElem?_cons_zero, List.getElem?_cons_succ] at a0 a1 a2 a3 a4 a5
      have u0 := hU.cell 0
      have u1 := hU.cell 1
      have u2 := hU.cell 2
      have u3 := hU.cell 3
      have u4 := hU.cell 4
      have u5 := hU.cell 5
      simp only [List.getElem?_toArray, List.getElem?_cons_zero, List.getElem?_cons_succ] at u0 u1 u2 u3 u4 u5
      have v0 := hV.cell 0
      have v1 := hV.cell 1
      have v2 := hV.cell 2
      have v3 := hV.cell 3
      have v4 := hV.cell 4
      have v5 := hV.cell 5
      simp only [List.getElem?_toArray, List.getElem?_cons_zero, List.getElem?_cons_succ] at v0 v1 v2 v3 v4 v5
      have q0 := hQ.cell 0
      have q1 := hQ.cell 1
      have q2 := hQ.cell 2
      simp only [List.getElem?_toArray, List.getElem?_cons_zero, List.getElem?_cons_succ] at q0 q1 q2
      go_wp2
      go_ret
      exact ⟨rfl, below_alloc b _⟩
  | true =>
    cases hc : clkB (s.extract 10 19) with
    | false =>
      have HA := Lib.hid (show atV s = .tuple #[.agg #[.int .i64 0, .int .i64 0, .int .i64 0, .int .i64 0, .int .i64 0, .int .i64 0], .int .i64 60] by rw [atV, if_neg (by rw [HS.out, hr, hc]; decide)])
      have HR := Lib.hid (show refV (s.extract 0 10) = .tuple #[.int .i64 (numAt (s.extract 0 10) 0 4), .int .i64 (numAt (s.extract 0 10) 5 7), .int .i64 (numAt (s.extract 0 10) 8 10), .int .i64 0] by rw [refV, if_pos hr])
      have HC := Lib.hid (show clkV (s.extract 10 19) = .tuple #[.int .i64 0, .int .i64 0, .int .i64 0, .int .i64 60] from clkV_no hc)
      clear HS hr hc x1 x2 x3
      generalize numAt (s.extract 0 10) 0 4 = Y2 at HR
      generalize numAt (s.extract 0 10) 5 7 = M2 at HR
      generalize numAt (s.extract 0 10) 8 10 = D2 at HR
      refine (parseat_own s h19 _ (HT.out.up b) (tabIs_up HPP.out b)).mono ?_
      rintro e w6 ⟨rfl, hb⟩
      rw [HA.out]
      have b := below_step b hb
      have hM := hM.below hb hM.lt
      clear hb
      clear HA
      go_wp2_with fail
      refine (parse_ref (s.extract 0 10) _).mono ?_
      rintro e w' ⟨rfl, rfl⟩
      rw [HR.out]
      clear HR
      go_wp2_with fail
      refine (clock_parse (s.extract 10 19) _).mono ?_
      rintro e w' ⟨rfl, rfl⟩
      rw [HC.out]
      clear HC
      have zm := hM.lt
      have a0 := hM.cell 0
      have a1 := hM.cell 1
      have a2 := hM.cell 2
      have a3 := hM.cell 3
      have a4 := hM.cell 4
      have a5 := hM.cell 5
      simp only [List.getElem?_toArray, List.getElem?_cons_zero, List.getElem?_cons_succ] at a0 a1 a2 a3 a4 a5
      have zm2 : w.heap.size < w6.heap.size + 1 := by omega
      go_wp2_with fail
      clear a0 a1 a2 a3 a4 a5
      have hU := (Held.new w6 41 #[.int .i64 0, .int .i64 0, .int .i64 0, .int .i64 0, .int .i64 0, .int .i64 0]).alloc (Obj.cells #[.int .i64 0, .int .i64 0, .int .i64 0, .int .i64 0, .int .i64 0, .int .i64 0] 41)
      have hV := Held.new (w6.alloc (Obj.cells #[.int .i64 0, .int .i64 0, .int .i64 0, .int .i64 0, .int .i64 0, .int .i64 0] 41)) 41 #[.int .i64 0, .int .i64 0, .int .i64 0, .int .i64 0, .int .i64 0, .int .i64 0]
      rw [World.size_alloc] at hV
      have b := below_alloc (below_alloc b (Obj.cells #[.int .i64 0, .int .i64 0, .int .i64 0, .int .i64 0, .int .i64 0, .int .i64 0] 41)) (Obj.cells #[.int .i64 0, .int .i64 0, .int .i64 0, .int .i64 0, .int .i64 0, .int .i64 0] 41)
      have hM := (hM.alloc (Obj.cells #[.int .i64 0, .int .i64 0, .int .i64 0, .int .i64 0, .int .i64 0, .int .i64 0] 41)).alloc (Obj.cells #[.int .i64 0, .int .i64 0, .int .i64 0, .int .i64 0, .int .i64 0, .int .i64 0] 41)
      clear zm zm2 h19
      generalize (w6.alloc (Obj.cells #[.int .i64 0, .int .i64 0, .int .i64 0, .int .i64 0, .int .i64 0, .int .i64 0] 41)).alloc (Obj.cells #[.int .i64 0, .int .i64 0, .int .i64 0, .int .i64 0, .int .i64 0, .int .i64 0] 41) = w7 at hU hV hM b ⊢
      cases hnb : nthB y m k n with
      | true =>
        have HR := Lib.hid (show rnV y m k n = .tuple #[.int .i64 (nthD y m k n), .int .i64 0] by rw [rnV, if_pos hnb])
        refine (nth_own y m k n _ (HT.out.up b)).mono ?_
        rintro e w8 ⟨he, hb⟩
        rw [hnb] at he
        rw [if_pos rfl] at he
        subst he
        clear hnb
        have hU := hU.below hb hU.lt
        have hV := hV.below hb hV.lt
        have b := below_step b hb
        have hM := hM.below hb hM.lt
        clear hb
        generalize nthD y m k n = D at HR ⊢
        have zm := hM.lt
        have a0 := hM.cell 0
        have a1 := hM.cell 1
        have a2 := hM.cell 2
        have a3 := hM.cell 3
        have a4 := hM.cell 4
        have a5 := hM.cell 5
        simp only [List.getElem?_toArray, List.getElem?_cons_zero, List.getElem?_cons_succ] at a0 a1 a2 a3 a4 a5
        go_wp2_with fail
        clear a0 a1 a2 a3 a4 a5
        have hQ := Held.new w8 23 #[.int .i64 y, .int .i64 m, .int .i64 D]
        have hU := hU.alloc (Obj.cells #[.int .i64 y, .int .i64 m, .int .i64 D] 23)
        have hV := hV.alloc (Obj.cells #[.int .i64 y, .int .i64 m, .int .i64 D] 23)
        have b := below_alloc b (Obj.cells #[.int .i64 y, .int .i64 m, .int .i64 D] 23)
        have hM := hM.alloc (Obj.cells #[.int .i64 y, .int .i64 m, .int .i64 D] 23)
        clear zm
        generalize w8.alloc (Obj.cells #[.int .i64 y, .int .i64 m, .int .i64 D] 23) = w9 at hQ hU hV hM b ⊢
        refine (rnth y m k n _).mono ?_
        rintro e w' ⟨rfl, rfl⟩
        rw [HR.out]
        clear HR
        have zm := hM.lt
        have zu := hU.lt
        have zv := hV.lt
        have zq := hQ.lt
        have me := fun (w : World) => moment_same w 0 0 0 0 0 0
        have de := fun (w : World) => date_same w y m D
        have a0 := hM.cell 0
        have a1 := hM.cell 1
        have a2 := hM.cell 2
        have a3 := hM.cell 3
        have a4 := hM.cell 4
        have a5 := hM.cell 5
        simp only [List.getElem?_toArray, List.getElem?_cons_zero, List.getElem?_cons_succ] at a0 a1 a2 a3 a4 a5
        have u0 := hU.cell 0
        have u1 := hU.cell 1
        have u2 := hU.cell 2
        have u3 := hU.cell 3
        have u4 := hU.cell 4
        have u5 := hU.cell 5
        simp only [List.getElem?_toArray, List.getElem?_cons_zero, List.getElem?_cons_succ] at u0 u1 u2 u3 u4 u5
        have v0 := hV.cell 0
        have v1 := hV.cell 1
        have v2 := hV.cell 2
        have v3 := hV.cell 3
        have v4 := hV.cell 4
        have v5 := hV.cell 5
        simp only [List.getElem?_toArray, List.getElem?_cons_zero, List.getElem?_cons_succ] at v0 v1 v2 v3 v4 v5
        have q0 := hQ.cell 0
        have q1 := hQ.cell 1
        have q2 := hQ.cell 2
        simp only [List.getElem?_toArray, List.getElem?_cons_zero, List.getElem?_cons_succ] at q0 q1 q2
        go_wp2
        go_ret
        exact ⟨rfl, below_alloc b _⟩
      | false =>
        have HR := Lib.hid (rnV_no hnb)
        refine (nth_own y m k n _ (HT.out.up b)).mono ?_
        rintro e w8 ⟨he, hb⟩
        rw [hnb] at he
        rw [if_neg (by decide)] at he
        subst he
        clear hnb
        have hU := hU.below hb hU.lt
        have hV := hV.below hb hV.lt
        have b := below_step b hb
        have hM := hM.below hb hM.lt
        clear hb
        have zm := hM.lt
        have a0 := hM.cell 0
        have a1 := hM.cell 1
        have a2 := hM.cell 2
        have a3 := hM.cell 3
        have a4 := hM.cell 4
        have a5 := hM.cell 5
        simp only [List.getElem?_toArray, List.getElem?_cons_zero, List.getElem?_cons_succ] at a0 a1 a2 a3 a4 a5
        go_wp2_with fail
        clear a0 a1 a2 a3 a4 a5
        have hQ := Held.new w8 23 #[.int .i64 0, .int .i64 0, .int .i64 0]
        have hU := hU.alloc (Obj.cells #[.int .i64 0, .int .i64 0, .int .i64 0] 23)
        have hV := hV.alloc (Obj.cells #[.int .i64 0, .int .i64 0, .int .i64 0] 23)
        have b := below_alloc b (Obj.cells #[.int .i64 0, .int .i64 0, .int .i64 0] 23)
        have hM := hM.alloc (Obj.cells #[.int .i64 0, .int .i64 0, .int .i64 0] 23)
        clear zm
        generalize w8.alloc (Obj.cells #[.int .i64 0, .int .i64 0, .int .i64 0] 23) = w9 at hQ hU hV hM b ⊢
        refine (rnth y m k n _).mono ?_
        rintro e w' ⟨rfl, rfl⟩
        rw [HR.out]
        clear HR
        have zm := hM.lt
        have zu := hU.lt
        have zv := hV.lt
        have zq := hQ.lt
        have me := fun (w : World) => moment_same w 0 0 0 0 0 0
        have de := fun (w : World) => date_same w 0 0 0
        have a0 := hM.cell 0
        have a1 := hM.cell 1
        have a2 := hM.cell 2
        have a3 := hM.cell 3
        have a4 := hM.cell 4
        have a5 := hM.cell 5
        simp only [List.getElem?_toArray, List.getElem?_cons_zero, List.getElem?_cons_succ] at a0 a1 a2 a3 a4 a5
        have u0 := hU.cell 0
        have u1 := hU.cell 1
        have u2 := hU.cell 2
        have u3 := hU.cell 3
        have u4 := hU.cell 4
        have u5 := hU.cell 5
        simp only [List.getElem?_toArray, List.getElem?_cons_zero, List.getElem?_cons_succ] at u0 u1 u2 u3 u4 u5
        have v0 := hV.cell 0
        have v1 := hV.cell 1
        have v2 := hV.cell 2
        have v3 := hV.cell 3
        have v4 := hV.cell 4
        have v5 := hV.cell 5
        simp only [List.getElem?_toArray, List.getElem?_cons_zero, List.getElem?_cons_succ] at v0 v1 v2 v3 v4 v5
        have q0 := hQ.cell 0
        have q1 := hQ.cell 1
        have q2 := hQ.cell 2
        simp only [List.getElem?_toArray, List.getElem?_cons_zero, List.getElem?_cons_succ] at q0 q1 q2
        go_wp2
        go_ret
        exact ⟨rfl, below_alloc b _⟩
    | true =>
      have HA := Lib.hid (show atV s = .tuple #[.agg #[.int .i64 (numAt (s.extract 0 10) 0 4), .int .i64 (numAt (s.extract 0 10) 5 7), .int .i64 (numAt (s.extract 0 10) 8 10), .int .i64 (numAt (s.extract 10 19) 1 3), .int .i64 (numAt (s.extract 10 19) 4 6), .int .i64 (numAt (s.extract 10 19) 7 9)], .int .i64 0] by rw [atV, if_pos (by rw [HS.out, hr, hc]; rfl), x1, x2, x3])
      have HR := Lib.hid (show refV (s.extract 0 10) = .tuple #[.int .i64 (numAt (s.extract 0 10) 0 4), .int .i64 (numAt (s.extract 0 10) 5 7), .int .i64 (numAt (s.extract 0 10) 8 10), .int .i64 0] by rw [refV, if_pos hr])
      have HC := Lib.hid (show clkV (s.extract 10 19) = .tuple #[.int .i64 (numAt (s.extract 10 19) 1 3), .int .i64 (numAt (s.extract 10 19) 4 6), .int .i64 (numAt (s.extract 10 19) 7 9), .int .i64 0] by rw [clkV, if_pos hc])
      clear HS hr hc x1 x2 x3
      generalize numAt (s.extract 0 10) 0 4 = Y2 at HA HR
      generalize numAt (s.extract 0 10) 5 7 = M2 at HA HR
      generalize numAt (s.extract 0 10) 8 10 = D2 at HA HR
      generalize numAt (s.extract 10 19) 1 3 = H2 at HA HC
      generalize numAt (s.extract 10 19) 4 6 = I2 at HA HC
      generalize numAt (s.extract 10 19) 7 9 = S2 at HA HC
      refine (parseat_own s h19 _ (HT.out.up b) (tabIs_up HPP.out b)).mono ?_
      rintro e w6 ⟨rfl, hb⟩
      rw [HA.out]
      have b := below_step b hb
      have hM := hM.below hb hM.lt
      clear hb
      clear HA
      go_wp2_with fail
      refine (parse_ref (s.extract 0 10) _).mono ?_
      rintro e w' ⟨rfl, rfl⟩
      rw [HR.out]
      clear HR
      go_wp2_with fail
      refine (clock_parse (s.extract 10 19) _).mono ?_
      rintro e w' ⟨rfl, rfl⟩
      rw [HC.out]
      clear HC
      have zm := hM.lt
      have a0 := hM.cell 0
      have a1 := hM.cell 1
      have a2 := hM.cell 2
      have a3 := hM.cell 3
      have a4 := hM.cell 4
      have a5 := hM.cell 5
      simp only [List.getElem?_toArray, List.getElem?_cons_zero, List.getElem?_cons_succ] at a0 a1 a2 a3 a4 a5
      have zm2 : w.heap.size < w6.heap.size + 1 := by omega
      go_wp2_with fail
      clear a0 a1 a2 a3 a4 a5
      have hU := (Held.new w6 41 #[.int .i64 Y2, .int .i64 M2, .int .i64 D2, .int .i64 H2, .int .i64 I2, .int .i64 S2]).alloc (Obj.cells #[.int .i64 Y2, .int .i64 M2, .int .i64 D2, .int .i64 H2, .int .i64 I2, .int .i64 S2] 41)
      have hV := Held.new (w6.alloc (Obj.cells #[.int .i64 Y2, .int .i64 M2, .int .i64 D2, .int .i64 H2, .int .i64 I2, .int .i64 S2] 41)) 41 #[.int .i64 Y2, .int .i64 M2, .int .i64 D2, .int .i64 H2, .int .i64 I2, .int .i64 S2]
      rw [World.size_alloc] at hV
      have b := below_alloc (below_alloc b (Obj.cells #[.int .i64 Y2, .int .i64 M2, .int .i64 D2, .int .i64 H2, .int .i64 I2, .int .i64 S2] 41)) (Obj.cells #[.int .i64 Y2, .int .i64 M2, .int .i64 D2, .int .i64 H2, .int .i64 I2, .int .i64 S2] 41)
      have hM := (hM.alloc (Obj.cells #[.int .i64 Y2, .int .i64 M2, .int .i64 D2, .int .i64 H2, .int .i64 I2, .int .i64 S2] 41)).alloc (Obj.cells #[.int .i64 Y2, .int .i64 M2, .int .i64 D2, .int .i64 H2, .int .i64 I2, .int .i64 S2] 41)
      clear zm zm2 h19
      generalize (w6.alloc (Obj.cells #[.int .i64 Y2, .int .i64 M2, .int .i64 D2, .int .i64 H2, .int .i64 I2, .int .i64 S2] 41)).alloc (Obj.cells #[.int .i64 Y2, .int .i64 M2, .int .i64 D2, .int .i64 H2, .int .i64 I2, .int .i64 S2] 41) = w7 at hU hV hM b ⊢
      cases hnb : nthB y m k n with
      | true =>
        have HR := Lib.hid (show rnV y m k n = .tuple #[.int .i64 (nthD y m k n), .int .i64 0] by rw [rnV, if_pos hnb])
        refine (nth_own y m k n _ (HT.out.up b)).mono ?_
        rintro e w8 ⟨he, hb⟩
        rw [hnb] at he
        rw [if_pos rfl] at he
        subst he
        clear hnb
        have hU := hU.below hb hU.lt
        have hV := hV.below hb hV.lt
        have b := below_step b hb
        have hM := hM.below hb hM.lt
        clear hb
        generalize nthD y m k n = D at HR ⊢
        have zm := hM.lt
        have a0 := hM.cell 0
        have a1 := hM.cell 1
        have a2 := hM.cell 2
        have a3 := hM.cell 3
        have a4 := hM.cell 4
        have a5 := hM.cell 5
        simp only [List.getElem?_toArray, List.getElem?_cons_zero, List.getElem?_cons_succ] at a0 a1 a2 a3 a4 a5
        go_wp2_with fail
        clear a0 a1 a2 a3 a4 a5
        have hQ := Held.new w8 23 #[.int .i64 y, .int .i64 m, .int .i64 D]
        have hU := hU.alloc (Obj.cells #[.int .i64 y, .int .i64 m, .int .i64 D] 23)
        have hV := hV.alloc (Obj.cells #[.int .i64 y, .int .i64 m, .int .i64 D] 23)
        have b := below_alloc b (Obj.cells #[.int .i64 y, .int .i64 m, .int .i64 D] 23)
        have hM := hM.alloc (Obj.cells #[.int .i64 y, .int .i64 m, .int .i64 D] 23)
        clear zm
        generalize w8.alloc (Obj.cells #[.int .i64 y, .int .i64 m, .int .i64 D] 23) = w9 at hQ hU hV hM b ⊢
        refine (rnth y m k n _).mono ?_
        rintro e w' ⟨rfl, rfl⟩
        rw [HR.out]
        clear HR
        have zm := hM.lt
        have zu := hU.lt
        have zv := hV.lt
        have zq := hQ.lt
        have me := fun (w : World) => moment_same w Y2 M2 D2 H2 I2 S2
        have de := fun (w : World) => date_same w y m D
        have a0 := hM.cell 0
        have a1 := hM.cell 1
        have a2 := hM.cell 2
        have a3 := hM.cell 3
        have a4 := hM.cell 4
        have a5 := hM.cell 5
        simp only [List.getElem?_toArray, List.getElem?_cons_zero, List.getElem?_cons_succ] at a0 a1 a2 a3 a4 a5
        have u0 := hU.cell 0
        have u1 := hU.cell 1
        have u2 := hU.cell 2
        have u3 := hU.cell 3
        have u4 := hU.cell 4
        have u5 := hU.cell 5
        simp only [List.getElem?_toArray, List.getElem?_cons_zero, List.getElem?_cons_succ] at u0 u1 u2 u3 u4 u5
        have v0 := hV.cell 0
        have v1 := hV.cell 1
        have v2 := hV.cell 2
        have v3 := hV.cell 3
        have v4 := hV.cell 4
        have v5 := hV.cell 5
        simp only [List.getElem?_toArray, List.getElem?_cons_zero, List.getElem?_cons_succ] at v0 v1 v2 v3 v4 v5
        have q0 := hQ.cell 0
        have q1 := hQ.cell 1
        have q2 := hQ.cell 2
        simp only [List.getElem?_toArray, List.getElem?_cons_zero, List.getElem?_cons_succ] at q0 q1 q2
        go_wp2
        go_ret
        exact ⟨rfl, below_alloc b _⟩
      | false =>
        have HR := Lib.hid (rnV_no hnb)
        refine (nth_own y m k n _ (HT.out.up b)).mono ?_
        rintro e w8 ⟨he, hb⟩
        rw [hnb] at he
        rw [if_neg (by decide)] at he
        subst he
        clear hnb
        have hU := hU.below hb hU.lt
        have hV := hV.below hb hV.lt
        have b := below_step b hb
        have hM := hM.below hb hM.lt
        clear hb
        have zm := hM.lt
        have a0 := hM.cell 0
        have a1 := hM.cell 1
        have a2 := hM.cell 2
        have a3 := hM.cell 3
        have a4 := hM.cell 4
        have a5 := hM.cell 5
        simp only [List.getElem?_toArray, List.getElem?_cons_zero, List.getElem?_cons_succ] at a0 a1 a2 a3 a4 a5
        go_wp2_with fail
        clear a0 a1 a2 a3 a4 a5
        have hQ := Held.new w8 23 #[.int .i64 0, .int .i64 0, .int .i64 0]
        have hU := hU.alloc (Obj.cells #[.int .i64 0, .int .i64 0, .int .i64 0] 23)
        have hV := hV.alloc (Obj.cells #[.int .i64 0, .int .i64 0, .int .i64 0] 23)
        have b := below_alloc b (Obj.cells #[.int .i64 0, .int .i64 0, .int .i64 0] 23)
        have hM := hM.alloc (Obj.cells #[.int .i64 0, .int .i64 0, .int .i64 0] 23)
        clear zm
        generalize w8.alloc (Obj.cells #[.int .i64 0, .int .i64 0, .int .i64 0] 23) = w9 at hQ hU hV hM b ⊢
        refine (rnth y m k n _).mono ?_
        rintro e w' ⟨rfl, rfl⟩
        rw [HR.out]
        clear HR
        have zm := hM.lt
        have zu := hU.lt
        have zv := hV.lt
        have zq := hQ.lt
        have me := fun (w : World) => moment_same w Y2 M2 D2 H2 I2 S2
        have de := fun (w : World) => date_same w 0 0 0
        have a0 := hM.cell 0
        have a1 := hM.cell 1
        have a2 := hM.cell 2
        have a3 := hM.cell 3
        have a4 := hM.cell 4
        have a5 := hM.cell 5
        simp only [List.getElem?_toArray, List.getElem?_cons_zero, List.getElem?_cons_succ] at a0 a1 a2 a3 a4 a5
        have u0 := hU.cell 0
        have u1 := hU.cell 1
        have u2 := hU.cell 2
        have u3 := hU.cell 3
        have u4 := hU.cell 4
        have u5 := hU.cell 5
        simp only [List.getElem?_toArray, List.getElem?_cons_zero, List.getElem?_cons_succ] at u0 u1 u2 u3 u4 u5
        have v0 := hV.cell 0
        have v1 := hV.cell 1
        have v2 := hV.cell 2
        have v3 := hV.cell 3
        have v4 := hV.cell 4
        have v5 := hV.cell 5
        simp only [List.getElem?_toArray, List.getElem?_cons_zero, List.getElem?_cons_succ] at v0 v1 v2 v3 v4 v5
        have q0 := hQ.cell 0
        have q1 := hQ.cell 1
        have q2 := hQ.cell 2
        simp only [List.getElem?_toArray, List.getElem?_cons_zero, List.getElem?_cons_succ] at q0 q1 q2
        go_wp2
        go_ret
        exact ⟨rfl, below_alloc b _⟩
end Go.Proofs.YtgeocjodkkkiiaaDoor
