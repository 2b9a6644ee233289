/- pdu.fields. -/
import Derived.Test.YtcipleanckeoaaaDoorYTk
import Derived.Test.YtcipleanckeoaaaDoorYPduBase
import Derived.Test.YtcipleanckeoaaaDoorYPduList
import Derived.Test.YtcipleanckeoaaaDoorYPduFrom
import Derived.Deep.Cut
open List renaming getElem_toArray → zA, getElem_cons_zero → zB, setIfInBounds_toArray → zC, set_cons_succ → zD, set_cons_zero → zE, getElem_cons_succ → zF
set_option maxRecDepth 100000
set_option maxHeartbeats 40000000
namespace Go.Proofs.YtcipleanckeoaaaDoor
open Go.RowKit
set_option linter.unusedVariables false
def FPost (w : World) (o : Option AskP) (e : Ending) (w' : World) : Prop := ∃ v a, e = .returned (.tuple #[v, .bool o.isSome]) ∧ AskAt w' v (o.getD a) ∧ Below w.heap.size w w'
theorem fields_short (fn rd bt rg : Int) (A : Option Addr) (n c : Nat) (d : List Int) (w : World) (hD : SlI w w.heap.size .u8 A n c d) (hd8 : Byte8 d) (hn : n ≤ 1000) (hs : n < 4) :
  Calls Tryd.prog 122 #[.agg #[.int .i64 fn, .int .i64 rd, .int .i64 bt, .int .i64 rg], .slice A n c] w (FPost w none) := by
 obtain ⟨w1, HW1, hb1, hL1, hO1, hA1⟩ := zF0 w fn rd bt rg
 have HD := Lib.hid (fun (X : World) (h : Below w.heap.size w X) => hD.up h)
 have HWD := Lib.hid (fun (X : World) (h : Below w.heap.size w X) => pwords_any A n c d (by omega) X (hD.up h) hd8)
 have hl := hD.1
 clear hD
 obtain ⟨m, hm⟩ : ∃ m, n / 2 = m := ⟨_, rfl⟩
 have hm1 : 2 * m ≤ n := by omega
 have hm2 : n ≤ 2 * m + 1 := by omega
 rw [hm] at HWD
 clear hm
 have hu := Tryd.underlying59
 have hsz := zSz
 have h2 : (m : Int) < 2 := by omega
 go_in
 go_upto_region 2 with fail
 rw [HW1.out]
 go_upto_region 3 with (go_at_call 142; (with_reducible refine (HWD.out w1 hb1).mono ?_); rintro e w2 ⟨A2, c2, rfl, s2, hf2, hb2⟩)
 have hb2w := hb1.trans (hb2.mono hb1.size)
 have hL2 := hL1.below hb2 hL1.lt
 have hO2 := hO1.below hb2 hO1.lt
 have hA2 := hA1.below hb2 hA1.lt
 obtain ⟨l2_0, l2_1, l2_2, l2_3⟩ := four_cells hL2
 obtain ⟨o2_0, o2_1, o2_2, o2_3, o2_4, o2_5⟩ := six_cells hO2
 obtain ⟨a2_0, a2_1, a2_2, a2_3, a2_4, a2_5⟩ := six_cells hA2
 have fo2 := hO2.frozen
 have fa2 := hA2.frozen
 have zL2 := hL2.lt
 have zO2 := hO2.lt
 have zA2 := hA2.lt
 go_wp2_with ((with_reducible refine at_loadT 59 6 ?_); refine wpList_load_rowG rfl 59 (.tmp 6) rfl (w.heap.size + 1 + 1) rfl 59 _ _ hA2 hu rfl hsz ?_)
 obtain ⟨wz, hwz, hbz, hZ, hoff⟩ := six hb2w hO2 (Nat.le_succ _) (.int .i64 fn) (.int .i64 0) (.int .i64 0) (.int .i64 0) (.slice none 0 0) (.slice none 0 0)
 obtain ⟨z0, z1, z2, z3, z4, z5⟩ := six_cells hZ
 rw [hwz]
 exact bodyPost_ret (v := .tuple #[.agg #[.int .i64 fn, .int .i64 0, .int .i64 0, .int .i64 0, .slice none 0 0, .slice none 0 0], .bool false]) (by simp [results, Tryd.results122, go_sem, z0, z1, z2, z3, z4, z5]) rfl ⟨_, ⟨fn, 0, 0, 0, [], []⟩, rfl, ⟨none, 0, 0, none, 0, 0, rfl, SlB.nil _ _, SlI.nil _ _ _⟩, hbz⟩
theorem fields_dn (fn rd bt rg : Int) (A : Option Addr) (n c : Nat) (d : List Int) (w : World) (hD : SlI w w.heap.size .u8 A n c d) (hd8 : Byte8 d) (hn : n ≤ 1000) (hs : 4 ≤ n) (h4 : ((n : Int) == 4) = false) (t5 : (fn == 5) = false) (t6 : (fn == 6) = false) (t15 : (fn == 15) = false) (t16 : (fn == 16) = false) (t23 : (fn == 23) = false) :
  Calls Tryd.prog 122 #[.agg #[.int .i64 fn, .int .i64 rd, .int .i64 bt, .int .i64 rg], .slice A n c] w (FPost w none) := by
 obtain ⟨w1, HW1, hb1, hL1, hO1, hA1⟩ := zF0 w fn rd bt rg
 have HD := Lib.hid (fun (X : World) (h : Below w.heap.size w X) => hD.up h)
 have HWD := Lib.hid (fun (X : World) (h : Below w.heap.size w X) => pwords_any A n c d (by omega) X (hD.up h) hd8)
 have hl := hD.1
 clear hD
 obtain ⟨m, hm⟩ : ∃ m, n / 2 = m := ⟨_, rfl⟩
 have hm1 : 2 * m ≤ n := by omega
 have hm2 : n ≤ 2 * m + 1 := by omega
 rw [hm] at HWD
 clear hm
 have hu := Tryd.underlying59
 have hsz := zSz
 have h2 : ¬ (m : Int) < 2 := by omega
 have h0m : 0 < m := by omega
 have h1m : 1 < m := by omega
 have h0m' : (0 : Int) < (m : Int) := by omega
 have h1m' : (1 : Int) < (m : Int) := by omega
 have HF := Lib.hid (fun (a b : Int) (X : World) => fits_own a b X)
 go_in
 go_upto_region 2 with fail
 rw [HW1.out]
 go_upto_region 3 with (go_at_call 142; (with_reducible refine (HWD.out w1 hb1).mono ?_); rintro e w2 ⟨A2, c2, rfl, s2, hf2, hb2⟩)
 have hb2w := hb1.trans (hb2.mono hb1.size)
 have hL2 := hL1.below hb2 hL1.lt
 have hO2 := hO1.below hb2 hO1.lt
 have hA2 := hA1.below hb2 hA1.lt
 obtain ⟨l2_0, l2_1, l2_2, l2_3⟩ := four_cells hL2
 obtain ⟨o2_0, o2_1, o2_2, o2_3, o2_4, o2_5⟩ := six_cells hO2
 obtain ⟨a2_0, a2_1, a2_2, a2_3, a2_4, a2_5⟩ := six_cells hA2
 have fo2 := hO2.frozen
 have fa2 := hA2.frozen
 have zL2 := hL2.lt
 have zO2 := hO2.lt
 have zA2 := hA2.lt
 obtain ⟨g2, o2, rfl, hg2, hc2⟩ := s2.2.2.2.2 (by rw [wordsP_len]; omega)
 have hx0 : (wordsP d)[0]? = some (wordP d 0) := by rw [List.getElem?_eq_getElem (by rw [wordsP_len]; omega)]; simp [wordsP]
 have hy0 : (wordsP d)[1]? = some (wordP d 2) := by rw [List.getElem?_eq_getElem (by rw [wordsP_len]; omega)]; simp [wordsP]
 have cx := hc2 0 _ hx0
 have cy := hc2 1 _ hy0
 obtain ⟨x, hx⟩ : ∃ x, wordP d 0 = x := ⟨_, rfl⟩
 obtain ⟨y, hy⟩ : ∃ y, wordP d 2 = y := ⟨_, rfl⟩
 rw [hx] at cx
 rw [hy] at cy
 rw [Nat.add_zero] at cx
 have HX := Lib.hid (fun (X : World) (h : Below w2.heap.size w2 X) => (h.cell (p := ⟨g2, o2, none⟩) hg2).trans cx)
 have HY := Lib.hid (fun (X : World) (h : Below w2.heap.size w2 X) => (h.cell (p := ⟨g2, o2 + 1, none⟩) hg2).trans cy)
 clear s2 hc2 hx0 hy0
 have hg2f := hf2 g2 o2 rfl
 have hz1 : w1.heap.size = w.heap.size + 3 := by rw [← HW1.out]; simp
 have hgne : g2 ≠ w.heap.size + 1 + 1 := by omega
 have HN := Lib.hid hgne
 clear hz1 hg2f hf2 hgne
 go_upto_region 6 with fail
 obtain ⟨w3, hw3⟩ : ∃ W, w2.setCell ⟨w.heap.size + 1 + 1, 1, none⟩ (.int .i64 x) = W := ⟨_, rfl⟩
 obtain ⟨hb3w, hL3, hO3⟩ := zF2 hw3 hb2w hL2 hO2
 have hA3 : Held w3 (w.heap.size + 1 + 1) 59 #[.int .i64 fn, .int .i64 x, .int .i64 0, .int .i64 0, .slice none 0 0, .slice none 0 0] := by rw [← hw3]; exact hA2.set 1 _
 have cx3 : w3.cell? ⟨g2, o2, none⟩ = some (.int .i64 x) := by rw [← hw3]; exact ((Kx.refl (w.heap.size + 1 + 1) w2.heap.size w2).set 1 (.int .i64 x)).cell (p := ⟨g2, o2, none⟩) HN.out hg2 |>.trans cx
 have cy3 : w3.cell? ⟨g2, o2 + 1, none⟩ = some (.int .i64 y) := by rw [← hw3]; exact ((Kx.refl (w.heap.size + 1 + 1) w2.heap.size w2).set 1 (.int .i64 x)).cell (p := ⟨g2, o2 + 1, none⟩) HN.out hg2 |>.trans cy
 rw [hw3]
 clear hw3
 obtain ⟨l3_0, l3_1, l3_2, l3_3⟩ := four_cells hL3
 obtain ⟨o3_0, o3_1, o3_2, o3_3, o3_4, o3_5⟩ := six_cells hO3
 obtain ⟨a3_0, a3_1, a3_2, a3_3, a3_4, a3_5⟩ := six_cells hA3
 have fo3 := hO3.frozen
 have fa3 := hA3.frozen
 have zL3 := hL3.lt
 have zO3 := hO3.lt
 have zA3 := hA3.lt
 go_upto_region 31 with fail
 obtain ⟨w4, hw4⟩ : ∃ W, w3.setCell ⟨w.heap.size + 1 + 1, 2, none⟩ (.int .i64 y) = W := ⟨_, rfl⟩
 obtain ⟨hb4w, hL4, hO4⟩ := zF2 hw4 hb3w hL3 hO3
 have hA4 : Held w4 (w.heap.size + 1 + 1) 59 #[.int .i64 fn, .int .i64 x, .int .i64 y, .int .i64 0, .slice none 0 0, .slice none 0 0] := by rw [← hw4]; exact hA3.set 2 _
 rw [hw4]
 clear hw4
 obtain ⟨w5, hw5⟩ : ∃ W : World, w4.drew = W := ⟨_, rfl⟩
 have hb5 := zB3 hw5
 have hb5w := hb4w.trans (hb5.mono hb4w.size)
 have hL5 := hL4.below hb5 hL4.lt
 have hO5 := hO4.below hb5 hO4.lt
 have hA5 := hA4.below hb5 hA4.lt
 refine wp_region_held (S := (fun X => Below w.heap.size w X ∧ Held X w.heap.size 167 #[.int .i64 fn, .int .i64 rd, .int .i64 bt, .int .i64 rg] ∧ Held X (w.heap.size + 1 + 1) 59 #[.int .i64 fn, .int .i64 x, .int .i64 y, .int .i64 0, .slice none 0 0, .slice none 0 0])) (by kernel_rfl) ?_
 change wpAnyH _ _ _ _ _ _ _ _ w4.drew
 rw [hw5]
 clear hw5
 have hS : (fun X => Below w.heap.size w X ∧ Held X w.heap.size 167 #[.int .i64 fn, .int .i64 rd, .int .i64 bt, .int .i64 rg] ∧ Held X (w.heap.size + 1 + 1) 59 #[.int .i64 fn, .int .i64 x, .int .i64 y, .int .i64 0, .slice none 0 0, .slice none 0 0]) w5 := ⟨hb5w, hL5, hA5⟩
 obtain ⟨o5_0, o5_1, o5_2, o5_3, o5_4, o5_5⟩ := six_cells hO5
 have fo5 := hO5.frozen
 have zO5 := hO5.lt
 refine zU 0 rfl hS ?_ (hy := fun W hH => by
  obtain ⟨hbW, hLW, hAW⟩ := hH
  obtain ⟨l0, l1, l2, l3⟩ := four_cells hLW
  obtain ⟨a0, a1, a2, a3, a4, a5⟩ := six_cells hAW
  clear hLW hAW hbW
  go_simp
  with_reducible rfl)
 refine zU 1 rfl hS ?_
 refine zU 2 rfl hS ?_
 refine zU 3 rfl hS ?_
 refine zU 4 rfl hS ?_
 refine zN 5 rfl hS ?_
 simp only [Act.put, zA, zF, zB, zC, zD, zE]
 refine zN 6 rfl hS ?_
 simp only [Act.put, zA, zF, zB, zC, zD, zE]
 refine zN 7 rfl hS ?_
 simp only [Act.put, zA, zF, zB, zC, zD, zE]
 refine zN 8 rfl hS ?_
 simp only [Act.put, zA, zF, zB, zC, zD, zE]
 refine zN 9 rfl hS ?_
 simp only [Act.put, zA, zF, zB, zC, zD, zE]
 refine zU 10 rfl hS ?_
 refine zR 11 rfl (fun K' hK' => ?_)
 go_simp
 refine hK'.out _ _ ⟨((((((hS.1.setCell (p := ⟨w.heap.size + 1, 0, none⟩) (by simp) _).setCell (p := ⟨w.heap.size + 1, 1, none⟩) (by simp) _).setCell (p := ⟨w.heap.size + 1, 2, none⟩) (by simp) _).setCell (p := ⟨w.heap.size + 1, 3, none⟩) (by simp) _).setCell (p := ⟨w.heap.size + 1, 4, none⟩) (by simp) _).setCell (p := ⟨w.heap.size + 1, 5, none⟩) (by simp) _), ((((((hS.2.1.far (p := ⟨w.heap.size + 1, 0, none⟩) (by show w.heap.size ≠ w.heap.size + 1; omega) _).far (p := ⟨w.heap.size + 1, 1, none⟩) (by show w.heap.size ≠ w.heap.size + 1; omega) _).far (p := ⟨w.heap.size + 1, 2, none⟩) (by show w.heap.size ≠ w.heap.size + 1; omega) _).far (p := ⟨w.heap.size + 1, 3, none⟩) (by show w.heap.size ≠ w.heap.size + 1; omega) _).far (p := ⟨w.heap.size + 1, 4, none⟩) (by show w.heap.size ≠ w.heap.size + 1; omega) _).far (p := ⟨w.heap.size + 1, 5, none⟩) (by show w.heap.size ≠ w.heap.size + 1; omega) _), ((((((hS.2.2.far (p := ⟨w.heap.size + 1, 0, none⟩) (by show w.heap.size + 1 + 1 ≠ w.heap.size + 1; omega) _).far (p := ⟨w.heap.size + 1, 1, none⟩) (by show w.heap.size + 1 + 1 ≠ w.heap.size + 1; omega) _).far (p := ⟨w.heap.size + 1, 2, none⟩) (by show w.heap.size + 1 + 1 ≠ w.heap.size + 1; omega) _).far (p := ⟨w.heap.size + 1, 3, none⟩) (by show w.heap.size + 1 + 1 ≠ w.heap.size + 1; omega) _).far (p := ⟨w.heap.size + 1, 4, none⟩) (by show w.heap.size + 1 + 1 ≠ w.heap.size + 1; omega) _).far (p := ⟨w.heap.size + 1, 5, none⟩) (by show w.heap.size + 1 + 1 ≠ w.heap.size + 1; omega) _)⟩ (fun hS => ?_)
 clear hK' K'
 refine zU 12 rfl hS ?_
 refine wpAnyH_done (by kernel_rfl) ?_ _
 go_wp2_with fail
 obtain ⟨wz, hwz, hbz, hZ, hoff⟩ := six hb5w hO5 (Nat.le_succ _) (.int .i64 fn) (.int .i64 x) (.int .i64 y) (.int .i64 0) (.slice none 0 0) (.slice none 0 0)
 obtain ⟨z0, z1, z2, z3, z4, z5⟩ := six_cells hZ
 rw [hwz]
 exact bodyPost_ret (v := .tuple #[.agg #[.int .i64 fn, .int .i64 x, .int .i64 y, .int .i64 0, .slice none 0 0, .slice none 0 0], .bool false]) (by simp [results, Tryd.results122, go_sem, z0, z1, z2, z3, z4, z5]) rfl ⟨_, ⟨fn, x, y, 0, [], []⟩, rfl, ⟨none, 0, 0, none, 0, 0, rfl, SlB.nil _ _, SlI.nil _ _ _⟩, hbz⟩
theorem wordP_in2 (b : List Int) (hb : Byte8 b) (h : 4 ≤ b.length) : 0 ≤ wordP b 2 ∧ wordP b 2 ≤ 65535 := by
 have a1 := hb _ (List.getElem_mem (show 2 < b.length by omega))
 have a2 := hb _ (List.getElem_mem (show 3 < b.length by omega))
 have b1 : b.getD 2 0 = b[2]'(by omega) := by simp [List.getD, show 2 < b.length by omega]
 have b2 : b.getD 3 0 = b[3]'(by omega) := by simp [List.getD, show 3 < b.length by omega]
 unfold wordP
 rw [b1, b2]
 omega
theorem fpost {w w' : World} {q : Bool} {p : AskP} {o : Option AskP} (ho : Hid (o = if q = true then some p else none)) {v : Value} (hv : AskAt w' v p) (hb : Below w.heap.size w w') : FPost w o (.returned (.tuple #[v, .bool q])) w' := by
 have h := ho.out
 subst h
 cases q
 ·exact ⟨v, p, rfl, hv, hb⟩
 ·exact ⟨v, p, rfl, hv, hb⟩
theorem SlB.lit {w : World} {T : TypeId} {b : Bool} : SlB (w.alloc (.cells #[.bool b] T)) (w.alloc (.cells #[.bool b] T)).heap.size (some ⟨w.heap.size, 0, none⟩) 1 1 [b] := by
 refine ⟨rfl, by omega, by simp [maxLen], fun h => absurd h (by simp), fun _ => ⟨w.heap.size, 0, rfl, by simp, fun i x hx => ?_⟩⟩
 obtain rfl : i = 0 := by
  have := (List.getElem?_eq_some_iff.1 hx).1
  simp at this
  omega
 simp at hx
 subst hx
 simp
theorem fields_d4t (fn rd bt rg : Int) (A : Option Addr) (n c : Nat) (d : List Int) (w : World) (hD : SlI w w.heap.size .u8 A n c d) (hd8 : Byte8 d) (hn : n ≤ 1000) (hs : 4 ≤ n) (h4 : ((n : Int) == 4) = true) (t5 : (fn == 5) = false) (t6 : (fn == 6) = false) (t15 : (fn == 15) = false) (t16 : (fn == 16) = false) (t23 : (fn == 23) = false) (hq : fitP (wordP d 2) rd = true) :
  Calls Tryd.prog 122 #[.agg #[.int .i64 fn, .int .i64 rd, .int .i64 bt, .int .i64 rg], .slice A n c] w (FPost w (some ⟨fn, wordP d 0, wordP d 2, 0, [], []⟩)) := by
 obtain ⟨w1, HW1, hb1, hL1, hO1, hA1⟩ := zF0 w fn rd bt rg
 have HD := Lib.hid (fun (X : World) (h : Below w.heap.size w X) => hD.up h)
 have HWD := Lib.hid (fun (X : World) (h : Below w.heap.size w X) => pwords_any A n c d (by omega) X (hD.up h) hd8)
 have hl := hD.1
 clear hD
 obtain ⟨m, hm⟩ : ∃ m, n / 2 = m := ⟨_, rfl⟩
 have hm1 : 2 * m ≤ n := by omega
 have hm2 : n ≤ 2 * m + 1 := by omega
 rw [hm] at HWD
 clear hm
 have hu := Tryd.underlying59
 have hsz := zSz
 have h2 : ¬ (m : Int) < 2 := by omega
 have h0m : 0 < m := by omega
 have h1m : 1 < m := by omega
 have h0m' : (0 : Int) < (m : Int) := by omega
 have h1m' : (1 : Int) < (m : Int) := by omega
 have HF := Lib.hid (fun (a b : Int) (X : World) => fits_own a b X)
 go_in
 go_upto_region 2 with fail
 rw [HW1.out]
 go_upto_region 3 with (go_at_call 142; (with_reducible refine (HWD.out w1 hb1).mono ?_); rintro e w2 ⟨A2, c2, rfl, s2, hf2, hb2⟩)
 have hb2w := hb1.trans (hb2.mono hb1.size)
 have hL2 := hL1.below hb2 hL1.lt
 have hO2 := hO1.below hb2 hO1.lt
 have hA2 := hA1.below hb2 hA1.lt
 obtain ⟨l2_0, l2_1, l2_2, l2_3⟩ := four_cells hL2
 obtain ⟨o2_0, o2_1, o2_2, o2_3, o2_4, o2_5⟩ := six_cells hO2
 obtain ⟨a2_0, a2_1, a2_2, a2_3, a2_4, a2_5⟩ := six_cells hA2
 have fo2 := hO2.frozen
 have fa2 := hA2.frozen
 have zL2 := hL2.lt
 have zO2 := hO2.lt
 have zA2 := hA2.lt
 obtain ⟨g2, o2, rfl, hg2, hc2⟩ := s2.2.2.2.2 (by rw [wordsP_len]; omega)
 have hx0 : (wordsP d)[0]? = some (wordP d 0) := by rw [List.getElem?_eq_getElem (by rw [wordsP_len]; omega)]; simp [wordsP]
 have hy0 : (wordsP d)[1]? = some (wordP d 2) := by rw [List.getElem?_eq_getElem (by rw [wordsP_len]; omega)]; simp [wordsP]
 have cx := hc2 0 _ hx0
 have cy := hc2 1 _ hy0
 obtain ⟨x, hx⟩ : ∃ x, wordP d 0 = x := ⟨_, rfl⟩
 obtain ⟨y, hy⟩ : ∃ y, wordP d 2 = y := ⟨_, rfl⟩
 rw [hx] at cx
 rw [hy] at cy
 rw [Nat.add_zero] at cx
 have HX := Lib.hid (fun (X : World) (h : Below w2.heap.size w2 X) => (h.cell (p := ⟨g2, o2, none⟩) hg2).trans cx)
 have HY := Lib.hid (fun (X : World) (h : Below w2.heap.size w2 X) => (h.cell (p := ⟨g2, o2 + 1, none⟩) hg2).trans cy)
 clear s2 hc2 hx0 hy0
 have hg2f := hf2 g2 o2 rfl
 have hz1 : w1.heap.size = w.heap.size + 3 := by rw [← HW1.out]; simp
 have hgne : g2 ≠ w.heap.size + 1 + 1 := by omega
 have HN := Lib.hid hgne
 clear hz1 hg2f hf2 hgne
 go_upto_region 6 with fail
 obtain ⟨w3, hw3⟩ : ∃ W, w2.setCell ⟨w.heap.size + 1 + 1, 1, none⟩ (.int .i64 x) = W := ⟨_, rfl⟩
 obtain ⟨hb3w, hL3, hO3⟩ := zF2 hw3 hb2w hL2 hO2
 have hA3 : Held w3 (w.heap.size + 1 + 1) 59 #[.int .i64 fn, .int .i64 x, .int .i64 0, .int .i64 0, .slice none 0 0, .slice none 0 0] := by rw [← hw3]; exact hA2.set 1 _
 have cx3 : w3.cell? ⟨g2, o2, none⟩ = some (.int .i64 x) := by rw [← hw3]; exact ((Kx.refl (w.heap.size + 1 + 1) w2.heap.size w2).set 1 (.int .i64 x)).cell (p := ⟨g2, o2, none⟩) HN.out hg2 |>.trans cx
 have cy3 : w3.cell? ⟨g2, o2 + 1, none⟩ = some (.int .i64 y) := by rw [← hw3]; exact ((Kx.refl (w.heap.size + 1 + 1) w2.heap.size w2).set 1 (.int .i64 x)).cell (p := ⟨g2, o2 + 1, none⟩) HN.out hg2 |>.trans cy
 rw [hw3]
 clear hw3
 obtain ⟨l3_0, l3_1, l3_2, l3_3⟩ := four_cells hL3
 obtain ⟨o3_0, o3_1, o3_2, o3_3, o3_4, o3_5⟩ := six_cells hO3
 obtain ⟨a3_0, a3_1, a3_2, a3_3, a3_4, a3_5⟩ := six_cells hA3
 have fo3 := hO3.frozen
 have fa3 := hA3.frozen
 have zL3 := hL3.lt
 have zO3 := hO3.lt
 have zA3 := hA3.lt
 go_upto_region 31 with fail
 obtain ⟨w4, hw4⟩ : ∃ W, w3.setCell ⟨w.heap.size + 1 + 1, 2, none⟩ (.int .i64 y) = W := ⟨_, rfl⟩
 obtain ⟨hb4w, hL4, hO4⟩ := zF2 hw4 hb3w hL3 hO3
 have hA4 : Held w4 (w.heap.size + 1 + 1) 59 #[.int .i64 fn, .int .i64 x, .int .i64 y, .int .i64 0, .slice none 0 0, .slice none 0 0] := by rw [← hw4]; exact hA3.set 2 _
 rw [hw4]
 clear hw4
 obtain ⟨w5, hw5⟩ : ∃ W : World, w4.drew = W := ⟨_, rfl⟩
 have hb5 := zB3 hw5
 have hb5w := hb4w.trans (hb5.mono hb4w.size)
 have hL5 := hL4.below hb5 hL4.lt
 have hO5 := hO4.below hb5 hO4.lt
 have hA5 := hA4.below hb5 hA4.lt
 refine wp_region_held (S := (fun X => Below w.heap.size w X ∧ Held X w.heap.size 167 #[.int .i64 fn, .int .i64 rd, .int .i64 bt, .int .i64 rg] ∧ Held X (w.heap.size + 1 + 1) 59 #[.int .i64 fn, .int .i64 x, .int .i64 y, .int .i64 0, .slice none 0 0, .slice none 0 0])) (by kernel_rfl) ?_
 change wpAnyH _ _ _ _ _ _ _ _ w4.drew
 rw [hw5]
 clear hw5
 rw [hy] at hq
 have HQ : Hid (∀ X, Calls Tryd.prog 99 #[.int .i64 y, .int .i64 rd] X fun e w' => e = .returned (.bool true) ∧ X = w') := Lib.hid (fun X => by have := HF.out y rd X; rw [hq] at this; exact this)
 clear hq
 have hS : (fun X => Below w.heap.size w X ∧ Held X w.heap.size 167 #[.int .i64 fn, .int .i64 rd, .int .i64 bt, .int .i64 rg] ∧ Held X (w.heap.size + 1 + 1) 59 #[.int .i64 fn, .int .i64 x, .int .i64 y, .int .i64 0, .slice none 0 0, .slice none 0 0]) w5 := ⟨hb5w, hL5, hA5⟩
 obtain ⟨o5_0, o5_1, o5_2, o5_3, o5_4, o5_5⟩ := six_cells hO5
 have fo5 := hO5.frozen
 have zO5 := hO5.lt
 refine zU 0 rfl hS ?_ (hy := fun W hH => by
  obtain ⟨hbW, hLW, hAW⟩ := hH
  obtain ⟨l0, l1, l2, l3⟩ := four_cells hLW
  obtain ⟨a0, a1, a2, a3, a4, a5⟩ := six_cells hAW
  clear hLW hAW hbW
  go_simp
  with_reducible rfl)
 refine zU 1 rfl hS ?_
 refine zU 2 rfl hS ?_
 refine zU 3 rfl hS ?_
 refine zU 4 rfl hS ?_
 refine zU 5 rfl hS ?_
 refine zU 6 rfl hS ?_ (hy := fun W hH => by
  obtain ⟨hbW, hLW, hAW⟩ := hH
  obtain ⟨l0, l1, l2, l3⟩ := four_cells hLW
  obtain ⟨a0, a1, a2, a3, a4, a5⟩ := six_cells hAW
  clear hLW hAW hbW
  go_simp
  with_reducible rfl)
 refine zU 7 rfl hS ?_
 refine zU 8 rfl hS ?_ (hy := fun W hH => by
  obtain ⟨hbW, hLW, hAW⟩ := hH
  obtain ⟨l0, l1, l2, l3⟩ := four_cells hLW
  obtain ⟨a0, a1, a2, a3, a4, a5⟩ := six_cells hAW
  clear hLW hAW hbW
  go_simp
  with_reducible rfl)
 refine zR 9 rfl (fun K' hK' => ?_)
 go_simp
 refine (HQ.out _).mono ?_
 rintro e w' ⟨rfl, rfl⟩
 go_simp
 refine hK'.out _ _ hS (fun hS => ?_)
 clear hK' K'
 refine zU 10 rfl hS ?_
 refine zR 11 rfl (fun K' hK' => ?_)
 go_simp
 refine hK'.out _ _ ⟨((((((hS.1.setCell (p := ⟨w.heap.size + 1, 0, none⟩) (by simp) _).setCell (p := ⟨w.heap.size + 1, 1, none⟩) (by simp) _).setCell (p := ⟨w.heap.size + 1, 2, none⟩) (by simp) _).setCell (p := ⟨w.heap.size + 1, 3, none⟩) (by simp) _).setCell (p := ⟨w.heap.size + 1, 4, none⟩) (by simp) _).setCell (p := ⟨w.heap.size + 1, 5, none⟩) (by simp) _), ((((((hS.2.1.far (p := ⟨w.heap.size + 1, 0, none⟩) (by show w.heap.size ≠ w.heap.size + 1; omega) _).far (p := ⟨w.heap.size + 1, 1, none⟩) (by show w.heap.size ≠ w.heap.size + 1; omega) _).far (p := ⟨w.heap.size + 1, 2, none⟩) (by show w.heap.size ≠ w.heap.size + 1; omega) _).far (p := ⟨w.heap.size + 1, 3, none⟩) (by show w.heap.size ≠ w.heap.size + 1; omega) _).far (p := ⟨w.heap.size + 1, 4, none⟩) (by show w.heap.size ≠ w.heap.size + 1; omega) _).far (p := ⟨w.heap.size + 1, 5, none⟩) (by show w.heap.size ≠ w.heap.size + 1; omega) _), ((((((hS.2.2.far (p := ⟨w.heap.size + 1, 0, none⟩) (by show w.heap.size + 1 + 1 ≠ w.heap.size + 1; omega) _).far (p := ⟨w.heap.size + 1, 1, none⟩) (by show w.heap.size + 1 + 1 ≠ w.heap.size + 1; omega) _).far (p := ⟨w.heap.size + 1, 2, none⟩) (by show w.heap.size + 1 + 1 ≠ w.heap.size + 1; omega) _).far (p := ⟨w.heap.size + 1, 3, none⟩) (by show w.heap.size + 1 + 1 ≠ w.heap.size + 1; omega) _).far (p := ⟨w.heap.size + 1, 4, none⟩) (by show w.heap.size + 1 + 1 ≠ w.heap.size + 1; omega) _).far (p := ⟨w.heap.size + 1, 5, none⟩) (by show w.heap.size + 1 + 1 ≠ w.heap.size + 1; omega) _)⟩ (fun hS => ?_)
 clear hK' K'
 refine zU 12 rfl hS ?_
 refine wpAnyH_done (by kernel_rfl) ?_ _
 go_wp2_with fail
 obtain ⟨wz, hwz, hbz, hZ, hoff⟩ := six hb5w hO5 (Nat.le_succ _) (.int .i64 fn) (.int .i64 x) (.int .i64 y) (.int .i64 0) (.slice none 0 0) (.slice none 0 0)
 obtain ⟨z0, z1, z2, z3, z4, z5⟩ := six_cells hZ
 rw [hwz]
 exact bodyPost_ret (v := .tuple #[.agg #[.int .i64 fn, .int .i64 x, .int .i64 y, .int .i64 0, .slice none 0 0, .slice none 0 0], .bool true]) (by simp [results, Tryd.results122, go_sem, z0, z1, z2, z3, z4, z5]) rfl ⟨_, ⟨fn, x, y, 0, [], []⟩, rfl, ⟨none, 0, 0, none, 0, 0, rfl, SlB.nil _ _, SlI.nil _ _ _⟩, hbz⟩
theorem fields_d4f (fn rd bt rg : Int) (A : Option Addr) (n c : Nat) (d : List Int) (w : World) (hD : SlI w w.heap.size .u8 A n c d) (hd8 : Byte8 d) (hn : n ≤ 1000) (hs : 4 ≤ n) (h4 : ((n : Int) == 4) = true) (t5 : (fn == 5) = false) (t6 : (fn == 6) = false) (t15 : (fn == 15) = false) (t16 : (fn == 16) = false) (t23 : (fn == 23) = false) (hq : fitP (wordP d 2) rd = false) :
  Calls Tryd.prog 122 #[.agg #[.int .i64 fn, .int .i64 rd, .int .i64 bt, .int .i64 rg], .slice A n c] w (FPost w none) := by
 obtain ⟨w1, HW1, hb1, hL1, hO1, hA1⟩ := zF0 w fn rd bt rg
 have HD := Lib.hid (fun (X : World) (h : Below w.heap.size w X) => hD.up h)
 have HWD := Lib.hid (fun (X : World) (h : Below w.heap.size w X) => pwords_any A n c d (by omega) X (hD.up h) hd8)
 have hl := hD.1
 clear hD
 obtain ⟨m, hm⟩ : ∃ m, n / 2 = m := ⟨_, rfl⟩
 have hm1 : 2 * m ≤ n := by omega
 have hm2 : n ≤ 2 * m + 1 := by omega
 rw [hm] at HWD
 clear hm
 have hu := Tryd.underlying59
 have hsz := zSz
 have h2 : ¬ (m : Int) < 2 := by omega
 have h0m : 0 < m := by omega
 have h1m : 1 < m := by omega
 have h0m' : (0 : Int) < (m : Int) := by omega
 have h1m' : (1 : Int) < (m : Int) := by omega
 have HF := Lib.hid (fun (a b : Int) (X : World) => fits_own a b X)
 go_in
 go_upto_region 2 with fail
 rw [HW1.out]
 go_upto_region 3 with (go_at_call 142; (with_reducible refine (HWD.out w1 hb1).mono ?_); rintro e w2 ⟨A2, c2, rfl, s2, hf2, hb2⟩)
 have hb2w := hb1.trans (hb2.mono hb1.size)
 have hL2 := hL1.below hb2 hL1.lt
 have hO2 := hO1.below hb2 hO1.lt
 have hA2 := hA1.below hb2 hA1.lt
 obtain ⟨l2_0, l2_1, l2_2, l2_3⟩ := four_cells hL2
 obtain ⟨o2_0, o2_1, o2_2, o2_3, o2_4, o2_5⟩ := six_cells hO2
 obtain ⟨a2_0, a2_1, a2_2, a2_3, a2_4, a2_5⟩ := six_cells hA2
 have fo2 := hO2.frozen
 have fa2 := hA2.frozen
 have zL2 := hL2.lt
 have zO2 := hO2.lt
 have zA2 := hA2.lt
 obtain ⟨g2, o2, rfl, hg2, hc2⟩ := s2.2.2.2.2 (by rw [wordsP_len]; omega)
 have hx0 : (wordsP d)[0]? = some (wordP d 0) := by rw [List.getElem?_eq_getElem (by rw [wordsP_len]; omega)]; simp [wordsP]
 have hy0 : (wordsP d)[1]? = some (wordP d 2) := by rw [List.getElem?_eq_getElem (by rw [wordsP_len]; omega)]; simp [wordsP]
 have cx := hc2 0 _ hx0
 have cy := hc2 1 _ hy0
 obtain ⟨x, hx⟩ : ∃ x, wordP d 0 = x := ⟨_, rfl⟩
 obtain ⟨y, hy⟩ : ∃ y, wordP d 2 = y := ⟨_, rfl⟩
 rw [hx] at cx
 rw [hy] at cy
 rw [Nat.add_zero] at cx
 have HX := Lib.hid (fun (X : World) (h : Below w2.heap.size w2 X) => (h.cell (p := ⟨g2, o2, none⟩) hg2).trans cx)
 have HY := Lib.hid (fun (X : World) (h : Below w2.heap.size w2 X) => (h.cell (p := ⟨g2, o2 + 1, none⟩) hg2).trans cy)
 clear s2 hc2 hx0 hy0
 have hg2f := hf2 g2 o2 rfl
 have hz1 : w1.heap.size = w.heap.size + 3 := by rw [← HW1.out]; simp
 have hgne : g2 ≠ w.heap.size + 1 + 1 := by omega
 have HN := Lib.hid hgne
 clear hz1 hg2f hf2 hgne
 go_upto_region 6 with fail
 obtain ⟨w3, hw3⟩ : ∃ W, w2.setCell ⟨w.heap.size + 1 + 1, 1, none⟩ (.int .i64 x) = W := ⟨_, rfl⟩
 obtain ⟨hb3w, hL3, hO3⟩ := zF2 hw3 hb2w hL2 hO2
 have hA3 : Held w3 (w.heap.size + 1 + 1) 59 #[.int .i64 fn, .int .i64 x, .int .i64 0, .int .i64 0, .slice none 0 0, .slice none 0 0] := by rw [← hw3]; exact hA2.set 1 _
 have cx3 : w3.cell? ⟨g2, o2, none⟩ = some (.int .i64 x) := by rw [← hw3]; exact ((Kx.refl (w.heap.size + 1 + 1) w2.heap.size w2).set 1 (.int .i64 x)).cell (p := ⟨g2, o2, none⟩) HN.out hg2 |>.trans cx
 have cy3 : w3.cell? ⟨g2, o2 + 1, none⟩ = some (.int .i64 y) := by rw [← hw3]; exact ((Kx.refl (w.heap.size + 1 + 1) w2.heap.size w2).set 1 (.int .i64 x)).cell (p := ⟨g2, o2 + 1, none⟩) HN.out hg2 |>.trans cy
 rw [hw3]
 clear hw3
 obtain ⟨l3_0, l3_1, l3_2, l3_3⟩ := four_cells hL3
 obtain ⟨o3_0, o3_1, o3_2, o3_3, o3_4, o3_5⟩ := six_cells hO3
 obtain ⟨a3_0, a3_1, a3_2, a3_3, a3_4, a3_5⟩ := six_cells hA3
 have fo3 := hO3.frozen
 have fa3 := hA3.frozen
 have zL3 := hL3.lt
 have zO3 := hO3.lt
 have zA3 := hA3.lt
 go_upto_region 31 with fail
 obtain ⟨w4, hw4⟩ : ∃ W, w3.setCell ⟨w.heap.size + 1 + 1, 2, none⟩ (.int .i64 y) = W := ⟨_, rfl⟩
 obtain ⟨hb4w, hL4, hO4⟩ := zF2 hw4 hb3w hL3 hO3
 have hA4 : Held w4 (w.heap.size + 1 + 1) 59 #[.int .i64 fn, .int .i64 x, .int .i64 y, .int .i64 0, .slice none 0 0, .slice none 0 0] := by rw [← hw4]; exact hA3.set 2 _
 rw [hw4]
 clear hw4
 obtain ⟨w5, hw5⟩ : ∃ W : World, w4.drew = W := ⟨_, rfl⟩
 have hb5 := zB3 hw5
 have hb5w := hb4w.trans (hb5.mono hb4w.size)
 have hL5 := hL4.below hb5 hL4.lt
 have hO5 := hO4.below hb5 hO4.lt
 have hA5 := hA4.below hb5 hA4.lt
 refine wp_region_held (S := (fun X => Below w.heap.size w X ∧ Held X w.heap.size 167 #[.int .i64 fn, .int .i64 rd, .int .i64 bt, .int .i64 rg] ∧ Held X (w.heap.size + 1 + 1) 59 #[.int .i64 fn, .int .i64 x, .int .i64 y, .int .i64 0, .slice none 0 0, .slice none 0 0])) (by kernel_rfl) ?_
 change wpAnyH _ _ _ _ _ _ _ _ w4.drew
 rw [hw5]
 clear hw5
 rw [hy] at hq
 have HQ : Hid (∀ X, Calls Tryd.prog 99 #[.int .i64 y, .int .i64 rd] X fun e w' => e = .returned (.bool false) ∧ X = w') := Lib.hid (fun X => by have := HF.out y rd X; rw [hq] at this; exact this)
 clear hq
 have hS : (fun X => Below w.heap.size w X ∧ Held X w.heap.size 167 #[.int .i64 fn, .int .i64 rd, .int .i64 bt, .int .i64 rg] ∧ Held X (w.heap.size + 1 + 1) 59 #[.int .i64 fn, .int .i64 x, .int .i64 y, .int .i64 0, .slice none 0 0, .slice none 0 0]) w5 := ⟨hb5w, hL5, hA5⟩
 obtain ⟨o5_0, o5_1, o5_2, o5_3, o5_4, o5_5⟩ := six_cells hO5
 have fo5 := hO5.frozen
 have zO5 := hO5.lt
 refine zU 0 rfl hS ?_ (hy := fun W hH => by
  obtain ⟨hbW, hLW, hAW⟩ := hH
  obtain ⟨l0, l1, l2, l3⟩ := four_cells hLW
  obtain ⟨a0, a1, a2, a3, a4, a5⟩ := six_cells hAW
  clear hLW hAW hbW
  go_simp
  with_reducible rfl)
 refine zU 1 rfl hS ?_
 refine zU 2 rfl hS ?_
 refine zU 3 rfl hS ?_
 refine zU 4 rfl hS ?_
 refine zU 5 rfl hS ?_
 refine zU 6 rfl hS ?_ (hy := fun W hH => by
  obtain ⟨hbW, hLW, hAW⟩ := hH
  obtain ⟨l0, l1, l2, l3⟩ := four_cells hLW
  obtain ⟨a0, a1, a2, a3, a4, a5⟩ := six_cells hAW
  clear hLW hAW hbW
  go_simp
  with_reducible rfl)
 refine zU 7 rfl hS ?_
 refine zU 8 rfl hS ?_ (hy := fun W hH => by
  obtain ⟨hbW, hLW, hAW⟩ := hH
  obtain ⟨l0, l1, l2, l3⟩ := four_cells hLW
  obtain ⟨a0, a1, a2, a3, a4, a5⟩ := six_cells hAW
  clear hLW hAW hbW
  go_simp
  with_reducible rfl)
 refine zR 9 rfl (fun K' hK' => ?_)
 go_simp
 refine (HQ.out _).mono ?_
 rintro e w' ⟨rfl, rfl⟩
 go_simp
 refine hK'.out _ _ hS (fun hS => ?_)
 clear hK' K'
 refine zU 10 rfl hS ?_
 refine zR 11 rfl (fun K' hK' => ?_)
 go_simp
 refine hK'.out _ _ ⟨((((((hS.1.setCell (p := ⟨w.heap.size + 1, 0, none⟩) (by simp) _).setCell (p := ⟨w.heap.size + 1, 1, none⟩) (by simp) _).setCell (p := ⟨w.heap.size + 1, 2, none⟩) (by simp) _).setCell (p := ⟨w.heap.size + 1, 3, none⟩) (by simp) _).setCell (p := ⟨w.heap.size + 1, 4, none⟩) (by simp) _).setCell (p := ⟨w.heap.size + 1, 5, none⟩) (by simp) _), ((((((hS.2.1.far (p := ⟨w.heap.size + 1, 0, none⟩) (by show w.heap.size ≠ w.heap.size + 1; omega) _).far (p := ⟨w.heap.size + 1, 1, none⟩) (by show w.heap.size ≠ w.heap.size + 1; omega) _).far (p := ⟨w.heap.size + 1, 2, none⟩) (by show w.heap.size ≠ w.heap.size + 1; omega) _).far (p := ⟨w.heap.size + 1, 3, none⟩) (by show w.heap.size ≠ w.heap.size + 1; omega) _).far (p := ⟨w.heap.size + 1, 4, none⟩) (by show w.heap.size ≠ w.heap.size + 1; omega) _).far (p := ⟨w.heap.size + 1, 5, none⟩) (by show w.heap.size ≠ w.heap.size + 1; omega) _), ((((((hS.2.2.far (p := ⟨w.heap.size + 1, 0, none⟩) (by show w.heap.size + 1 + 1 ≠ w.heap.size + 1; omega) _).far (p := ⟨w.heap.size + 1, 1, none⟩) (by show w.heap.size + 1 + 1 ≠ w.heap.size + 1; omega) _).far (p := ⟨w.heap.size + 1, 2, none⟩) (by show w.heap.size + 1 + 1 ≠ w.heap.size + 1; omega) _).far (p := ⟨w.heap.size + 1, 3, none⟩) (by show w.heap.size + 1 + 1 ≠ w.heap.size + 1; omega) _).far (p := ⟨w.heap.size + 1, 4, none⟩) (by show w.heap.size + 1 + 1 ≠ w.heap.size + 1; omega) _).far (p := ⟨w.heap.size + 1, 5, none⟩) (by show w.heap.size + 1 + 1 ≠ w.heap.size + 1; omega) _)⟩ (fun hS => ?_)
 clear hK' K'
 refine zU 12 rfl hS ?_
 refine wpAnyH_done (by kernel_rfl) ?_ _
 go_wp2_with fail
 obtain ⟨wz, hwz, hbz, hZ, hoff⟩ := six hb5w hO5 (Nat.le_succ _) (.int .i64 fn) (.int .i64 x) (.int .i64 y) (.int .i64 0) (.slice none 0 0) (.slice none 0 0)
 obtain ⟨z0, z1, z2, z3, z4, z5⟩ := six_cells hZ
 rw [hwz]
 exact bodyPost_ret (v := .tuple #[.agg #[.int .i64 fn, .int .i64 x, .int .i64 y, .int .i64 0, .slice none 0 0, .slice none 0 0], .bool false]) (by simp [results, Tryd.results122, go_sem, z0, z1, z2, z3, z4, z5]) rfl ⟨_, ⟨fn, x, y, 0, [], []⟩, rfl, ⟨none, 0, 0, none, 0, 0, rfl, SlB.nil _ _, SlI.nil _ _ _⟩, hbz⟩
theorem wcons1 (f : Int) (d : List Int) : wordP (f :: d) 1 = wordP d 0 := rfl
theorem wcons3 (f : Int) (d : List Int) : wordP (f :: d) 3 = wordP d 2 := rfl
theorem wcons5 (f : Int) (d : List Int) : wordP (f :: d) 5 = wordP d 4 := rfl
theorem wcons7 (f : Int) (d : List Int) : wordP (f :: d) 7 = wordP d 6 := rfl
theorem getD_drop (d : List Int) (k i : Nat) : (d.drop k).getD i 0 = d.getD (k + i) 0 := by simp [List.getD]
theorem wordP_drop (d : List Int) (k i : Nat) : wordP (d.drop k) i = wordP d (k + i) := by simp only [wordP, getD_drop]; rfl
theorem parse_short (fn : Int) (d : List Int) (h : d.length < 4) : parseP (fn :: d) = none := by
 unfold parseP
 simp only []
 rw [if_pos (by simp; omega)]
theorem parse_5 (d : List Int) (h : 4 ≤ d.length) (q : Bool) (hq : (decide (d.length = 4) && ((wordP d 2 == 65280) || (wordP d 2 == 0))) = q) : parseP (5 :: d) = if q = true then some ⟨5, wordP d 0, 0, 0, [wordP d 2 == 65280], []⟩ else none := by
 unfold parseP
 simp only [wcons1, wcons3, wcons5, wcons7]
 rw [if_neg (by simp; omega)]
 subst hq
 have h0 : (5 :: d).getD 0 0 = (5 : Int) := rfl
 rw [h0, if_pos rfl]
 by_cases h1 : d.length = 4 <;> by_cases h2 : wordP d 2 = 65280 <;> by_cases h3 : wordP d 2 = 0 <;> simp [h1, h2, h3]
theorem parse_6 (d : List Int) (h : 4 ≤ d.length) (q : Bool) (hq : decide (d.length = 4) = q) : parseP (6 :: d) = if q = true then some ⟨6, wordP d 0, 0, 0, [], [wordP d 2]⟩ else none := by
 unfold parseP
 simp only [wcons1, wcons3, wcons5, wcons7]
 rw [if_neg (by simp; omega)]
 subst hq
 have h0 : (6 :: d).getD 0 0 = (6 : Int) := rfl
 rw [h0, if_neg (by decide), if_pos rfl]
 by_cases h1 : d.length = 4 <;> simp [h1]
theorem listF_eq (z most : Int) (d : List Int) (k : Nat) (h : k ≤ d.length) : (decide (3 ≤ (d.drop k).length) && listF z most (d.drop k)) = decide (fitP (wordP d k) most = true ∧ k + 3 ≤ d.length ∧ d.getD (k + 2) 0 = z ∧ (d.length : Int) = k + 3 + z) := by
 rw [Bool.eq_iff_iff]
 simp only [listF, wordP_drop, getD_drop, List.length_drop, Bool.and_eq_true, decide_eq_true_eq, beq_iff_eq, Nat.add_zero]
 constructor
 ·rintro ⟨h1, ⟨h2, h3⟩, h4⟩
  exact ⟨h2, by omega, h3, by omega⟩
 ·rintro ⟨h1, h2, h3, h4⟩
  exact ⟨by omega, ⟨h1, h3⟩, by omega⟩
theorem parse_15u (d : List Int) (h : 4 ≤ d.length) : parseP (15 :: d) = if (1 ≤ wordP d 2 ∧ wordP d 2 ≤ 1968) ∧ 6 ≤ d.length + 1 ∧ d.getD 4 0 = (wordP d 2 + 7) / 8 ∧ ((d.length + 1 : Nat) : Int) = 6 + (wordP d 2 + 7) / 8 then some ⟨15, wordP d 0, 0, 0, unpackP (d.drop 5) (wordP d 2).toNat, []⟩ else none := by
 have e : parseP (15 :: d) = if d.length + 1 < 5 then none else if (1 ≤ wordP d 2 ∧ wordP d 2 ≤ 1968) ∧ 6 ≤ d.length + 1 ∧ d.getD 4 0 = (wordP d 2 + 7) / 8 ∧ ((d.length + 1 : Nat) : Int) = 6 + (wordP d 2 + 7) / 8 then some ⟨15, wordP d 0, 0, 0, unpackP (d.drop 5) (wordP d 2).toNat, []⟩ else none := rfl
 rw [e, if_neg (by omega)]
theorem parse_16u (d : List Int) (h : 4 ≤ d.length) : parseP (16 :: d) = if (1 ≤ wordP d 2 ∧ wordP d 2 ≤ 123) ∧ 6 ≤ d.length + 1 ∧ d.getD 4 0 = 2 * wordP d 2 ∧ ((d.length + 1 : Nat) : Int) = 6 + 2 * wordP d 2 then some ⟨16, wordP d 0, 0, 0, [], wordsP (d.drop 5)⟩ else none := by
 have e : parseP (16 :: d) = if d.length + 1 < 5 then none else if (1 ≤ wordP d 2 ∧ wordP d 2 ≤ 123) ∧ 6 ≤ d.length + 1 ∧ d.getD 4 0 = 2 * wordP d 2 ∧ ((d.length + 1 : Nat) : Int) = 6 + 2 * wordP d 2 then some ⟨16, wordP d 0, 0, 0, [], wordsP (d.drop 5)⟩ else none := rfl
 rw [e, if_neg (by omega)]
theorem parse_23u (d : List Int) (h : 4 ≤ d.length) : parseP (23 :: d) = if (1 ≤ wordP d 2 ∧ wordP d 2 ≤ 125) ∧ 10 ≤ d.length + 1 ∧ (1 ≤ wordP d 6 ∧ wordP d 6 ≤ 121) ∧ d.getD 8 0 = 2 * wordP d 6 ∧ ((d.length + 1 : Nat) : Int) = 10 + 2 * wordP d 6 then some ⟨23, wordP d 0, wordP d 2, wordP d 4, [], wordsP (d.drop 9)⟩ else none := by
 have e : parseP (23 :: d) = if d.length + 1 < 5 then none else if (1 ≤ wordP d 2 ∧ wordP d 2 ≤ 125) ∧ 10 ≤ d.length + 1 ∧ (1 ≤ wordP d 6 ∧ wordP d 6 ≤ 121) ∧ d.getD 8 0 = 2 * wordP d 6 ∧ ((d.length + 1 : Nat) : Int) = 10 + 2 * wordP d 6 then some ⟨23, wordP d 0, wordP d 2, wordP d 4, [], wordsP (d.drop 9)⟩ else none := rfl
 rw [e, if_neg (by omega)]
theorem parse_15 (d : List Int) (h : 4 ≤ d.length) (N : Int) (hN : (if (d.drop 2).length < 3 then 0 else wordP (d.drop 2) 0) = N) (q : Bool) (hq : (decide (3 ≤ (d.drop 2).length) && listF ((wordP (d.drop 2) 0 + 7) / 8) 1968 (d.drop 2)) = q) :
  parseP (15 :: d) = if q = true then some ⟨15, wordP d 0, 0, 0, unpackV (d.drop 5) N, []⟩ else none := by
 rw [listF_eq _ _ _ _ (by omega), wordP_drop] at hq
 rw [parse_15u d h]
 have hf : fitP (wordP d 2) 1968 = true ↔ 1 ≤ wordP d 2 ∧ wordP d 2 ≤ 1968 := by
  simp only [fitP, Bool.and_eq_true, decide_eq_true_eq]
  omega
 have e : ((1 ≤ wordP d 2 ∧ wordP d 2 ≤ 1968) ∧ 6 ≤ d.length + 1 ∧ d.getD 4 0 = (wordP d 2 + 7) / 8 ∧ ((d.length + 1 : Nat) : Int) = 6 + (wordP d 2 + 7) / 8) ↔ (fitP (wordP d 2) 1968 = true ∧ 2 + 3 ≤ d.length ∧ d.getD (2 + 2) 0 = (wordP d (2 + 0) + 7) / 8 ∧ (d.length : Int) = (2 : Nat) + 3 + (wordP d (2 + 0) + 7) / 8) := by
  rw [hf]
  constructor
  ·rintro ⟨h1, h2, h3, h4⟩; exact ⟨h1, by omega, h3, by push_cast at h4 ⊢; omega⟩
  ·rintro ⟨h1, h2, h3, h4⟩; exact ⟨h1, by omega, h3, by push_cast at h4 ⊢; omega⟩
 cases q with
 | false =>
  rw [if_neg (fun h' => of_decide_eq_false hq (e.1 h'))]
  rfl
 | true =>
  have hq' := of_decide_eq_true hq
  rw [if_pos (e.2 hq'), if_pos rfl]
  have hr := hf.1 hq'.1
  rw [if_neg (by rw [List.length_drop]; omega)] at hN
  rw [wordP_drop] at hN
  have : N = wordP d 2 := hN.symm
  subst this
  rw [unpackV, if_neg (by omega)]
theorem parse_16 (d : List Int) (h : 4 ≤ d.length) (q : Bool) (hq : (decide (3 ≤ (d.drop 2).length) && listF (2 * wordP (d.drop 2) 0) 123 (d.drop 2)) = q) :
  parseP (16 :: d) = if q = true then some ⟨16, wordP d 0, 0, 0, [], fromP (d.drop 5)⟩ else none := by
 rw [listF_eq _ _ _ _ (by omega), wordP_drop] at hq
 rw [parse_16u d h]
 have hf : fitP (wordP d 2) 123 = true ↔ 1 ≤ wordP d 2 ∧ wordP d 2 ≤ 123 := by
  simp only [fitP, Bool.and_eq_true, decide_eq_true_eq]
  omega
 have e : ((1 ≤ wordP d 2 ∧ wordP d 2 ≤ 123) ∧ 6 ≤ d.length + 1 ∧ d.getD 4 0 = 2 * wordP d 2 ∧ ((d.length + 1 : Nat) : Int) = 6 + 2 * wordP d 2) ↔ (fitP (wordP d 2) 123 = true ∧ 2 + 3 ≤ d.length ∧ d.getD (2 + 2) 0 = 2 * wordP d (2 + 0) ∧ (d.length : Int) = (2 : Nat) + 3 + 2 * wordP d (2 + 0)) := by
  rw [hf]
  constructor
  ·rintro ⟨h1, h2, h3, h4⟩; exact ⟨h1, by omega, h3, by push_cast at h4 ⊢; omega⟩
  ·rintro ⟨h1, h2, h3, h4⟩; exact ⟨h1, by omega, h3, by push_cast at h4 ⊢; omega⟩
 cases q with
 | false =>
  rw [if_neg (fun h' => of_decide_eq_false hq (e.1 h'))]
  rfl
 | true =>
  have hq' := of_decide_eq_true hq
  rw [if_pos (e.2 hq'), if_pos rfl]
  have h4 := hq'.2.2.2
  rw [fromP, if_pos (by rw [List.length_drop]; have h5 : (d.length : Int) = (2 : Nat) + 3 + 2 * wordP d 2 := h4; omega)]
theorem parse_23 (d : List Int) (h : 4 ≤ d.length) (h8 : d.length < 8 ∨ fitP (wordP d 2) 125 = false) : parseP (23 :: d) = none := by
 rw [parse_23u d h]
 rw [if_neg]
 rintro ⟨h1, h2, -⟩
 rcases h8 with h8 | h8
 ·omega
 ·rw [fitP, decide_eq_true (by omega), decide_eq_true (by omega)] at h8
  cases h8
theorem parse_23t (d : List Int) (h : 8 ≤ d.length) (hr : fitP (wordP d 2) 125 = true) (q : Bool) (hq : (decide (3 ≤ (d.drop 6).length) && listF (2 * wordP (d.drop 6) 0) 121 (d.drop 6)) = q) :
  parseP (23 :: d) = if q = true then some ⟨23, wordP d 0, wordP d 2, wordP d 4, [], fromP (d.drop 9)⟩ else none := by
 rw [listF_eq _ _ _ _ (by omega), wordP_drop] at hq
 rw [parse_23u d (by omega)]
 have hf : ∀ x most : Int, 1 ≤ most → (fitP x most = true ↔ 1 ≤ x ∧ x ≤ most) := by
  intro x most hm
  simp only [fitP, Bool.and_eq_true, decide_eq_true_eq]
  omega
 have hr1 := (hf _ _ (by omega)).1 hr
 have e : ((1 ≤ wordP d 2 ∧ wordP d 2 ≤ 125) ∧ 10 ≤ d.length + 1 ∧ (1 ≤ wordP d 6 ∧ wordP d 6 ≤ 121) ∧ d.getD 8 0 = 2 * wordP d 6 ∧ ((d.length + 1 : Nat) : Int) = 10 + 2 * wordP d 6) ↔ (fitP (wordP d 6) 121 = true ∧ 6 + 3 ≤ d.length ∧ d.getD (6 + 2) 0 = 2 * wordP d (6 + 0) ∧ (d.length : Int) = (6 : Nat) + 3 + 2 * wordP d (6 + 0)) := by
  rw [hf _ _ (by omega)]
  constructor
  ·rintro ⟨h1, h2, h3, h4, h5⟩; exact ⟨h3, by omega, h4, by push_cast at h5 ⊢; omega⟩
  ·rintro ⟨h1, h2, h3, h4⟩; exact ⟨hr1, by omega, h1, h3, by push_cast at h4 ⊢; omega⟩
 cases q with
 | false =>
  rw [if_neg (fun h' => of_decide_eq_false hq (e.1 h'))]
  rfl
 | true =>
  have hq' := of_decide_eq_true hq
  rw [if_pos (e.2 hq'), if_pos rfl]
  have h4 := hq'.2.2.2
  rw [fromP, if_pos (by rw [List.length_drop]; have h5 : (d.length : Int) = (6 : Nat) + 3 + 2 * wordP d 6 := h4; omega)]
theorem parse_d (fn : Int) (d : List Int) (h : 4 ≤ d.length) (r bt rg : Int) (hl : limP fn = some (r, bt, rg)) (h5 : fn ≠ 5) (h6 : fn ≠ 6) (h15 : fn ≠ 15) (h16 : fn ≠ 16) (h23 : fn ≠ 23) :
  parseP (fn :: d) = if d.length = 4 ∧ fitP (wordP d 2) r = true then some ⟨fn, wordP d 0, wordP d 2, 0, [], []⟩ else none := by
 unfold parseP
 simp only [wcons1, wcons3, wcons5, wcons7]
 rw [if_neg (by simp; omega)]
 have h0 : (fn :: d).getD 0 0 = fn := rfl
 have hle : (fn :: d).length = d.length + 1 := rfl
 rw [h0, if_neg h5, if_neg h6, if_neg h15, if_neg h16, if_neg h23, hl, hle]
 by_cases h1 : d.length = 4 <;> by_cases h2 : fitP (wordP d 2) r = true <;> simp [h1, h2]
theorem fields_6 (fn rd bt rg : Int) (A : Option Addr) (n c : Nat) (d : List Int) (w : World) (hD : SlI w w.heap.size .u8 A n c d) (hd8 : Byte8 d) (hn : n ≤ 1000) (hs : 4 ≤ n) (q : Bool) (h4 : ((n : Int) == 4) = q) (t5 : (fn == 5) = false) (t6 : (fn == 6) = true) (t15 : (fn == 15) = false) (t16 : (fn == 16) = false) (t23 : (fn == 23) = false) (o : Option AskP) (ho : Hid (o = if q = true then some ⟨fn, wordP d 0, 0, 0, [], [wordP d 2]⟩ else none)) :
  Calls Tryd.prog 122 #[.agg #[.int .i64 fn, .int .i64 rd, .int .i64 bt, .int .i64 rg], .slice A n c] w (FPost w o) := by
 have hyb := wordP_in2 d hd8 (by have := hD.1; omega)
 obtain ⟨w1, HW1, hb1, hL1, hO1, hA1⟩ := zF0 w fn rd bt rg
 have HD := Lib.hid (fun (X : World) (h : Below w.heap.size w X) => hD.up h)
 have HWD := Lib.hid (fun (X : World) (h : Below w.heap.size w X) => pwords_any A n c d (by omega) X (hD.up h) hd8)
 have hl := hD.1
 clear hD
 obtain ⟨m, hm⟩ : ∃ m, n / 2 = m := ⟨_, rfl⟩
 have hm1 : 2 * m ≤ n := by omega
 have hm2 : n ≤ 2 * m + 1 := by omega
 rw [hm] at HWD
 clear hm
 have hu := Tryd.underlying59
 have hsz := zSz
 have h2 : ¬ (m : Int) < 2 := by omega
 have h0m : 0 < m := by omega
 have h1m : 1 < m := by omega
 have h0m' : (0 : Int) < (m : Int) := by omega
 have h1m' : (1 : Int) < (m : Int) := by omega
 have HF := Lib.hid (fun (a b : Int) (X : World) => fits_own a b X)
 go_in
 go_upto_region 2 with fail
 rw [HW1.out]
 go_upto_region 3 with (go_at_call 142; (with_reducible refine (HWD.out w1 hb1).mono ?_); rintro e w2 ⟨A2, c2, rfl, s2, hf2, hb2⟩)
 have hb2w := hb1.trans (hb2.mono hb1.size)
 have hL2 := hL1.below hb2 hL1.lt
 have hO2 := hO1.below hb2 hO1.lt
 have hA2 := hA1.below hb2 hA1.lt
 obtain ⟨l2_0, l2_1, l2_2, l2_3⟩ := four_cells hL2
 obtain ⟨o2_0, o2_1, o2_2, o2_3, o2_4, o2_5⟩ := six_cells hO2
 obtain ⟨a2_0, a2_1, a2_2, a2_3, a2_4, a2_5⟩ := six_cells hA2
 have fo2 := hO2.frozen
 have fa2 := hA2.frozen
 have zL2 := hL2.lt
 have zO2 := hO2.lt
 have zA2 := hA2.lt
 obtain ⟨g2, o2, rfl, hg2, hc2⟩ := s2.2.2.2.2 (by rw [wordsP_len]; omega)
 have hx0 : (wordsP d)[0]? = some (wordP d 0) := by rw [List.getElem?_eq_getElem (by rw [wordsP_len]; omega)]; simp [wordsP]
 have hy0 : (wordsP d)[1]? = some (wordP d 2) := by rw [List.getElem?_eq_getElem (by rw [wordsP_len]; omega)]; simp [wordsP]
 have cx := hc2 0 _ hx0
 have cy := hc2 1 _ hy0
 obtain ⟨x, hx⟩ : ∃ x, wordP d 0 = x := ⟨_, rfl⟩
 obtain ⟨y, hy⟩ : ∃ y, wordP d 2 = y := ⟨_, rfl⟩
 rw [hx] at cx
 rw [hy] at cy
 rw [Nat.add_zero] at cx
 have HX := Lib.hid (fun (X : World) (h : Below w2.heap.size w2 X) => (h.cell (p := ⟨g2, o2, none⟩) hg2).trans cx)
 have HY := Lib.hid (fun (X : World) (h : Below w2.heap.size w2 X) => (h.cell (p := ⟨g2, o2 + 1, none⟩) hg2).trans cy)
 clear s2 hc2 hx0 hy0
 have hg2f := hf2 g2 o2 rfl
 have hz1 : w1.heap.size = w.heap.size + 3 := by rw [← HW1.out]; simp
 have hgne : g2 ≠ w.heap.size + 1 + 1 := by omega
 have HN := Lib.hid hgne
 have HZ1 : Hid (g2 ≠ w.heap.size + 1) := Lib.hid (by omega)
 clear hz1 hg2f hf2 hgne
 go_upto_region 6 with fail
 obtain ⟨w3, hw3⟩ : ∃ W, w2.setCell ⟨w.heap.size + 1 + 1, 1, none⟩ (.int .i64 x) = W := ⟨_, rfl⟩
 obtain ⟨hb3w, hL3, hO3⟩ := zF2 hw3 hb2w hL2 hO2
 have hA3 : Held w3 (w.heap.size + 1 + 1) 59 #[.int .i64 fn, .int .i64 x, .int .i64 0, .int .i64 0, .slice none 0 0, .slice none 0 0] := by rw [← hw3]; exact hA2.set 1 _
 have cx3 : w3.cell? ⟨g2, o2, none⟩ = some (.int .i64 x) := by rw [← hw3]; exact ((Kx.refl (w.heap.size + 1 + 1) w2.heap.size w2).set 1 (.int .i64 x)).cell (p := ⟨g2, o2, none⟩) HN.out hg2 |>.trans cx
 have cy3 : w3.cell? ⟨g2, o2 + 1, none⟩ = some (.int .i64 y) := by rw [← hw3]; exact ((Kx.refl (w.heap.size + 1 + 1) w2.heap.size w2).set 1 (.int .i64 x)).cell (p := ⟨g2, o2 + 1, none⟩) HN.out hg2 |>.trans cy
 have hg3 : g2 < w3.heap.size := by rw [← hw3]; simpa [World.setCell] using hg2
 rw [hw3]
 clear hw3
 obtain ⟨l3_0, l3_1, l3_2, l3_3⟩ := four_cells hL3
 obtain ⟨o3_0, o3_1, o3_2, o3_3, o3_4, o3_5⟩ := six_cells hO3
 obtain ⟨a3_0, a3_1, a3_2, a3_3, a3_4, a3_5⟩ := six_cells hA3
 have fo3 := hO3.frozen
 have fa3 := hA3.frozen
 have zL3 := hL3.lt
 have zO3 := hO3.lt
 have zA3 := hA3.lt
 have HN1 := HZ1
 have cw3_1 : w3.cell? ⟨g2, o2 + 1, none⟩ = some (.int .i64 y) := cy3
 rw [hx, hy] at ho
 rw [hy] at hyb
 have hwy : IntKind.u16.wrap y = y := IntWalk.u16_in y hyb
 go_upto_region 13 with fail
 obtain ⟨gr, hgr⟩ : ∃ g, w3.heap.size = g := ⟨_, rfl⟩
 rw [hgr]
 obtain ⟨w4, hw4⟩ : ∃ W, w3.setCell ⟨w.heap.size + 1 + 1, 5, none⟩ (.slice (some ⟨gr, 0, none⟩) 1 1) = W := ⟨_, rfl⟩
 obtain ⟨hb4w, hL4, hO4⟩ := zF2 hw4 hb3w hL3 hO3
 have hA4 : Held w4 (w.heap.size + 1 + 1) 59 #[.int .i64 fn, .int .i64 x, .int .i64 0, .int .i64 0, .slice none 0 0, .slice (some ⟨gr, 0, none⟩) 1 1] := by rw [← hw4]; exact hA3.set 5 _
 have cw4_1 : w4.cell? ⟨g2, o2 + 1, none⟩ = some (.int .i64 y) := by rw [← hw4]; exact (World.cell?_of_block (((OffB.refl w3 (w.heap.size + 1 + 1)).set 5 (.slice (some ⟨gr, 0, none⟩) 1 1)).2 g2 HN.out)).trans cw3_1
 have hg4 : g2 < w4.heap.size := by rw [← hw4]; simpa [World.setCell] using hg3
 have hgr4 : Hid (w4.heap.size = gr) := Lib.hid (by rw [← hw4, ← hgr]; simp [World.setCell])
 rw [hw4]
 clear hw4 hgr
 obtain ⟨w5, hw5⟩ : ∃ W, w4.alloc (.cells #[.int .u16 y] 45) = W := ⟨_, rfl⟩
 have hb5 := zB1 hw5
 have hb5w := hb4w.trans (hb5.mono hb4w.size)
 have hL5 := hL4.below hb5 hL4.lt
 have hO5 := hO4.below hb5 hO4.lt
 have hA5 := hA4.below hb5 hA4.lt
 have cw5_1 : w5.cell? ⟨g2, o2 + 1, none⟩ = some (.int .i64 y) := (hb5.cell (p := ⟨g2, o2 + 1, none⟩) hg4).trans cw4_1
 have hg5 : g2 < w5.heap.size := Nat.lt_of_lt_of_le hg4 hb5.size
 have sr5 : SlI w5 w5.heap.size .u16 (some ⟨gr, 0, none⟩) 1 1 [y] := by rw [← hw5]; exact SlI.lit_at hgr4.out rfl rfl (by omega)
 rw [hw5]
 clear hw5
 obtain ⟨l5_0, l5_1, l5_2, l5_3⟩ := four_cells hL5
 obtain ⟨o5_0, o5_1, o5_2, o5_3, o5_4, o5_5⟩ := six_cells hO5
 obtain ⟨a5_0, a5_1, a5_2, a5_3, a5_4, a5_5⟩ := six_cells hA5
 have fo5 := hO5.frozen
 have fa5 := hA5.frozen
 have zL5 := hL5.lt
 have zO5 := hO5.lt
 have zA5 := hA5.lt
 go_wp2_with ((with_reducible refine at_loadT 59 6 ?_); refine wpList_load_rowG rfl 59 (.tmp 6) rfl (w.heap.size + 1 + 1) rfl 59 _ _ hA5 hu rfl hsz ?_)
 obtain ⟨wz, hwz, hbz, hZ, hoff⟩ := six hb5w hO5 (Nat.le_succ _) (.int .i64 fn) (.int .i64 x) (.int .i64 0) (.int .i64 0) (.slice none 0 0) (.slice (some ⟨gr, 0, none⟩) 1 1)
 obtain ⟨z0, z1, z2, z3, z4, z5⟩ := six_cells hZ
 rw [hwz]
 have HP : FPost w o (.returned (.tuple #[.agg #[.int .i64 fn, .int .i64 x, .int .i64 0, .int .i64 0, .slice none 0 0, .slice (some ⟨gr, 0, none⟩) 1 1], .bool q])) wz := fpost ho ⟨_, _, _, _, _, _, rfl, SlB.nil _ _, sr5.off hoff hO5 (by intro v hv x e; subst e; simp at hv)⟩ hbz
 clear hwz
 exact bodyPost_ret (v := .tuple #[.agg #[.int .i64 fn, .int .i64 x, .int .i64 0, .int .i64 0, .slice none 0 0, .slice (some ⟨gr, 0, none⟩) 1 1], .bool q]) (by simp [results, Tryd.results122, go_sem, z0, z1, z2, z3, z4, z5]) rfl HP
theorem fields_15t (fn rd bt rg : Int) (A : Option Addr) (n c : Nat) (d : List Int) (w : World) (hD : SlI w w.heap.size .u8 A n c d) (hd8 : Byte8 d) (hn : n ≤ 1000) (hs : 4 ≤ n) (t5 : (fn == 5) = false) (t6 : (fn == 6) = false) (t15 : (fn == 15) = true) (t16 : (fn == 16) = false) (t23 : (fn == 23) = false) (N : Int) (HN_ : Hid ((if (d.drop 2).length < 3 then 0 else wordP (d.drop 2) 0) = N)) (HQ_ : Hid ((decide (3 ≤ (d.drop 2).length) && listF ((wordP (d.drop 2) 0 + 7) / 8) bt (d.drop 2)) = true)) (o : Option AskP) (ho : Hid (o = some ⟨fn, wordP d 0, 0, 0, unpackV (d.drop 5) N, []⟩)) :
  Calls Tryd.prog 122 #[.agg #[.int .i64 fn, .int .i64 rd, .int .i64 bt, .int .i64 rg], .slice A n c] w (FPost w o) := by
 obtain ⟨g0, off0, rfl, hg0⟩ := hD.some_ (by omega)
 clear hg0
 obtain ⟨w1, HW1, hb1, hL1, hO1, hA1⟩ := zF0 w fn rd bt rg
 have HD := Lib.hid (fun (X : World) (h : Below w.heap.size w X) => hD.up h)
 have HWD := Lib.hid (fun (X : World) (h : Below w.heap.size w X) => pwords_any _ n c d (by omega) X (hD.up h) hd8)
 have hl := hD.1
 clear hD
 obtain ⟨m, hm⟩ : ∃ m, n / 2 = m := ⟨_, rfl⟩
 have hm1 : 2 * m ≤ n := by omega
 have hm2 : n ≤ 2 * m + 1 := by omega
 rw [hm] at HWD
 clear hm
 have hu := Tryd.underlying59
 have hsz := zSz
 have h2 : ¬ (m : Int) < 2 := by omega
 have h0m : 0 < m := by omega
 have h1m : 1 < m := by omega
 have h0m' : (0 : Int) < (m : Int) := by omega
 have h1m' : (1 : Int) < (m : Int) := by omega
 have HF := Lib.hid (fun (a b : Int) (X : World) => fits_own a b X)
 go_in
 go_upto_region 2 with fail
 rw [HW1.out]
 go_upto_region 3 with (go_at_call 142; (with_reducible refine (HWD.out w1 hb1).mono ?_); rintro e w2 ⟨A2, c2, rfl, s2, hf2, hb2⟩)
 have hb2w := hb1.trans (hb2.mono hb1.size)
 have hL2 := hL1.below hb2 hL1.lt
 have hO2 := hO1.below hb2 hO1.lt
 have hA2 := hA1.below hb2 hA1.lt
 obtain ⟨l2_0, l2_1, l2_2, l2_3⟩ := four_cells hL2
 obtain ⟨o2_0, o2_1, o2_2, o2_3, o2_4, o2_5⟩ := six_cells hO2
 obtain ⟨a2_0, a2_1, a2_2, a2_3, a2_4, a2_5⟩ := six_cells hA2
 have fo2 := hO2.frozen
 have fa2 := hA2.frozen
 have zL2 := hL2.lt
 have zO2 := hO2.lt
 have zA2 := hA2.lt
 obtain ⟨g2, o2, rfl, hg2, hc2⟩ := s2.2.2.2.2 (by rw [wordsP_len]; omega)
 have hx0 : (wordsP d)[0]? = some (wordP d 0) := by rw [List.getElem?_eq_getElem (by rw [wordsP_len]; omega)]; simp [wordsP]
 have hy0 : (wordsP d)[1]? = some (wordP d 2) := by rw [List.getElem?_eq_getElem (by rw [wordsP_len]; omega)]; simp [wordsP]
 have cx := hc2 0 _ hx0
 have cy := hc2 1 _ hy0
 obtain ⟨x, hx⟩ : ∃ x, wordP d 0 = x := ⟨_, rfl⟩
 obtain ⟨y, hy⟩ : ∃ y, wordP d 2 = y := ⟨_, rfl⟩
 rw [hx] at cx
 rw [hy] at cy
 rw [Nat.add_zero] at cx
 have HX := Lib.hid (fun (X : World) (h : Below w2.heap.size w2 X) => (h.cell (p := ⟨g2, o2, none⟩) hg2).trans cx)
 have HY := Lib.hid (fun (X : World) (h : Below w2.heap.size w2 X) => (h.cell (p := ⟨g2, o2 + 1, none⟩) hg2).trans cy)
 clear s2 hc2 hx0 hy0
 have hg2f := hf2 g2 o2 rfl
 have hz1 : w1.heap.size = w.heap.size + 3 := by rw [← HW1.out]; simp
 have hgne : g2 ≠ w.heap.size + 1 + 1 := by omega
 have HN := Lib.hid hgne
 have HZ1 : Hid (g2 ≠ w.heap.size + 1) := Lib.hid (by omega)
 clear hz1 hg2f hf2 hgne
 go_upto_region 6 with fail
 obtain ⟨w3, hw3⟩ : ∃ W, w2.setCell ⟨w.heap.size + 1 + 1, 1, none⟩ (.int .i64 x) = W := ⟨_, rfl⟩
 obtain ⟨hb3w, hL3, hO3⟩ := zF2 hw3 hb2w hL2 hO2
 have hA3 : Held w3 (w.heap.size + 1 + 1) 59 #[.int .i64 fn, .int .i64 x, .int .i64 0, .int .i64 0, .slice none 0 0, .slice none 0 0] := by rw [← hw3]; exact hA2.set 1 _
 have cx3 : w3.cell? ⟨g2, o2, none⟩ = some (.int .i64 x) := by rw [← hw3]; exact ((Kx.refl (w.heap.size + 1 + 1) w2.heap.size w2).set 1 (.int .i64 x)).cell (p := ⟨g2, o2, none⟩) HN.out hg2 |>.trans cx
 have cy3 : w3.cell? ⟨g2, o2 + 1, none⟩ = some (.int .i64 y) := by rw [← hw3]; exact ((Kx.refl (w.heap.size + 1 + 1) w2.heap.size w2).set 1 (.int .i64 x)).cell (p := ⟨g2, o2 + 1, none⟩) HN.out hg2 |>.trans cy
 have hg3 : g2 < w3.heap.size := by rw [← hw3]; simpa [World.setCell] using hg2
 rw [hw3]
 clear hw3
 obtain ⟨l3_0, l3_1, l3_2, l3_3⟩ := four_cells hL3
 obtain ⟨o3_0, o3_1, o3_2, o3_3, o3_4, o3_5⟩ := six_cells hO3
 obtain ⟨a3_0, a3_1, a3_2, a3_3, a3_4, a3_5⟩ := six_cells hA3
 have fo3 := hO3.frozen
 have fa3 := hA3.frozen
 have zL3 := hL3.lt
 have zO3 := hO3.lt
 have zA3 := hA3.lt
 have HN1 := HZ1
 rw [hx] at ho
 have hnc : (n : Int) ≤ (c : Int) := by have := (HD.out w (Below.refl _ w)).2.1; omega
 have hcne : ¬ c = 2 := by omega
 have hkn : (2 : Int) ≤ (n : Int) := by omega
 obtain ⟨rest, hrest⟩ : ∃ r, (d.drop 2).drop 3 = r := ⟨_, rfl⟩
 have HL : Hid (∀ X, Below w.heap.size w X → Calls Tryd.prog 144 #[.slice (some ⟨g0, off0 + 2, none⟩) (n - 2) (c - 2), .func (.func 145) #[] #[], .int .i64 bt] X (ListPost X N rest true)) := Lib.hid (fun X h => by
  have h1 := list_bits _ (n - 2) (c - 2) (d.drop 2) bt X ((HD.out X h).drop 2 (by omega)) (fun x hx => hd8 x (List.mem_of_mem_drop hx)) (by omega)
  rw [hrest, HN_.out, HQ_.out] at h1
  exact h1)
 have hr8 : Byte8 rest := by rw [← hrest]; exact fun x hx => hd8 x (List.mem_of_mem_drop (List.mem_of_mem_drop hx))
 have hrl : rest.length ≤ 1000 := by rw [← hrest]; simp; omega
 have HR := Lib.hid hrest
 clear hrest
 go_upto_region 15 with fail
 obtain ⟨w4, hw4⟩ : ∃ W : World, w3.drew = W := ⟨_, rfl⟩
 have hb4 := zB3 hw4
 have hb4w := hb3w.trans (hb4.mono hb3w.size)
 have hL4 := hL3.below hb4 hL3.lt
 have hO4 := hO3.below hb4 hO3.lt
 have hA4 := hA3.below hb4 hA3.lt
 have hg4 : g2 < w4.heap.size := Nat.lt_of_lt_of_le hg3 hb4.size
 refine wp_region_held (S := (fun X => Below w.heap.size w X ∧ Held X w.heap.size 167 #[.int .i64 fn, .int .i64 rd, .int .i64 bt, .int .i64 rg] ∧ Held X (w.heap.size + 1 + 1) 59 #[.int .i64 fn, .int .i64 x, .int .i64 0, .int .i64 0, .slice none 0 0, .slice none 0 0] ∧ g2 < X.heap.size)) (by kernel_rfl) ?_
 change wpAnyH _ _ _ _ _ _ _ _ w3.drew
 rw [hw4]
 clear hw4
 have hS : (fun X => Below w.heap.size w X ∧ Held X w.heap.size 167 #[.int .i64 fn, .int .i64 rd, .int .i64 bt, .int .i64 rg] ∧ Held X (w.heap.size + 1 + 1) 59 #[.int .i64 fn, .int .i64 x, .int .i64 0, .int .i64 0, .slice none 0 0, .slice none 0 0] ∧ g2 < X.heap.size) w4 := ⟨hb4w, hL4, hA4, hg4⟩
 obtain ⟨z4_0, z4_1, z4_2, z4_3, z4_4, z4_5⟩ := six_cells hO4
 have fo4 := hO4.frozen
 have zO4 := hO4.lt
 refine zU 0 rfl hS ?_
 refine zU 1 rfl hS ?_
 refine zU 2 rfl hS ?_
 refine zU 3 rfl hS ?_ (hy := fun W hH => by
  obtain ⟨hbW, hLW, hAW, hgW⟩ := hH
  obtain ⟨l0, l1, l2, l3⟩ := four_cells hLW
  obtain ⟨a0, a1, a2, a3, a4, a5⟩ := six_cells hAW
  have haf := hAW.frozen
  clear hLW hAW hbW hgW
  go_simp
  with_reducible rfl)
 refine zR 4 rfl (fun K' hK' => ?_)
 go_simp
 refine (HL.out w4 hb4w).mono ?_
 rintro e w5 ⟨A5, m5, c5, rfl, sl5, hb5⟩
 go_simp
 refine hK'.out _ _ ⟨hS.1.trans (hb5.mono hS.1.size), hS.2.1.below hb5 hS.2.1.lt, hS.2.2.1.below hb5 hS.2.2.1.lt, Nat.lt_of_lt_of_le hS.2.2.2 hb5.size⟩ (fun hS => ?_)
 clear hK' K'
 refine zU 5 rfl hS ?_
 refine zU 6 rfl hS ?_
 refine zU 7 rfl hS ?_
 refine zU 8 rfl hS ?_
 refine zU 9 rfl hS ?_
 refine zU 10 rfl hS ?_
 refine zU 11 rfl hS ?_
 refine wpAnyH_done (by kernel_rfl) ?_ _
 have hb5w := hb4w.trans (hb5.mono hb4w.size)
 have hL5 := hL4.below hb5 hL4.lt
 have hO5 := hO4.below hb5 hO4.lt
 have hA5 := hA4.below hb5 hA4.lt
 have hg5 : g2 < w5.heap.size := Nat.lt_of_lt_of_le hg4 hb5.size
 have hrd : rest = d.drop 5 := by rw [← HR.out, List.drop_drop]
 rw [← hrd] at ho
 have HRD := Lib.hid hrd
 clear hrd
 have HU := Lib.hid (fun (X : World) (A : Option Addr) (m c : Nat) (h : SlI X X.heap.size .u8 A m c rest) => (callsIn_wide (n := 5)).1 (unpack_in A m c rest h.1 hr8 N X h.2.2.2.2))
 go_upto_region 18 with (go_at_call 68; (with_reducible refine (HU.out w5 _ _ _ sl5).mono ?_); rintro e w6 ⟨⟨Au, mu, cu, rfl, su6⟩, hb6⟩; have hb6w := hb5w.trans (hb6.mono hb5w.size); have hL6 := hL5.below hb6 hL5.lt; have hO6 := hO5.below hb6 hO5.lt; have hA6 := hA5.below hb6 hA5.lt; have hg6 : g2 < w6.heap.size := Nat.lt_of_lt_of_le hg5 hb6.size; obtain ⟨l6_0, l6_1, l6_2, l6_3⟩ := four_cells hL6; obtain ⟨o6_0, o6_1, o6_2, o6_3, o6_4, o6_5⟩ := six_cells hO6; obtain ⟨a6_0, a6_1, a6_2, a6_3, a6_4, a6_5⟩ := six_cells hA6; have fo6 := hO6.frozen; have fa6 := hA6.frozen; have zL6 := hL6.lt; have zO6 := hO6.lt; have zA6 := hA6.lt)
 obtain ⟨w7, hw7⟩ : ∃ W, w6.setCell ⟨w.heap.size + 1 + 1, 4, none⟩ (.slice Au mu cu) = W := ⟨_, rfl⟩
 obtain ⟨hb7w, hL7, hO7⟩ := zF2 hw7 hb6w hL6 hO6
 have hA7 : Held w7 (w.heap.size + 1 + 1) 59 #[.int .i64 fn, .int .i64 x, .int .i64 0, .int .i64 0, .slice Au mu cu, .slice none 0 0] := by rw [← hw7]; exact hA6.set 4 _
 have hg7 : g2 < w7.heap.size := by rw [← hw7]; simpa [World.setCell] using hg6
 have su7 : SlB w7 w7.heap.size Au mu cu (unpackV rest N) := su6.off (by rw [← hw7]; exact (OffB.refl _ _).set 4 _) hA6 (by intro v hv x e; subst e; simp at hv)
 rw [hw7]
 clear hw7
 obtain ⟨l7_0, l7_1, l7_2, l7_3⟩ := four_cells hL7
 obtain ⟨o7_0, o7_1, o7_2, o7_3, o7_4, o7_5⟩ := six_cells hO7
 obtain ⟨a7_0, a7_1, a7_2, a7_3, a7_4, a7_5⟩ := six_cells hA7
 have fo7 := hO7.frozen
 have fa7 := hA7.frozen
 have zL7 := hL7.lt
 have zO7 := hO7.lt
 have zA7 := hA7.lt
 go_wp2_with ((with_reducible refine at_loadT 59 6 ?_); refine wpList_load_rowG rfl 59 (.tmp 6) rfl (w.heap.size + 1 + 1) rfl 59 _ _ hA7 hu rfl hsz ?_)
 obtain ⟨wz, hwz, hbz, hZ, hoff⟩ := six hb7w hO7 (Nat.le_succ _) (.int .i64 fn) (.int .i64 x) (.int .i64 0) (.int .i64 0) (.slice Au mu cu) (.slice none 0 0)
 obtain ⟨z0, z1, z2, z3, z4, z5⟩ := six_cells hZ
 rw [hwz]
 have HP : FPost w o (.returned (.tuple #[.agg #[.int .i64 fn, .int .i64 x, .int .i64 0, .int .i64 0, .slice Au mu cu, .slice none 0 0], .bool true])) wz := fpost ho ⟨_, _, _, _, _, _, rfl, su7.off hoff hO7 (by intro v hv x e; subst e; simp at hv), SlI.nil _ _ _⟩ hbz
 clear hwz
 exact bodyPost_ret (v := .tuple #[.agg #[.int .i64 fn, .int .i64 x, .int .i64 0, .int .i64 0, .slice Au mu cu, .slice none 0 0], .bool true]) (by simp [results, Tryd.results122, go_sem, z0, z1, z2, z3, z4, z5]) rfl HP
theorem fields_15f (fn rd bt rg : Int) (A : Option Addr) (n c : Nat) (d : List Int) (w : World) (hD : SlI w w.heap.size .u8 A n c d) (hd8 : Byte8 d) (hn : n ≤ 1000) (hs : 4 ≤ n) (t5 : (fn == 5) = false) (t6 : (fn == 6) = false) (t15 : (fn == 15) = true) (t16 : (fn == 16) = false) (t23 : (fn == 23) = false) (N : Int) (HN_ : Hid ((if (d.drop 2).length < 3 then 0 else wordP (d.drop 2) 0) = N)) (HQ_ : Hid ((decide (3 ≤ (d.drop 2).length) && listF ((wordP (d.drop 2) 0 + 7) / 8) bt (d.drop 2)) = false)) (o : Option AskP) (ho : Hid (o = none)) :
  Calls Tryd.prog 122 #[.agg #[.int .i64 fn, .int .i64 rd, .int .i64 bt, .int .i64 rg], .slice A n c] w (FPost w o) := by
 obtain ⟨g0, off0, rfl, hg0⟩ := hD.some_ (by omega)
 clear hg0
 obtain ⟨w1, HW1, hb1, hL1, hO1, hA1⟩ := zF0 w fn rd bt rg
 have HD := Lib.hid (fun (X : World) (h : Below w.heap.size w X) => hD.up h)
 have HWD := Lib.hid (fun (X : World) (h : Below w.heap.size w X) => pwords_any _ n c d (by omega) X (hD.up h) hd8)
 have hl := hD.1
 clear hD
 obtain ⟨m, hm⟩ : ∃ m, n / 2 = m := ⟨_, rfl⟩
 have hm1 : 2 * m ≤ n := by omega
 have hm2 : n ≤ 2 * m + 1 := by omega
 rw [hm] at HWD
 clear hm
 have hu := Tryd.underlying59
 have hsz := zSz
 have h2 : ¬ (m : Int) < 2 := by omega
 have h0m : 0 < m := by omega
 have h1m : 1 < m := by omega
 have h0m' : (0 : Int) < (m : Int) := by omega
 have h1m' : (1 : Int) < (m : Int) := by omega
 have HF := Lib.hid (fun (a b : Int) (X : World) => fits_own a b X)
 go_in
 go_upto_region 2 with fail
 rw [HW1.out]
 go_upto_region 3 with (go_at_call 142; (with_reducible refine (HWD.out w1 hb1).mono ?_); rintro e w2 ⟨A2, c2, rfl, s2, hf2, hb2⟩)
 have hb2w := hb1.trans (hb2.mono hb1.size)
 have hL2 := hL1.below hb2 hL1.lt
 have hO2 := hO1.below hb2 hO1.lt
 have hA2 := hA1.below hb2 hA1.lt
 obtain ⟨l2_0, l2_1, l2_2, l2_3⟩ := four_cells hL2
 obtain ⟨o2_0, o2_1, o2_2, o2_3, o2_4, o2_5⟩ := six_cells hO2
 obtain ⟨a2_0, a2_1, a2_2, a2_3, a2_4, a2_5⟩ := six_cells hA2
 have fo2 := hO2.frozen
 have fa2 := hA2.frozen
 have zL2 := hL2.lt
 have zO2 := hO2.lt
 have zA2 := hA2.lt
 obtain ⟨g2, o2, rfl, hg2, hc2⟩ := s2.2.2.2.2 (by rw [wordsP_len]; omega)
 have hx0 : (wordsP d)[0]? = some (wordP d 0) := by rw [List.getElem?_eq_getElem (by rw [wordsP_len]; omega)]; simp [wordsP]
 have hy0 : (wordsP d)[1]? = some (wordP d 2) := by rw [List.getElem?_eq_getElem (by rw [wordsP_len]; omega)]; simp [wordsP]
 have cx := hc2 0 _ hx0
 have cy := hc2 1 _ hy0
 obtain ⟨x, hx⟩ : ∃ x, wordP d 0 = x := ⟨_, rfl⟩
 obtain ⟨y, hy⟩ : ∃ y, wordP d 2 = y := ⟨_, rfl⟩
 rw [hx] at cx
 rw [hy] at cy
 rw [Nat.add_zero] at cx
 have HX := Lib.hid (fun (X : World) (h : Below w2.heap.size w2 X) => (h.cell (p := ⟨g2, o2, none⟩) hg2).trans cx)
 have HY := Lib.hid (fun (X : World) (h : Below w2.heap.size w2 X) => (h.cell (p := ⟨g2, o2 + 1, none⟩) hg2).trans cy)
 clear s2 hc2 hx0 hy0
 have hg2f := hf2 g2 o2 rfl
 have hz1 : w1.heap.size = w.heap.size + 3 := by rw [← HW1.out]; simp
 have hgne : g2 ≠ w.heap.size + 1 + 1 := by omega
 have HN := Lib.hid hgne
 have HZ1 : Hid (g2 ≠ w.heap.size + 1) := Lib.hid (by omega)
 clear hz1 hg2f hf2 hgne
 go_upto_region 6 with fail
 obtain ⟨w3, hw3⟩ : ∃ W, w2.setCell ⟨w.heap.size + 1 + 1, 1, none⟩ (.int .i64 x) = W := ⟨_, rfl⟩
 obtain ⟨hb3w, hL3, hO3⟩ := zF2 hw3 hb2w hL2 hO2
 have hA3 : Held w3 (w.heap.size + 1 + 1) 59 #[.int .i64 fn, .int .i64 x, .int .i64 0, .int .i64 0, .slice none 0 0, .slice none 0 0] := by rw [← hw3]; exact hA2.set 1 _
 have cx3 : w3.cell? ⟨g2, o2, none⟩ = some (.int .i64 x) := by rw [← hw3]; exact ((Kx.refl (w.heap.size + 1 + 1) w2.heap.size w2).set 1 (.int .i64 x)).cell (p := ⟨g2, o2, none⟩) HN.out hg2 |>.trans cx
 have cy3 : w3.cell? ⟨g2, o2 + 1, none⟩ = some (.int .i64 y) := by rw [← hw3]; exact ((Kx.refl (w.heap.size + 1 + 1) w2.heap.size w2).set 1 (.int .i64 x)).cell (p := ⟨g2, o2 + 1, none⟩) HN.out hg2 |>.trans cy
 have hg3 : g2 < w3.heap.size := by rw [← hw3]; simpa [World.setCell] using hg2
 rw [hw3]
 clear hw3
 obtain ⟨l3_0, l3_1, l3_2, l3_3⟩ := four_cells hL3
 obtain ⟨o3_0, o3_1, o3_2, o3_3, o3_4, o3_5⟩ := six_cells hO3
 obtain ⟨a3_0, a3_1, a3_2, a3_3, a3_4, a3_5⟩ := six_cells hA3
 have fo3 := hO3.frozen
 have fa3 := hA3.frozen
 have zL3 := hL3.lt
 have zO3 := hO3.lt
 have zA3 := hA3.lt
 have HN1 := HZ1
 have hnc : (n : Int) ≤ (c : Int) := by have := (HD.out w (Below.refl _ w)).2.1; omega
 have hcne : ¬ c = 2 := by omega
 have hkn : (2 : Int) ≤ (n : Int) := by omega
 obtain ⟨rest, hrest⟩ : ∃ r, (d.drop 2).drop 3 = r := ⟨_, rfl⟩
 have HL : Hid (∀ X, Below w.heap.size w X → Calls Tryd.prog 144 #[.slice (some ⟨g0, off0 + 2, none⟩) (n - 2) (c - 2), .func (.func 145) #[] #[], .int .i64 bt] X (ListPost X N rest false)) := Lib.hid (fun X h => by
  have h1 := list_bits _ (n - 2) (c - 2) (d.drop 2) bt X ((HD.out X h).drop 2 (by omega)) (fun x hx => hd8 x (List.mem_of_mem_drop hx)) (by omega)
  rw [hrest, HN_.out, HQ_.out] at h1
  exact h1)
 have hr8 : Byte8 rest := by rw [← hrest]; exact fun x hx => hd8 x (List.mem_of_mem_drop (List.mem_of_mem_drop hx))
 have hrl : rest.length ≤ 1000 := by rw [← hrest]; simp; omega
 have HR := Lib.hid hrest
 clear hrest
 go_upto_region 15 with fail
 obtain ⟨w4, hw4⟩ : ∃ W : World, w3.drew = W := ⟨_, rfl⟩
 have hb4 := zB3 hw4
 have hb4w := hb3w.trans (hb4.mono hb3w.size)
 have hL4 := hL3.below hb4 hL3.lt
 have hO4 := hO3.below hb4 hO3.lt
 have hA4 := hA3.below hb4 hA3.lt
 have hg4 : g2 < w4.heap.size := Nat.lt_of_lt_of_le hg3 hb4.size
 refine wp_region_held (S := (fun X => Below w.heap.size w X ∧ Held X w.heap.size 167 #[.int .i64 fn, .int .i64 rd, .int .i64 bt, .int .i64 rg] ∧ Held X (w.heap.size + 1 + 1) 59 #[.int .i64 fn, .int .i64 x, .int .i64 0, .int .i64 0, .slice none 0 0, .slice none 0 0] ∧ g2 < X.heap.size)) (by kernel_rfl) ?_
 change wpAnyH _ _ _ _ _ _ _ _ w3.drew
 rw [hw4]
 clear hw4
 have hS : (fun X => Below w.heap.size w X ∧ Held X w.heap.size 167 #[.int .i64 fn, .int .i64 rd, .int .i64 bt, .int .i64 rg] ∧ Held X (w.heap.size + 1 + 1) 59 #[.int .i64 fn, .int .i64 x, .int .i64 0, .int .i64 0, .slice none 0 0, .slice none 0 0] ∧ g2 < X.heap.size) w4 := ⟨hb4w, hL4, hA4, hg4⟩
 obtain ⟨z4_0, z4_1, z4_2, z4_3, z4_4, z4_5⟩ := six_cells hO4
 have fo4 := hO4.frozen
 have zO4 := hO4.lt
 refine zU 0 rfl hS ?_
 refine zU 1 rfl hS ?_
 refine zU 2 rfl hS ?_
 refine zU 3 rfl hS ?_ (hy := fun W hH => by
  obtain ⟨hbW, hLW, hAW, hgW⟩ := hH
  obtain ⟨l0, l1, l2, l3⟩ := four_cells hLW
  obtain ⟨a0, a1, a2, a3, a4, a5⟩ := six_cells hAW
  have haf := hAW.frozen
  clear hLW hAW hbW hgW
  go_simp
  with_reducible rfl)
 refine zR 4 rfl (fun K' hK' => ?_)
 go_simp
 refine (HL.out w4 hb4w).mono ?_
 rintro e w5 ⟨A5, m5, c5, rfl, sl5, hb5⟩
 go_simp
 refine hK'.out _ _ ⟨hS.1.trans (hb5.mono hS.1.size), hS.2.1.below hb5 hS.2.1.lt, hS.2.2.1.below hb5 hS.2.2.1.lt, Nat.lt_of_lt_of_le hS.2.2.2 hb5.size⟩ (fun hS => ?_)
 clear hK' K'
 refine zU 5 rfl hS ?_
 refine zU 6 rfl hS ?_
 refine zU 7 rfl hS ?_
 refine zU 8 rfl hS ?_
 refine zU 9 rfl hS ?_
 refine zU 10 rfl hS ?_
 refine zU 11 rfl hS ?_
 refine wpAnyH_done (by kernel_rfl) ?_ _
 have hb5w := hb4w.trans (hb5.mono hb4w.size)
 have hL5 := hL4.below hb5 hL4.lt
 have hO5 := hO4.below hb5 hO4.lt
 have hA5 := hA4.below hb5 hA4.lt
 have hg5 : g2 < w5.heap.size := Nat.lt_of_lt_of_le hg4 hb5.size
 go_upto_region 18 with fail
 obtain ⟨l5_0, l5_1, l5_2, l5_3⟩ := four_cells hL5
 obtain ⟨o5_0, o5_1, o5_2, o5_3, o5_4, o5_5⟩ := six_cells hO5
 obtain ⟨a5_0, a5_1, a5_2, a5_3, a5_4, a5_5⟩ := six_cells hA5
 have fo5 := hO5.frozen
 have fa5 := hA5.frozen
 have zL5 := hL5.lt
 have zO5 := hO5.lt
 have zA5 := hA5.lt
 go_wp2_with ((with_reducible refine at_loadT 59 6 ?_); refine wpList_load_rowG rfl 59 (.tmp 6) rfl (w.heap.size + 1 + 1) rfl 59 _ _ hA5 hu rfl hsz ?_)
 obtain ⟨wz, hwz, hbz, hZ, hoff⟩ := six hb5w hO5 (Nat.le_succ _) (.int .i64 fn) (.int .i64 x) (.int .i64 0) (.int .i64 0) (.slice none 0 0) (.slice none 0 0)
 obtain ⟨z0, z1, z2, z3, z4, z5⟩ := six_cells hZ
 rw [hwz]
 have HP : FPost w o (.returned (.tuple #[.agg #[.int .i64 fn, .int .i64 x, .int .i64 0, .int .i64 0, .slice none 0 0, .slice none 0 0], .bool false])) wz := fpost (p := ⟨fn, x, 0, 0, [], []⟩) (q := false) ho ⟨_, _, _, _, _, _, rfl, SlB.nil _ _, SlI.nil _ _ _⟩ hbz
 clear hwz
 exact bodyPost_ret (v := .tuple #[.agg #[.int .i64 fn, .int .i64 x, .int .i64 0, .int .i64 0, .slice none 0 0, .slice none 0 0], .bool false]) (by simp [results, Tryd.results122, go_sem, z0, z1, z2, z3, z4, z5]) rfl HP
theorem fields_16 (fn rd bt rg : Int) (A : Option Addr) (n c : Nat) (d : List Int) (w : World) (hD : SlI w w.heap.size .u8 A n c d) (hd8 : Byte8 d) (hn : n ≤ 1000) (hs : 4 ≤ n) (t5 : (fn == 5) = false) (t6 : (fn == 6) = false) (t15 : (fn == 15) = false) (t16 : (fn == 16) = true) (t23 : (fn == 23) = false) (N : Int) (HN_ : Hid ((if (d.drop 2).length < 3 then 0 else wordP (d.drop 2) 0) = N)) (q : Bool) (HQ_ : Hid ((decide (3 ≤ (d.drop 2).length) && listF (2 * wordP (d.drop 2) 0) rg (d.drop 2)) = q)) (o : Option AskP) (ho : Hid (o = if q = true then some ⟨fn, wordP d 0, 0, 0, [], fromP (d.drop 5)⟩ else none)) :
  Calls Tryd.prog 122 #[.agg #[.int .i64 fn, .int .i64 rd, .int .i64 bt, .int .i64 rg], .slice A n c] w (FPost w o) := by
 obtain ⟨g0, off0, rfl, hg0⟩ := hD.some_ (by omega)
 clear hg0
 obtain ⟨w1, HW1, hb1, hL1, hO1, hA1⟩ := zF0 w fn rd bt rg
 have HD := Lib.hid (fun (X : World) (h : Below w.heap.size w X) => hD.up h)
 have HWD := Lib.hid (fun (X : World) (h : Below w.heap.size w X) => pwords_any _ n c d (by omega) X (hD.up h) hd8)
 have hl := hD.1
 clear hD
 obtain ⟨m, hm⟩ : ∃ m, n / 2 = m := ⟨_, rfl⟩
 have hm1 : 2 * m ≤ n := by omega
 have hm2 : n ≤ 2 * m + 1 := by omega
 rw [hm] at HWD
 clear hm
 have hu := Tryd.underlying59
 have hsz := zSz
 have h2 : ¬ (m : Int) < 2 := by omega
 have h0m : 0 < m := by omega
 have h1m : 1 < m := by omega
 have h0m' : (0 : Int) < (m : Int) := by omega
 have h1m' : (1 : Int) < (m : Int) := by omega
 have HF := Lib.hid (fun (a b : Int) (X : World) => fits_own a b X)
 go_in
 go_upto_region 2 with fail
 rw [HW1.out]
 go_upto_region 3 with (go_at_call 142; (with_reducible refine (HWD.out w1 hb1).mono ?_); rintro e w2 ⟨A2, c2, rfl, s2, hf2, hb2⟩)
 have hb2w := hb1.trans (hb2.mono hb1.size)
 have hL2 := hL1.below hb2 hL1.lt
 have hO2 := hO1.below hb2 hO1.lt
 have hA2 := hA1.below hb2 hA1.lt
 obtain ⟨l2_0, l2_1, l2_2, l2_3⟩ := four_cells hL2
 obtain ⟨o2_0, o2_1, o2_2, o2_3, o2_4, o2_5⟩ := six_cells hO2
 obtain ⟨a2_0, a2_1, a2_2, a2_3, a2_4, a2_5⟩ := six_cells hA2
 have fo2 := hO2.frozen
 have fa2 := hA2.frozen
 have zL2 := hL2.lt
 have zO2 := hO2.lt
 have zA2 := hA2.lt
 obtain ⟨g2, o2, rfl, hg2, hc2⟩ := s2.2.2.2.2 (by rw [wordsP_len]; omega)
 have hx0 : (wordsP d)[0]? = some (wordP d 0) := by rw [List.getElem?_eq_getElem (by rw [wordsP_len]; omega)]; simp [wordsP]
 have hy0 : (wordsP d)[1]? = some (wordP d 2) := by rw [List.getElem?_eq_getElem (by rw [wordsP_len]; omega)]; simp [wordsP]
 have cx := hc2 0 _ hx0
 have cy := hc2 1 _ hy0
 obtain ⟨x, hx⟩ : ∃ x, wordP d 0 = x := ⟨_, rfl⟩
 obtain ⟨y, hy⟩ : ∃ y, wordP d 2 = y := ⟨_, rfl⟩
 rw [hx] at cx
 rw [hy] at cy
 rw [Nat.add_zero] at cx
 have HX := Lib.hid (fun (X : World) (h : Below w2.heap.size w2 X) => (h.cell (p := ⟨g2, o2, none⟩) hg2).trans cx)
 have HY := Lib.hid (fun (X : World) (h : Below w2.heap.size w2 X) => (h.cell (p := ⟨g2, o2 + 1, none⟩) hg2).trans cy)
 clear s2 hc2 hx0 hy0
 have hg2f := hf2 g2 o2 rfl
 have hz1 : w1.heap.size = w.heap.size + 3 := by rw [← HW1.out]; simp
 have hgne : g2 ≠ w.heap.size + 1 + 1 := by omega
 have HN := Lib.hid hgne
 have HZ1 : Hid (g2 ≠ w.heap.size + 1) := Lib.hid (by omega)
 clear hz1 hg2f hf2 hgne
 go_upto_region 6 with fail
 obtain ⟨w3, hw3⟩ : ∃ W, w2.setCell ⟨w.heap.size + 1 + 1, 1, none⟩ (.int .i64 x) = W := ⟨_, rfl⟩
 obtain ⟨hb3w, hL3, hO3⟩ := zF2 hw3 hb2w hL2 hO2
 have hA3 : Held w3 (w.heap.size + 1 + 1) 59 #[.int .i64 fn, .int .i64 x, .int .i64 0, .int .i64 0, .slice none 0 0, .slice none 0 0] := by rw [← hw3]; exact hA2.set 1 _
 have cx3 : w3.cell? ⟨g2, o2, none⟩ = some (.int .i64 x) := by rw [← hw3]; exact ((Kx.refl (w.heap.size + 1 + 1) w2.heap.size w2).set 1 (.int .i64 x)).cell (p := ⟨g2, o2, none⟩) HN.out hg2 |>.trans cx
 have cy3 : w3.cell? ⟨g2, o2 + 1, none⟩ = some (.int .i64 y) := by rw [← hw3]; exact ((Kx.refl (w.heap.size + 1 + 1) w2.heap.size w2).set 1 (.int .i64 x)).cell (p := ⟨g2, o2 + 1, none⟩) HN.out hg2 |>.trans cy
 have hg3 : g2 < w3.heap.size := by rw [← hw3]; simpa [World.setCell] using hg2
 rw [hw3]
 clear hw3
 obtain ⟨l3_0, l3_1, l3_2, l3_3⟩ := four_cells hL3
 obtain ⟨o3_0, o3_1, o3_2, o3_3, o3_4, o3_5⟩ := six_cells hO3
 obtain ⟨a3_0, a3_1, a3_2, a3_3, a3_4, a3_5⟩ := six_cells hA3
 have fo3 := hO3.frozen
 have fa3 := hA3.frozen
 have zL3 := hL3.lt
 have zO3 := hO3.lt
 have zA3 := hA3.lt
 have HN1 := HZ1
 rw [hx] at ho
 have hnc : (n : Int) ≤ (c : Int) := by have := (HD.out w (Below.refl _ w)).2.1; omega
 have hcne : ¬ c = 2 := by omega
 have hkn : (2 : Int) ≤ (n : Int) := by omega
 obtain ⟨rest, hrest⟩ : ∃ r, (d.drop 2).drop 3 = r := ⟨_, rfl⟩
 have HL : Hid (∀ X, Below w.heap.size w X → Calls Tryd.prog 144 #[.slice (some ⟨g0, off0 + 2, none⟩) (n - 2) (c - 2), .func (.func 143) #[] #[], .int .i64 rg] X (ListPost X N rest q)) := Lib.hid (fun X h => by
  have h1 := list_two _ (n - 2) (c - 2) (d.drop 2) rg X ((HD.out X h).drop 2 (by omega)) (fun x hx => hd8 x (List.mem_of_mem_drop hx)) (by omega)
  rw [hrest, HN_.out, HQ_.out] at h1
  exact h1)
 have hr8 : Byte8 rest := by rw [← hrest]; exact fun x hx => hd8 x (List.mem_of_mem_drop (List.mem_of_mem_drop hx))
 have hrl : rest.length ≤ 1000 := by rw [← hrest]; simp; omega
 have HR := Lib.hid hrest
 clear hrest
 go_upto_region 20 with fail
 obtain ⟨w4, hw4⟩ : ∃ W : World, w3.drew = W := ⟨_, rfl⟩
 have hb4 := zB3 hw4
 have hb4w := hb3w.trans (hb4.mono hb3w.size)
 have hL4 := hL3.below hb4 hL3.lt
 have hO4 := hO3.below hb4 hO3.lt
 have hA4 := hA3.below hb4 hA3.lt
 have hg4 : g2 < w4.heap.size := Nat.lt_of_lt_of_le hg3 hb4.size
 refine wp_region_held (S := (fun X => Below w.heap.size w X ∧ Held X w.heap.size 167 #[.int .i64 fn, .int .i64 rd, .int .i64 bt, .int .i64 rg] ∧ Held X (w.heap.size + 1 + 1) 59 #[.int .i64 fn, .int .i64 x, .int .i64 0, .int .i64 0, .slice none 0 0, .slice none 0 0] ∧ g2 < X.heap.size)) (by kernel_rfl) ?_
 change wpAnyH _ _ _ _ _ _ _ _ w3.drew
 rw [hw4]
 clear hw4
 have hS : (fun X => Below w.heap.size w X ∧ Held X w.heap.size 167 #[.int .i64 fn, .int .i64 rd, .int .i64 bt, .int .i64 rg] ∧ Held X (w.heap.size + 1 + 1) 59 #[.int .i64 fn, .int .i64 x, .int .i64 0, .int .i64 0, .slice none 0 0, .slice none 0 0] ∧ g2 < X.heap.size) w4 := ⟨hb4w, hL4, hA4, hg4⟩
 obtain ⟨z4_0, z4_1, z4_2, z4_3, z4_4, z4_5⟩ := six_cells hO4
 have fo4 := hO4.frozen
 have zO4 := hO4.lt
 refine zU 0 rfl hS ?_
 refine zU 1 rfl hS ?_
 refine zU 2 rfl hS ?_
 refine zU 3 rfl hS ?_
 refine zU 4 rfl hS ?_ (hy := fun W hH => by
  obtain ⟨hbW, hLW, hAW, hgW⟩ := hH
  obtain ⟨l0, l1, l2, l3⟩ := four_cells hLW
  obtain ⟨a0, a1, a2, a3, a4, a5⟩ := six_cells hAW
  have haf := hAW.frozen
  clear hLW hAW hbW hgW
  go_simp
  with_reducible rfl)
 refine zR 5 rfl (fun K' hK' => ?_)
 go_simp
 refine (HL.out w4 hb4w).mono ?_
 rintro e w5 ⟨A5, m5, c5, rfl, sl5, hb5⟩
 go_simp
 refine hK'.out _ _ ⟨hS.1.trans (hb5.mono hS.1.size), hS.2.1.below hb5 hS.2.1.lt, hS.2.2.1.below hb5 hS.2.2.1.lt, Nat.lt_of_lt_of_le hS.2.2.2 hb5.size⟩ (fun hS => ?_)
 clear hK' K'
 refine zU 6 rfl hS ?_
 refine zU 7 rfl hS ?_
 refine zU 8 rfl hS ?_
 refine zU 9 rfl hS ?_
 refine zU 10 rfl hS ?_
 refine zU 11 rfl hS ?_
 refine zU 12 rfl hS ?_
 refine wpAnyH_done (by kernel_rfl) ?_ _
 have hb5w := hb4w.trans (hb5.mono hb4w.size)
 have hL5 := hL4.below hb5 hL4.lt
 have hO5 := hO4.below hb5 hO4.lt
 have hA5 := hA4.below hb5 hA4.lt
 have hg5 : g2 < w5.heap.size := Nat.lt_of_lt_of_le hg4 hb5.size
 have hrd : rest = d.drop 5 := by rw [← HR.out, List.drop_drop]
 rw [← hrd] at ho
 have HRD := Lib.hid hrd
 clear hrd
 have HU := Lib.hid (fun (X : World) (A : Option Addr) (m c : Nat) (h : SlI X X.heap.size .u8 A m c rest) => from_any A m c rest (by have := h.1; omega) X h hr8)
 go_upto_region 22 with (go_at_call 69; (with_reducible refine (HU.out w5 _ _ _ sl5).mono ?_); rintro e w6 ⟨Au, mu, cu, qq, rfl, su6, hb6⟩; have hb6w := hb5w.trans (hb6.mono hb5w.size); have hL6 := hL5.below hb6 hL5.lt; have hO6 := hO5.below hb6 hO5.lt; have hA6 := hA5.below hb6 hA5.lt; have hg6 : g2 < w6.heap.size := Nat.lt_of_lt_of_le hg5 hb6.size; obtain ⟨l6_0, l6_1, l6_2, l6_3⟩ := four_cells hL6; obtain ⟨o6_0, o6_1, o6_2, o6_3, o6_4, o6_5⟩ := six_cells hO6; obtain ⟨a6_0, a6_1, a6_2, a6_3, a6_4, a6_5⟩ := six_cells hA6; have fo6 := hO6.frozen; have fa6 := hA6.frozen; have zL6 := hL6.lt; have zO6 := hO6.lt; have zA6 := hA6.lt)
 obtain ⟨w7, hw7⟩ : ∃ W, w6.setCell ⟨w.heap.size + 1 + 1, 5, none⟩ (.slice Au mu cu) = W := ⟨_, rfl⟩
 obtain ⟨hb7w, hL7, hO7⟩ := zF2 hw7 hb6w hL6 hO6
 have hA7 : Held w7 (w.heap.size + 1 + 1) 59 #[.int .i64 fn, .int .i64 x, .int .i64 0, .int .i64 0, .slice none 0 0, .slice Au mu cu] := by rw [← hw7]; exact hA6.set 5 _
 have hg7 : g2 < w7.heap.size := by rw [← hw7]; simpa [World.setCell] using hg6
 have su7 : SlI w7 w7.heap.size .u16 Au mu cu (fromP rest) := su6.off (by rw [← hw7]; exact (OffB.refl _ _).set 5 _) hA6 (by intro v hv x e; subst e; simp at hv)
 rw [hw7]
 clear hw7
 obtain ⟨l7_0, l7_1, l7_2, l7_3⟩ := four_cells hL7
 obtain ⟨o7_0, o7_1, o7_2, o7_3, o7_4, o7_5⟩ := six_cells hO7
 obtain ⟨a7_0, a7_1, a7_2, a7_3, a7_4, a7_5⟩ := six_cells hA7
 have fo7 := hO7.frozen
 have fa7 := hA7.frozen
 have zL7 := hL7.lt
 have zO7 := hO7.lt
 have zA7 := hA7.lt
 go_wp2_with ((with_reducible refine at_loadT 59 6 ?_); refine wpList_load_rowG rfl 59 (.tmp 6) rfl (w.heap.size + 1 + 1) rfl 59 _ _ hA7 hu rfl hsz ?_)
 obtain ⟨wz, hwz, hbz, hZ, hoff⟩ := six hb7w hO7 (Nat.le_succ _) (.int .i64 fn) (.int .i64 x) (.int .i64 0) (.int .i64 0) (.slice none 0 0) (.slice Au mu cu)
 obtain ⟨z0, z1, z2, z3, z4, z5⟩ := six_cells hZ
 rw [hwz]
 have HP : FPost w o (.returned (.tuple #[.agg #[.int .i64 fn, .int .i64 x, .int .i64 0, .int .i64 0, .slice none 0 0, .slice Au mu cu], .bool q])) wz := fpost ho ⟨_, _, _, _, _, _, rfl, SlB.nil _ _, su7.off hoff hO7 (by intro v hv x e; subst e; simp at hv)⟩ hbz
 clear hwz
 exact bodyPost_ret (v := .tuple #[.agg #[.int .i64 fn, .int .i64 x, .int .i64 0, .int .i64 0, .slice none 0 0, .slice Au mu cu], .bool q]) (by simp [results, Tryd.results122, go_sem, z0, z1, z2, z3, z4, z5]) rfl HP
end Go.Proofs.YtcipleanckeoaaaDoor
