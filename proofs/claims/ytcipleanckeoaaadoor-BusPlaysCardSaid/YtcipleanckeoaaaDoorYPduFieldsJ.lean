/- pdu.fields: a way. -/
import Derived.Test.YtcipleanckeoaaaDoorYTk
import Derived.Test.YtcipleanckeoaaaDoorYPduFields
import Derived.Test.YtcipleanckeoaaaDoorYPduFrom
open List renaming getElem_toArray → zA, getElem_cons_zero → zB, setIfInBounds_toArray → zC, set_cons_succ → zD, set_cons_zero → zE, getElem_cons_succ → zF
set_option maxRecDepth 100000
set_option maxHeartbeats 40000000
namespace Go.Proofs.YtcipleanckeoaaaDoor
open Go.RowKit
set_option linter.unusedVariables false
theorem fields_5n (fn rd bt rg : Int) (A : Option Addr) (n c : Nat) (d : List Int) (w : World) (hD : SlI w w.heap.size .u8 A n c d) (hd8 : Byte8 d) (hn : n ≤ 1000) (hs : 4 ≤ n) (h4 : ((n : Int) == 4) = false) (t5 : (fn == 5) = true) (t6 : (fn == 6) = false) (t15 : (fn == 15) = false) (t16 : (fn == 16) = false) (t23 : (fn == 23) = false) (bb : Bool) (tb : (wordP d 2 == 65280) = bb) (o : Option AskP) (ho : Hid (o = if false = true then some ⟨fn, wordP d 0, 0, 0, [bb], []⟩ else none)) :
  Calls Tryd.prog 122 #[.agg #[.int .i64 fn, .int .i64 rd, .int .i64 bt, .int .i64 rg], .slice A n c] w (FPost w o) := by
 obtain ⟨w1, HW1, hb1, hL1, hO1, hA1⟩ := zF0 w fn rd bt rg
 have HD := Lib.hid (fun (X : World) (h : Below w.heap.size w X) => hD.up h)
 have HWD := Lib.hid (fun (X : World) (h : Below w.heap.size w X) => pwords_any A n c d (by omega) X (hD.up h) hd8)
 have hl := hD.1
 clear hD
 obtain ⟨m, hm⟩ : ∃ m, n / 2 = m := ⟨_, rfl⟩
 have hm1 : 2 * m ≤ n := by omega
 have hm2 : n ≤ 2 * m + 1 := by omega
 rw [hm] at HWD
 clear hm
 have hu := Tryd.underlying59
 have hsz := zSz
 have h2 : ¬ (m : Int) < 2 := by omega
 have h0m : 0 < m := by omega
 have h1m : 1 < m := by omega
 have h0m' : (0 : Int) < (m : Int) := by omega
 have h1m' : (1 : Int) < (m : Int) := by omega
 have HF := Lib.hid (fun (a b : Int) (X : World) => fits_own a b X)
 go_in
 go_upto_region 2 with fail
 rw [HW1.out]
 go_upto_region 3 with (go_at_call 142; (with_reducible refine (HWD.out w1 hb1).mono ?_); rintro e w2 ⟨A2, c2, rfl, s2, hf2, hb2⟩)
 have hb2w := hb1.trans (hb2.mono hb1.size)
 have hL2 := hL1.below hb2 hL1.lt
 have hO2 := hO1.below hb2 hO1.lt
 have hA2 := hA1.below hb2 hA1.lt
 obtain ⟨l2_0, l2_1, l2_2, l2_3⟩ := four_cells hL2
 obtain ⟨o2_0, o2_1, o2_2, o2_3, o2_4, o2_5⟩ := six_cells hO2
 obtain ⟨a2_0, a2_1, a2_2, a2_3, a2_4, a2_5⟩ := six_cells hA2
 have fo2 := hO2.frozen
 have fa2 := hA2.frozen
 have zL2 := hL2.lt
 have zO2 := hO2.lt
 have zA2 := hA2.lt
 obtain ⟨g2, o2, rfl, hg2, hc2⟩ := s2.2.2.2.2 (by rw [wordsP_len]; omega)
 have hx0 : (wordsP d)[0]? = some (wordP d 0) := by rw [List.getElem?_eq_getElem (by rw [wordsP_len]; omega)]; simp [wordsP]
 have hy0 : (wordsP d)[1]? = some (wordP d 2) := by rw [List.getElem?_eq_getElem (by rw [wordsP_len]; omega)]; simp [wordsP]
 have cx := hc2 0 _ hx0
 have cy := hc2 1 _ hy0
 obtain ⟨x, hx⟩ : ∃ x, wordP d 0 = x := ⟨_, rfl⟩
 obtain ⟨y, hy⟩ : ∃ y, wordP d 2 = y := ⟨_, rfl⟩
 rw [hx] at cx
 rw [hy] at cy
 rw [Nat.add_zero] at cx
 have HX := Lib.hid (fun (X : World) (h : Below w2.heap.size w2 X) => (h.cell (p := ⟨g2, o2, none⟩) hg2).trans cx)
 have HY := Lib.hid (fun (X : World) (h : Below w2.heap.size w2 X) => (h.cell (p := ⟨g2, o2 + 1, none⟩) hg2).trans cy)
 clear s2 hc2 hx0 hy0
 have hg2f := hf2 g2 o2 rfl
 have hz1 : w1.heap.size = w.heap.size + 3 := by rw [← HW1.out]; simp
 have hgne : g2 ≠ w.heap.size + 1 + 1 := by omega
 have HN := Lib.hid hgne
 have HZ1 : Hid (g2 ≠ w.heap.size + 1) := Lib.hid (by omega)
 clear hz1 hg2f hf2 hgne
 go_upto_region 6 with fail
 obtain ⟨w3, hw3⟩ : ∃ W, w2.setCell ⟨w.heap.size + 1 + 1, 1, none⟩ (.int .i64 x) = W := ⟨_, rfl⟩
 obtain ⟨hb3w, hL3, hO3⟩ := zF2 hw3 hb2w hL2 hO2
 have hA3 : Held w3 (w.heap.size + 1 + 1) 59 #[.int .i64 fn, .int .i64 x, .int .i64 0, .int .i64 0, .slice none 0 0, .slice none 0 0] := by rw [← hw3]; exact hA2.set 1 _
 have cx3 : w3.cell? ⟨g2, o2, none⟩ = some (.int .i64 x) := by rw [← hw3]; exact ((Kx.refl (w.heap.size + 1 + 1) w2.heap.size w2).set 1 (.int .i64 x)).cell (p := ⟨g2, o2, none⟩) HN.out hg2 |>.trans cx
 have cy3 : w3.cell? ⟨g2, o2 + 1, none⟩ = some (.int .i64 y) := by rw [← hw3]; exact ((Kx.refl (w.heap.size + 1 + 1) w2.heap.size w2).set 1 (.int .i64 x)).cell (p := ⟨g2, o2 + 1, none⟩) HN.out hg2 |>.trans cy
 have hg3 : g2 < w3.heap.size := by rw [← hw3]; simpa [World.setCell] using hg2
 rw [hw3]
 clear hw3
 obtain ⟨l3_0, l3_1, l3_2, l3_3⟩ := four_cells hL3
 obtain ⟨o3_0, o3_1, o3_2, o3_3, o3_4, o3_5⟩ := six_cells hO3
 obtain ⟨a3_0, a3_1, a3_2, a3_3, a3_4, a3_5⟩ := six_cells hA3
 have fo3 := hO3.frozen
 have fa3 := hA3.frozen
 have zL3 := hL3.lt
 have zO3 := hO3.lt
 have zA3 := hA3.lt
 have HN1 := HZ1
 have cw3_1 : w3.cell? ⟨g2, o2 + 1, none⟩ = some (.int .i64 y) := cy3
 rw [hx] at ho
 rw [hy] at tb
 go_upto_region 10 with fail
 obtain ⟨gr, hgr⟩ : ∃ g, w3.heap.size = g := ⟨_, rfl⟩
 rw [hgr]
 obtain ⟨w4, hw4⟩ : ∃ W, w3.setCell ⟨w.heap.size + 1 + 1, 4, none⟩ (.slice (some ⟨gr, 0, none⟩) 1 1) = W := ⟨_, rfl⟩
 obtain ⟨hb4w, hL4, hO4⟩ := zF2 hw4 hb3w hL3 hO3
 have hA4 : Held w4 (w.heap.size + 1 + 1) 59 #[.int .i64 fn, .int .i64 x, .int .i64 0, .int .i64 0, .slice (some ⟨gr, 0, none⟩) 1 1, .slice none 0 0] := by rw [← hw4]; exact hA3.set 4 _
 have cw4_1 : w4.cell? ⟨g2, o2 + 1, none⟩ = some (.int .i64 y) := by rw [← hw4]; exact (World.cell?_of_block (((OffB.refl w3 (w.heap.size + 1 + 1)).set 4 (.slice (some ⟨gr, 0, none⟩) 1 1)).2 g2 HN.out)).trans cw3_1
 have hg4 : g2 < w4.heap.size := by rw [← hw4]; simpa [World.setCell] using hg3
 have hgr4 : Hid (w4.heap.size = gr) := Lib.hid (by rw [← hw4, ← hgr]; simp [World.setCell])
 rw [hw4]
 clear hw4 hgr
 obtain ⟨w5, hw5⟩ : ∃ W, w4.alloc (.cells #[.bool bb] 4) = W := ⟨_, rfl⟩
 have hb5 := zB1 hw5
 have hb5w := hb4w.trans (hb5.mono hb4w.size)
 have hL5 := hL4.below hb5 hL4.lt
 have hO5 := hO4.below hb5 hO4.lt
 have hA5 := hA4.below hb5 hA4.lt
 have cw5_1 : w5.cell? ⟨g2, o2 + 1, none⟩ = some (.int .i64 y) := (hb5.cell (p := ⟨g2, o2 + 1, none⟩) hg4).trans cw4_1
 have hg5 : g2 < w5.heap.size := Nat.lt_of_lt_of_le hg4 hb5.size
 have sb5 : SlB w5 w5.heap.size (some ⟨gr, 0, none⟩) 1 1 [bb] := by rw [← hw5, ← hgr4.out]; exact SlB.lit
 rw [hw5]
 clear hw5
 obtain ⟨w6, hw6⟩ : ∃ W : World, w5.drew = W := ⟨_, rfl⟩
 have hb6 := zB3 hw6
 have hb6w := hb5w.trans (hb6.mono hb5w.size)
 have hL6 := hL5.below hb6 hL5.lt
 have hO6 := hO5.below hb6 hO5.lt
 have hA6 := hA5.below hb6 hA5.lt
 have cw6_1 : w6.cell? ⟨g2, o2 + 1, none⟩ = some (.int .i64 y) := (hb6.cell (p := ⟨g2, o2 + 1, none⟩) hg5).trans cw5_1
 have hg6 : g2 < w6.heap.size := Nat.lt_of_lt_of_le hg5 hb6.size
 have sb6 : SlB w6 w6.heap.size (some ⟨gr, 0, none⟩) 1 1 [bb] := sb5.up hb6
 refine wp_region_held (S := fun X => OffB w6 X (w.heap.size + 1)) (by kernel_rfl) ?_
 change wpAnyH _ _ _ _ _ _ _ _ w5.drew
 rw [hw6]
 clear hw6
 have hS : OffB w6 w6 (w.heap.size + 1) := OffB.refl _ _
 have hAO : Hid (w.heap.size + 1 + 1 ≠ w.heap.size + 1) := Lib.hid (by omega)
 obtain ⟨z6_0, z6_1, z6_2, z6_3, z6_4, z6_5⟩ := six_cells hO6
 have fo6 := hO6.frozen
 have zO6 := hO6.lt
 refine zU 0 rfl hS ?_ (hy := fun W hH => by
  have cW : W.cell? ⟨g2, o2 + 1, none⟩ = some (.int .i64 y) := (World.cell?_of_block (hH.2 g2 HN1.out)).trans cw6_1
  obtain ⟨a0, a1, a2, a3, a4, a5⟩ := off_six hA6 hH hAO.out
  clear hH
  go_simp
  with_reducible rfl)
 refine zU 1 rfl hS ?_
 refine zU 2 rfl hS ?_
 refine zU 3 rfl hS ?_
 refine zU 4 rfl hS ?_
 refine zN 5 rfl hS ?_
 simp only [Act.put, zA, zF, zB, zC, zD, zE]
 refine zN 6 rfl hS ?_
 simp only [Act.put, zA, zF, zB, zC, zD, zE]
 refine zN 7 rfl hS ?_
 simp only [Act.put, zA, zF, zB, zC, zD, zE]
 refine zN 8 rfl hS ?_
 simp only [Act.put, zA, zF, zB, zC, zD, zE]
 refine zN 9 rfl hS ?_
 simp only [Act.put, zA, zF, zB, zC, zD, zE]
 refine zN 10 rfl hS ?_
 simp only [Act.put, zA, zF, zB, zC, zD, zE]
 refine zN 11 rfl hS ?_
 simp only [Act.put, zA, zF, zB, zC, zD, zE]
 refine zN 12 rfl hS ?_
 simp only [Act.put, zA, zF, zB, zC, zD, zE]
 refine zN 13 rfl hS ?_
 simp only [Act.put, zA, zF, zB, zC, zD, zE]
 refine zN 14 rfl hS ?_
 simp only [Act.put, zA, zF, zB, zC, zD, zE]
 refine zU 15 rfl hS ?_
 refine zR 16 rfl (fun K' hK' => ?_)
 go_simp
 refine hK'.out _ _ ((((((hS.set 0 _).set 1 _).set 2 _).set 3 _).set 4 _).set 5 _) (fun hS => ?_)
 clear hK' K'
 refine zU 17 rfl hS ?_
 refine wpAnyH_done (by kernel_rfl) ?_ _
 go_wp2_with fail
 obtain ⟨wz, hwz, hbz, hZ, hoff⟩ := six hb6w hO6 (Nat.le_succ _) (.int .i64 fn) (.int .i64 x) (.int .i64 0) (.int .i64 0) (.slice (some ⟨gr, 0, none⟩) 1 1) (.slice none 0 0)
 obtain ⟨z0, z1, z2, z3, z4, z5⟩ := six_cells hZ
 rw [hwz]
 have HP : FPost w o (.returned (.tuple #[.agg #[.int .i64 fn, .int .i64 x, .int .i64 0, .int .i64 0, .slice (some ⟨gr, 0, none⟩) 1 1, .slice none 0 0], .bool false])) wz := fpost ho ⟨_, _, _, _, _, _, rfl, sb6.off hoff hO6 (by intro v hv x e; subst e; simp at hv), SlI.nil _ _ _⟩ hbz
 clear hwz
 exact bodyPost_ret (v := .tuple #[.agg #[.int .i64 fn, .int .i64 x, .int .i64 0, .int .i64 0, .slice (some ⟨gr, 0, none⟩) 1 1, .slice none 0 0], .bool false]) (by simp [results, Tryd.results122, go_sem, z0, z1, z2, z3, z4, z5]) rfl HP
theorem fields_5a (fn rd bt rg : Int) (A : Option Addr) (n c : Nat) (d : List Int) (w : World) (hD : SlI w w.heap.size .u8 A n c d) (hd8 : Byte8 d) (hn : n ≤ 1000) (hs : 4 ≤ n) (h4 : ((n : Int) == 4) = true) (t5 : (fn == 5) = true) (t6 : (fn == 6) = false) (t15 : (fn == 15) = false) (t16 : (fn == 16) = false) (t23 : (fn == 23) = false) (tb : (wordP d 2 == 65280) = true) (o : Option AskP) (ho : Hid (o = if true = true then some ⟨fn, wordP d 0, 0, 0, [true], []⟩ else none)) :
  Calls Tryd.prog 122 #[.agg #[.int .i64 fn, .int .i64 rd, .int .i64 bt, .int .i64 rg], .slice A n c] w (FPost w o) := by
 obtain ⟨w1, HW1, hb1, hL1, hO1, hA1⟩ := zF0 w fn rd bt rg
 have HD := Lib.hid (fun (X : World) (h : Below w.heap.size w X) => hD.up h)
 have HWD := Lib.hid (fun (X : World) (h : Below w.heap.size w X) => pwords_any A n c d (by omega) X (hD.up h) hd8)
 have hl := hD.1
 clear hD
 obtain ⟨m, hm⟩ : ∃ m, n / 2 = m := ⟨_, rfl⟩
 have hm1 : 2 * m ≤ n := by omega
 have hm2 : n ≤ 2 * m + 1 := by omega
 rw [hm] at HWD
 clear hm
 have hu := Tryd.underlying59
 have hsz := zSz
 have h2 : ¬ (m : Int) < 2 := by omega
 have h0m : 0 < m := by omega
 have h1m : 1 < m := by omega
 have h0m' : (0 : Int) < (m : Int) := by omega
 have h1m' : (1 : Int) < (m : Int) := by omega
 have HF := Lib.hid (fun (a b : Int) (X : World) => fits_own a b X)
 go_in
 go_upto_region 2 with fail
 rw [HW1.out]
 go_upto_region 3 with (go_at_call 142; (with_reducible refine (HWD.out w1 hb1).mono ?_); rintro e w2 ⟨A2, c2, rfl, s2, hf2, hb2⟩)
 have hb2w := hb1.trans (hb2.mono hb1.size)
 have hL2 := hL1.below hb2 hL1.lt
 have hO2 := hO1.below hb2 hO1.lt
 have hA2 := hA1.below hb2 hA1.lt
 obtain ⟨l2_0, l2_1, l2_2, l2_3⟩ := four_cells hL2
 obtain ⟨o2_0, o2_1, o2_2, o2_3, o2_4, o2_5⟩ := six_cells hO2
 obtain ⟨a2_0, a2_1, a2_2, a2_3, a2_4, a2_5⟩ := six_cells hA2
 have fo2 := hO2.frozen
 have fa2 := hA2.frozen
 have zL2 := hL2.lt
 have zO2 := hO2.lt
 have zA2 := hA2.lt
 obtain ⟨g2, o2, rfl, hg2, hc2⟩ := s2.2.2.2.2 (by rw [wordsP_len]; omega)
 have hx0 : (wordsP d)[0]? = some (wordP d 0) := by rw [List.getElem?_eq_getElem (by rw [wordsP_len]; omega)]; simp [wordsP]
 have hy0 : (wordsP d)[1]? = some (wordP d 2) := by rw [List.getElem?_eq_getElem (by rw [wordsP_len]; omega)]; simp [wordsP]
 have cx := hc2 0 _ hx0
 have cy := hc2 1 _ hy0
 obtain ⟨x, hx⟩ : ∃ x, wordP d 0 = x := ⟨_, rfl⟩
 obtain ⟨y, hy⟩ : ∃ y, wordP d 2 = y := ⟨_, rfl⟩
 rw [hx] at cx
 rw [hy] at cy
 rw [Nat.add_zero] at cx
 have HX := Lib.hid (fun (X : World) (h : Below w2.heap.size w2 X) => (h.cell (p := ⟨g2, o2, none⟩) hg2).trans cx)
 have HY := Lib.hid (fun (X : World) (h : Below w2.heap.size w2 X) => (h.cell (p := ⟨g2, o2 + 1, none⟩) hg2).trans cy)
 clear s2 hc2 hx0 hy0
 have hg2f := hf2 g2 o2 rfl
 have hz1 : w1.heap.size = w.heap.size + 3 := by rw [← HW1.out]; simp
 have hgne : g2 ≠ w.heap.size + 1 + 1 := by omega
 have HN := Lib.hid hgne
 have HZ1 : Hid (g2 ≠ w.heap.size + 1) := Lib.hid (by omega)
 clear hz1 hg2f hf2 hgne
 go_upto_region 6 with fail
 obtain ⟨w3, hw3⟩ : ∃ W, w2.setCell ⟨w.heap.size + 1 + 1, 1, none⟩ (.int .i64 x) = W := ⟨_, rfl⟩
 obtain ⟨hb3w, hL3, hO3⟩ := zF2 hw3 hb2w hL2 hO2
 have hA3 : Held w3 (w.heap.size + 1 + 1) 59 #[.int .i64 fn, .int .i64 x, .int .i64 0, .int .i64 0, .slice none 0 0, .slice none 0 0] := by rw [← hw3]; exact hA2.set 1 _
 have cx3 : w3.cell? ⟨g2, o2, none⟩ = some (.int .i64 x) := by rw [← hw3]; exact ((Kx.refl (w.heap.size + 1 + 1) w2.heap.size w2).set 1 (.int .i64 x)).cell (p := ⟨g2, o2, none⟩) HN.out hg2 |>.trans cx
 have cy3 : w3.cell? ⟨g2, o2 + 1, none⟩ = some (.int .i64 y) := by rw [← hw3]; exact ((Kx.refl (w.heap.size + 1 + 1) w2.heap.size w2).set 1 (.int .i64 x)).cell (p := ⟨g2, o2 + 1, none⟩) HN.out hg2 |>.trans cy
 have hg3 : g2 < w3.heap.size := by rw [← hw3]; simpa [World.setCell] using hg2
 rw [hw3]
 clear hw3
 obtain ⟨l3_0, l3_1, l3_2, l3_3⟩ := four_cells hL3
 obtain ⟨o3_0, o3_1, o3_2, o3_3, o3_4, o3_5⟩ := six_cells hO3
 obtain ⟨a3_0, a3_1, a3_2, a3_3, a3_4, a3_5⟩ := six_cells hA3
 have fo3 := hO3.frozen
 have fa3 := hA3.frozen
 have zL3 := hL3.lt
 have zO3 := hO3.lt
 have zA3 := hA3.lt
 have HN1 := HZ1
 have cw3_1 : w3.cell? ⟨g2, o2 + 1, none⟩ = some (.int .i64 y) := cy3
 rw [hx] at ho
 rw [hy] at tb
 go_upto_region 10 with fail
 obtain ⟨gr, hgr⟩ : ∃ g, w3.heap.size = g := ⟨_, rfl⟩
 rw [hgr]
 obtain ⟨w4, hw4⟩ : ∃ W, w3.setCell ⟨w.heap.size + 1 + 1, 4, none⟩ (.slice (some ⟨gr, 0, none⟩) 1 1) = W := ⟨_, rfl⟩
 obtain ⟨hb4w, hL4, hO4⟩ := zF2 hw4 hb3w hL3 hO3
 have hA4 : Held w4 (w.heap.size + 1 + 1) 59 #[.int .i64 fn, .int .i64 x, .int .i64 0, .int .i64 0, .slice (some ⟨gr, 0, none⟩) 1 1, .slice none 0 0] := by rw [← hw4]; exact hA3.set 4 _
 have cw4_1 : w4.cell? ⟨g2, o2 + 1, none⟩ = some (.int .i64 y) := by rw [← hw4]; exact (World.cell?_of_block (((OffB.refl w3 (w.heap.size + 1 + 1)).set 4 (.slice (some ⟨gr, 0, none⟩) 1 1)).2 g2 HN.out)).trans cw3_1
 have hg4 : g2 < w4.heap.size := by rw [← hw4]; simpa [World.setCell] using hg3
 have hgr4 : Hid (w4.heap.size = gr) := Lib.hid (by rw [← hw4, ← hgr]; simp [World.setCell])
 rw [hw4]
 clear hw4 hgr
 obtain ⟨w5, hw5⟩ : ∃ W, w4.alloc (.cells #[.bool true] 4) = W := ⟨_, rfl⟩
 have hb5 := zB1 hw5
 have hb5w := hb4w.trans (hb5.mono hb4w.size)
 have hL5 := hL4.below hb5 hL4.lt
 have hO5 := hO4.below hb5 hO4.lt
 have hA5 := hA4.below hb5 hA4.lt
 have cw5_1 : w5.cell? ⟨g2, o2 + 1, none⟩ = some (.int .i64 y) := (hb5.cell (p := ⟨g2, o2 + 1, none⟩) hg4).trans cw4_1
 have hg5 : g2 < w5.heap.size := Nat.lt_of_lt_of_le hg4 hb5.size
 have sb5 : SlB w5 w5.heap.size (some ⟨gr, 0, none⟩) 1 1 [true] := by rw [← hw5, ← hgr4.out]; exact SlB.lit
 rw [hw5]
 clear hw5
 obtain ⟨w6, hw6⟩ : ∃ W : World, w5.drew = W := ⟨_, rfl⟩
 have hb6 := zB3 hw6
 have hb6w := hb5w.trans (hb6.mono hb5w.size)
 have hL6 := hL5.below hb6 hL5.lt
 have hO6 := hO5.below hb6 hO5.lt
 have hA6 := hA5.below hb6 hA5.lt
 have cw6_1 : w6.cell? ⟨g2, o2 + 1, none⟩ = some (.int .i64 y) := (hb6.cell (p := ⟨g2, o2 + 1, none⟩) hg5).trans cw5_1
 have hg6 : g2 < w6.heap.size := Nat.lt_of_lt_of_le hg5 hb6.size
 have sb6 : SlB w6 w6.heap.size (some ⟨gr, 0, none⟩) 1 1 [true] := sb5.up hb6
 refine wp_region_held (S := fun X => OffB w6 X (w.heap.size + 1)) (by kernel_rfl) ?_
 change wpAnyH _ _ _ _ _ _ _ _ w5.drew
 rw [hw6]
 clear hw6
 have hS : OffB w6 w6 (w.heap.size + 1) := OffB.refl _ _
 have hAO : Hid (w.heap.size + 1 + 1 ≠ w.heap.size + 1) := Lib.hid (by omega)
 obtain ⟨z6_0, z6_1, z6_2, z6_3, z6_4, z6_5⟩ := six_cells hO6
 have fo6 := hO6.frozen
 have zO6 := hO6.lt
 refine zU 0 rfl hS ?_ (hy := fun W hH => by
  have cW : W.cell? ⟨g2, o2 + 1, none⟩ = some (.int .i64 y) := (World.cell?_of_block (hH.2 g2 HN1.out)).trans cw6_1
  obtain ⟨a0, a1, a2, a3, a4, a5⟩ := off_six hA6 hH hAO.out
  clear hH
  go_simp
  with_reducible rfl)
 refine zU 1 rfl hS ?_
 refine zU 2 rfl hS ?_
 refine zU 3 rfl hS ?_
 refine zU 4 rfl hS ?_
 refine zU 5 rfl hS ?_
 refine zU 6 rfl hS ?_
 refine zU 7 rfl hS ?_ (hy := fun W hH => by
  have cW : W.cell? ⟨g2, o2 + 1, none⟩ = some (.int .i64 y) := (World.cell?_of_block (hH.2 g2 HN1.out)).trans cw6_1
  obtain ⟨a0, a1, a2, a3, a4, a5⟩ := off_six hA6 hH hAO.out
  clear hH
  go_simp
  with_reducible rfl)
 refine zU 8 rfl hS ?_
 refine zU 9 rfl hS ?_
 refine zN 10 rfl hS ?_
 simp only [Act.put, zA, zF, zB, zC, zD, zE]
 refine zN 11 rfl hS ?_
 simp only [Act.put, zA, zF, zB, zC, zD, zE]
 refine zN 12 rfl hS ?_
 simp only [Act.put, zA, zF, zB, zC, zD, zE]
 refine zN 13 rfl hS ?_
 simp only [Act.put, zA, zF, zB, zC, zD, zE]
 refine zU 14 rfl hS ?_
 refine zU 15 rfl hS ?_
 refine zR 16 rfl (fun K' hK' => ?_)
 go_simp
 refine hK'.out _ _ ((((((hS.set 0 _).set 1 _).set 2 _).set 3 _).set 4 _).set 5 _) (fun hS => ?_)
 clear hK' K'
 refine zU 17 rfl hS ?_
 refine wpAnyH_done (by kernel_rfl) ?_ _
 go_wp2_with fail
 obtain ⟨wz, hwz, hbz, hZ, hoff⟩ := six hb6w hO6 (Nat.le_succ _) (.int .i64 fn) (.int .i64 x) (.int .i64 0) (.int .i64 0) (.slice (some ⟨gr, 0, none⟩) 1 1) (.slice none 0 0)
 obtain ⟨z0, z1, z2, z3, z4, z5⟩ := six_cells hZ
 rw [hwz]
 have HP : FPost w o (.returned (.tuple #[.agg #[.int .i64 fn, .int .i64 x, .int .i64 0, .int .i64 0, .slice (some ⟨gr, 0, none⟩) 1 1, .slice none 0 0], .bool true])) wz := fpost ho ⟨_, _, _, _, _, _, rfl, sb6.off hoff hO6 (by intro v hv x e; subst e; simp at hv), SlI.nil _ _ _⟩ hbz
 clear hwz
 exact bodyPost_ret (v := .tuple #[.agg #[.int .i64 fn, .int .i64 x, .int .i64 0, .int .i64 0, .slice (some ⟨gr, 0, none⟩) 1 1, .slice none 0 0], .bool true]) (by simp [results, Tryd.results122, go_sem, z0, z1, z2, z3, z4, z5]) rfl HP
theorem fields_5b (fn rd bt rg : Int) (A : Option Addr) (n c : Nat) (d : List Int) (w : World) (hD : SlI w w.heap.size .u8 A n c d) (hd8 : Byte8 d) (hn : n ≤ 1000) (hs : 4 ≤ n) (h4 : ((n : Int) == 4) = true) (t5 : (fn == 5) = true) (t6 : (fn == 6) = false) (t15 : (fn == 15) = false) (t16 : (fn == 16) = false) (t23 : (fn == 23) = false) (tb : (wordP d 2 == 65280) = false) (tz : (wordP d 2 == 0) = true) (o : Option AskP) (ho : Hid (o = if true = true then some ⟨fn, wordP d 0, 0, 0, [false], []⟩ else none)) :
  Calls Tryd.prog 122 #[.agg #[.int .i64 fn, .int .i64 rd, .int .i64 bt, .int .i64 rg], .slice A n c] w (FPost w o) := by
 obtain ⟨w1, HW1, hb1, hL1, hO1, hA1⟩ := zF0 w fn rd bt rg
 have HD := Lib.hid (fun (X : World) (h : Below w.heap.size w X) => hD.up h)
 have HWD := Lib.hid (fun (X : World) (h : Below w.heap.size w X) => pwords_any A n c d (by omega) X (hD.up h) hd8)
 have hl := hD.1
 clear hD
 obtain ⟨m, hm⟩ : ∃ m, n / 2 = m := ⟨_, rfl⟩
 have hm1 : 2 * m ≤ n := by omega
 have hm2 : n ≤ 2 * m + 1 := by omega
 rw [hm] at HWD
 clear hm
 have hu := Tryd.underlying59
 have hsz := zSz
 have h2 : ¬ (m : Int) < 2 := by omega
 have h0m : 0 < m := by omega
 have h1m : 1 < m := by omega
 have h0m' : (0 : Int) < (m : Int) := by omega
 have h1m' : (1 : Int) < (m : Int) := by omega
 have HF := Lib.hid (fun (a b : Int) (X : World) => fits_own a b X)
 go_in
 go_upto_region 2 with fail
 rw [HW1.out]
 go_upto_region 3 with (go_at_call 142; (with_reducible refine (HWD.out w1 hb1).mono ?_); rintro e w2 ⟨A2, c2, rfl, s2, hf2, hb2⟩)
 have hb2w := hb1.trans (hb2.mono hb1.size)
 have hL2 := hL1.below hb2 hL1.lt
 have hO2 := hO1.below hb2 hO1.lt
 have hA2 := hA1.below hb2 hA1.lt
 obtain ⟨l2_0, l2_1, l2_2, l2_3⟩ := four_cells hL2
 obtain ⟨o2_0, o2_1, o2_2, o2_3, o2_4, o2_5⟩ := six_cells hO2
 obtain ⟨a2_0, a2_1, a2_2, a2_3, a2_4, a2_5⟩ := six_cells hA2
 have fo2 := hO2.frozen
 have fa2 := hA2.frozen
 have zL2 := hL2.lt
 have zO2 := hO2.lt
 have zA2 := hA2.lt
 obtain ⟨g2, o2, rfl, hg2, hc2⟩ := s2.2.2.2.2 (by rw [wordsP_len]; omega)
 have hx0 : (wordsP d)[0]? = some (wordP d 0) := by rw [List.getElem?_eq_getElem (by rw [wordsP_len]; omega)]; simp [wordsP]
 have hy0 : (wordsP d)[1]? = some (wordP d 2) := by rw [List.getElem?_eq_getElem (by rw [wordsP_len]; omega)]; simp [wordsP]
 have cx := hc2 0 _ hx0
 have cy := hc2 1 _ hy0
 obtain ⟨x, hx⟩ : ∃ x, wordP d 0 = x := ⟨_, rfl⟩
 obtain ⟨y, hy⟩ : ∃ y, wordP d 2 = y := ⟨_, rfl⟩
 rw [hx] at cx
 rw [hy] at cy
 rw [Nat.add_zero] at cx
 have HX := Lib.hid (fun (X : World) (h : Below w2.heap.size w2 X) => (h.cell (p := ⟨g2, o2, none⟩) hg2).trans cx)
 have HY := Lib.hid (fun (X : World) (h : Below w2.heap.size w2 X) => (h.cell (p := ⟨g2, o2 + 1, none⟩) hg2).trans cy)
 clear s2 hc2 hx0 hy0
 have hg2f := hf2 g2 o2 rfl
 have hz1 : w1.heap.size = w.heap.size + 3 := by rw [← HW1.out]; simp
 have hgne : g2 ≠ w.heap.size + 1 + 1 := by omega
 have HN := Lib.hid hgne
 have HZ1 : Hid (g2 ≠ w.heap.size + 1) := Lib.hid (by omega)
 clear hz1 hg2f hf2 hgne
 go_upto_region 6 with fail
 obtain ⟨w3, hw3⟩ : ∃ W, w2.setCell ⟨w.heap.size + 1 + 1, 1, none⟩ (.int .i64 x) = W := ⟨_, rfl⟩
 obtain ⟨hb3w, hL3, hO3⟩ := zF2 hw3 hb2w hL2 hO2
 have hA3 : Held w3 (w.heap.size + 1 + 1) 59 #[.int .i64 fn, .int .i64 x, .int .i64 0, .int .i64 0, .slice none 0 0, .slice none 0 0] := by rw [← hw3]; exact hA2.set 1 _
 have cx3 : w3.cell? ⟨g2, o2, none⟩ = some (.int .i64 x) := by rw [← hw3]; exact ((Kx.refl (w.heap.size + 1 + 1) w2.heap.size w2).set 1 (.int .i64 x)).cell (p := ⟨g2, o2, none⟩) HN.out hg2 |>.trans cx
 have cy3 : w3.cell? ⟨g2, o2 + 1, none⟩ = some (.int .i64 y) := by rw [← hw3]; exact ((Kx.refl (w.heap.size + 1 + 1) w2.heap.size w2).set 1 (.int .i64 x)).cell (p := ⟨g2, o2 + 1, none⟩) HN.out hg2 |>.trans cy
 have hg3 : g2 < w3.heap.size := by rw [← hw3]; simpa [World.setCell] using hg2
 rw [hw3]
 clear hw3
 obtain ⟨l3_0, l3_1, l3_2, l3_3⟩ := four_cells hL3
 obtain ⟨o3_0, o3_1, o3_2, o3_3, o3_4, o3_5⟩ := six_cells hO3
 obtain ⟨a3_0, a3_1, a3_2, a3_3, a3_4, a3_5⟩ := six_cells hA3
 have fo3 := hO3.frozen
 have fa3 := hA3.frozen
 have zL3 := hL3.lt
 have zO3 := hO3.lt
 have zA3 := hA3.lt
 have HN1 := HZ1
 have cw3_1 : w3.cell? ⟨g2, o2 + 1, none⟩ = some (.int .i64 y) := cy3
 rw [hx] at ho
 rw [hy] at tb
 rw [hy] at tz
 go_upto_region 10 with fail
 obtain ⟨gr, hgr⟩ : ∃ g, w3.heap.size = g := ⟨_, rfl⟩
 rw [hgr]
 obtain ⟨w4, hw4⟩ : ∃ W, w3.setCell ⟨w.heap.size + 1 + 1, 4, none⟩ (.slice (some ⟨gr, 0, none⟩) 1 1) = W := ⟨_, rfl⟩
 obtain ⟨hb4w, hL4, hO4⟩ := zF2 hw4 hb3w hL3 hO3
 have hA4 : Held w4 (w.heap.size + 1 + 1) 59 #[.int .i64 fn, .int .i64 x, .int .i64 0, .int .i64 0, .slice (some ⟨gr, 0, none⟩) 1 1, .slice none 0 0] := by rw [← hw4]; exact hA3.set 4 _
 have cw4_1 : w4.cell? ⟨g2, o2 + 1, none⟩ = some (.int .i64 y) := by rw [← hw4]; exact (World.cell?_of_block (((OffB.refl w3 (w.heap.size + 1 + 1)).set 4 (.slice (some ⟨gr, 0, none⟩) 1 1)).2 g2 HN.out)).trans cw3_1
 have hg4 : g2 < w4.heap.size := by rw [← hw4]; simpa [World.setCell] using hg3
 have hgr4 : Hid (w4.heap.size = gr) := Lib.hid (by rw [← hw4, ← hgr]; simp [World.setCell])
 rw [hw4]
 clear hw4 hgr
 obtain ⟨w5, hw5⟩ : ∃ W, w4.alloc (.cells #[.bool false] 4) = W := ⟨_, rfl⟩
 have hb5 := zB1 hw5
 have hb5w := hb4w.trans (hb5.mono hb4w.size)
 have hL5 := hL4.below hb5 hL4.lt
 have hO5 := hO4.below hb5 hO4.lt
 have hA5 := hA4.below hb5 hA4.lt
 have cw5_1 : w5.cell? ⟨g2, o2 + 1, none⟩ = some (.int .i64 y) := (hb5.cell (p := ⟨g2, o2 + 1, none⟩) hg4).trans cw4_1
 have hg5 : g2 < w5.heap.size := Nat.lt_of_lt_of_le hg4 hb5.size
 have sb5 : SlB w5 w5.heap.size (some ⟨gr, 0, none⟩) 1 1 [false] := by rw [← hw5, ← hgr4.out]; exact SlB.lit
 rw [hw5]
 clear hw5
 obtain ⟨w6, hw6⟩ : ∃ W : World, w5.drew = W := ⟨_, rfl⟩
 have hb6 := zB3 hw6
 have hb6w := hb5w.trans (hb6.mono hb5w.size)
 have hL6 := hL5.below hb6 hL5.lt
 have hO6 := hO5.below hb6 hO5.lt
 have hA6 := hA5.below hb6 hA5.lt
 have cw6_1 : w6.cell? ⟨g2, o2 + 1, none⟩ = some (.int .i64 y) := (hb6.cell (p := ⟨g2, o2 + 1, none⟩) hg5).trans cw5_1
 have hg6 : g2 < w6.heap.size := Nat.lt_of_lt_of_le hg5 hb6.size
 have sb6 : SlB w6 w6.heap.size (some ⟨gr, 0, none⟩) 1 1 [false] := sb5.up hb6
 refine wp_region_held (S := fun X => OffB w6 X (w.heap.size + 1)) (by kernel_rfl) ?_
 change wpAnyH _ _ _ _ _ _ _ _ w5.drew
 rw [hw6]
 clear hw6
 have hS : OffB w6 w6 (w.heap.size + 1) := OffB.refl _ _
 have hAO : Hid (w.heap.size + 1 + 1 ≠ w.heap.size + 1) := Lib.hid (by omega)
 obtain ⟨z6_0, z6_1, z6_2, z6_3, z6_4, z6_5⟩ := six_cells hO6
 have fo6 := hO6.frozen
 have zO6 := hO6.lt
 refine zU 0 rfl hS ?_ (hy := fun W hH => by
  have cW : W.cell? ⟨g2, o2 + 1, none⟩ = some (.int .i64 y) := (World.cell?_of_block (hH.2 g2 HN1.out)).trans cw6_1
  obtain ⟨a0, a1, a2, a3, a4, a5⟩ := off_six hA6 hH hAO.out
  clear hH
  go_simp
  with_reducible rfl)
 refine zU 1 rfl hS ?_
 refine zU 2 rfl hS ?_
 refine zU 3 rfl hS ?_
 refine zU 4 rfl hS ?_
 refine zU 5 rfl hS ?_
 refine zU 6 rfl hS ?_
 refine zU 7 rfl hS ?_ (hy := fun W hH => by
  have cW : W.cell? ⟨g2, o2 + 1, none⟩ = some (.int .i64 y) := (World.cell?_of_block (hH.2 g2 HN1.out)).trans cw6_1
  obtain ⟨a0, a1, a2, a3, a4, a5⟩ := off_six hA6 hH hAO.out
  clear hH
  go_simp
  with_reducible rfl)
 refine zU 8 rfl hS ?_
 refine zU 9 rfl hS ?_
 refine zU 10 rfl hS ?_
 refine zU 11 rfl hS ?_
 refine zU 12 rfl hS ?_ (hy := fun W hH => by
  have cW : W.cell? ⟨g2, o2 + 1, none⟩ = some (.int .i64 y) := (World.cell?_of_block (hH.2 g2 HN1.out)).trans cw6_1
  obtain ⟨a0, a1, a2, a3, a4, a5⟩ := off_six hA6 hH hAO.out
  clear hH
  go_simp
  with_reducible rfl)
 refine zU 13 rfl hS ?_
 refine zU 14 rfl hS ?_
 refine zU 15 rfl hS ?_
 refine zR 16 rfl (fun K' hK' => ?_)
 go_simp
 refine hK'.out _ _ ((((((hS.set 0 _).set 1 _).set 2 _).set 3 _).set 4 _).set 5 _) (fun hS => ?_)
 clear hK' K'
 refine zU 17 rfl hS ?_
 refine wpAnyH_done (by kernel_rfl) ?_ _
 go_wp2_with fail
 obtain ⟨wz, hwz, hbz, hZ, hoff⟩ := six hb6w hO6 (Nat.le_succ _) (.int .i64 fn) (.int .i64 x) (.int .i64 0) (.int .i64 0) (.slice (some ⟨gr, 0, none⟩) 1 1) (.slice none 0 0)
 obtain ⟨z0, z1, z2, z3, z4, z5⟩ := six_cells hZ
 rw [hwz]
 have HP : FPost w o (.returned (.tuple #[.agg #[.int .i64 fn, .int .i64 x, .int .i64 0, .int .i64 0, .slice (some ⟨gr, 0, none⟩) 1 1, .slice none 0 0], .bool true])) wz := fpost ho ⟨_, _, _, _, _, _, rfl, sb6.off hoff hO6 (by intro v hv x e; subst e; simp at hv), SlI.nil _ _ _⟩ hbz
 clear hwz
 exact bodyPost_ret (v := .tuple #[.agg #[.int .i64 fn, .int .i64 x, .int .i64 0, .int .i64 0, .slice (some ⟨gr, 0, none⟩) 1 1, .slice none 0 0], .bool true]) (by simp [results, Tryd.results122, go_sem, z0, z1, z2, z3, z4, z5]) rfl HP
theorem fields_5c (fn rd bt rg : Int) (A : Option Addr) (n c : Nat) (d : List Int) (w : World) (hD : SlI w w.heap.size .u8 A n c d) (hd8 : Byte8 d) (hn : n ≤ 1000) (hs : 4 ≤ n) (h4 : ((n : Int) == 4) = true) (t5 : (fn == 5) = true) (t6 : (fn == 6) = false) (t15 : (fn == 15) = false) (t16 : (fn == 16) = false) (t23 : (fn == 23) = false) (tb : (wordP d 2 == 65280) = false) (tz : (wordP d 2 == 0) = false) (o : Option AskP) (ho : Hid (o = if false = true then some ⟨fn, wordP d 0, 0, 0, [false], []⟩ else none)) :
  Calls Tryd.prog 122 #[.agg #[.int .i64 fn, .int .i64 rd, .int .i64 bt, .int .i64 rg], .slice A n c] w (FPost w o) := by
 obtain ⟨w1, HW1, hb1, hL1, hO1, hA1⟩ := zF0 w fn rd bt rg
 have HD := Lib.hid (fun (X : World) (h : Below w.heap.size w X) => hD.up h)
 have HWD := Lib.hid (fun (X : World) (h : Below w.heap.size w X) => pwords_any A n c d (by omega) X (hD.up h) hd8)
 have hl := hD.1
 clear hD
 obtain ⟨m, hm⟩ : ∃ m, n / 2 = m := ⟨_, rfl⟩
 have hm1 : 2 * m ≤ n := by omega
 have hm2 : n ≤ 2 * m + 1 := by omega
 rw [hm] at HWD
 clear hm
 have hu := Tryd.underlying59
 have hsz := zSz
 have h2 : ¬ (m : Int) < 2 := by omega
 have h0m : 0 < m := by omega
 have h1m : 1 < m := by omega
 have h0m' : (0 : Int) < (m : Int) := by omega
 have h1m' : (1 : Int) < (m : Int) := by omega
 have HF := Lib.hid (fun (a b : Int) (X : World) => fits_own a b X)
 go_in
 go_upto_region 2 with fail
 rw [HW1.out]
 go_upto_region 3 with (go_at_call 142; (with_reducible refine (HWD.out w1 hb1).mono ?_); rintro e w2 ⟨A2, c2, rfl, s2, hf2, hb2⟩)
 have hb2w := hb1.trans (hb2.mono hb1.size)
 have hL2 := hL1.below hb2 hL1.lt
 have hO2 := hO1.below hb2 hO1.lt
 have hA2 := hA1.below hb2 hA1.lt
 obtain ⟨l2_0, l2_1, l2_2, l2_3⟩ := four_cells hL2
 obtain ⟨o2_0, o2_1, o2_2, o2_3, o2_4, o2_5⟩ := six_cells hO2
 obtain ⟨a2_0, a2_1, a2_2, a2_3, a2_4, a2_5⟩ := six_cells hA2
 have fo2 := hO2.frozen
 have fa2 := hA2.frozen
 have zL2 := hL2.lt
 have zO2 := hO2.lt
 have zA2 := hA2.lt
 obtain ⟨g2, o2, rfl, hg2, hc2⟩ := s2.2.2.2.2 (by rw [wordsP_len]; omega)
 have hx0 : (wordsP d)[0]? = some (wordP d 0) := by rw [List.getElem?_eq_getElem (by rw [wordsP_len]; omega)]; simp [wordsP]
 have hy0 : (wordsP d)[1]? = some (wordP d 2) := by rw [List.getElem?_eq_getElem (by rw [wordsP_len]; omega)]; simp [wordsP]
 have cx := hc2 0 _ hx0
 have cy := hc2 1 _ hy0
 obtain ⟨x, hx⟩ : ∃ x, wordP d 0 = x := ⟨_, rfl⟩
 obtain ⟨y, hy⟩ : ∃ y, wordP d 2 = y := ⟨_, rfl⟩
 rw [hx] at cx
 rw [hy] at cy
 rw [Nat.add_zero] at cx
 have HX := Lib.hid (fun (X : World) (h : Below w2.heap.size w2 X) => (h.cell (p := ⟨g2, o2, none⟩) hg2).trans cx)
 have HY := Lib.hid (fun (X : World) (h : Below w2.heap.size w2 X) => (h.cell (p := ⟨g2, o2 + 1, none⟩) hg2).trans cy)
 clear s2 hc2 hx0 hy0
 have hg2f := hf2 g2 o2 rfl
 have hz1 : w1.heap.size = w.heap.size + 3 := by rw [← HW1.out]; simp
 have hgne : g2 ≠ w.heap.size + 1 + 1 := by omega
 have HN := Lib.hid hgne
 have HZ1 : Hid (g2 ≠ w.heap.size + 1) := Lib.hid (by omega)
 clear hz1 hg2f hf2 hgne
 go_upto_region 6 with fail
 obtain ⟨w3, hw3⟩ : ∃ W, w2.setCell ⟨w.heap.size + 1 + 1, 1, none⟩ (.int .i64 x) = W := ⟨_, rfl⟩
 obtain ⟨hb3w, hL3, hO3⟩ := zF2 hw3 hb2w hL2 hO2
 have hA3 : Held w3 (w.heap.size + 1 + 1) 59 #[.int .i64 fn, .int .i64 x, .int .i64 0, .int .i64 0, .slice none 0 0, .slice none 0 0] := by rw [← hw3]; exact hA2.set 1 _
 have cx3 : w3.cell? ⟨g2, o2, none⟩ = some (.int .i64 x) := by rw [← hw3]; exact ((Kx.refl (w.heap.size + 1 + 1) w2.heap.size w2).set 1 (.int .i64 x)).cell (p := ⟨g2, o2, none⟩) HN.out hg2 |>.trans cx
 have cy3 : w3.cell? ⟨g2, o2 + 1, none⟩ = some (.int .i64 y) := by rw [← hw3]; exact ((Kx.refl (w.heap.size + 1 + 1) w2.heap.size w2).set 1 (.int .i64 x)).cell (p := ⟨g2, o2 + 1, none⟩) HN.out hg2 |>.trans cy
 have hg3 : g2 < w3.heap.size := by rw [← hw3]; simpa [World.setCell] using hg2
 rw [hw3]
 clear hw3
 obtain ⟨l3_0, l3_1, l3_2, l3_3⟩ := four_cells hL3
 obtain ⟨o3_0, o3_1, o3_2, o3_3, o3_4, o3_5⟩ := six_cells hO3
 obtain ⟨a3_0, a3_1, a3_2, a3_3, a3_4, a3_5⟩ := six_cells hA3
 have fo3 := hO3.frozen
 have fa3 := hA3.frozen
 have zL3 := hL3.lt
 have zO3 := hO3.lt
 have zA3 := hA3.lt
 have HN1 := HZ1
 have cw3_1 : w3.cell? ⟨g2, o2 + 1, none⟩ = some (.int .i64 y) := cy3
 rw [hx] at ho
 rw [hy] at tb
 rw [hy] at tz
 go_upto_region 10 with fail
 obtain ⟨gr, hgr⟩ : ∃ g, w3.heap.size = g := ⟨_, rfl⟩
 rw [hgr]
 obtain ⟨w4, hw4⟩ : ∃ W, w3.setCell ⟨w.heap.size + 1 + 1, 4, none⟩ (.slice (some ⟨gr, 0, none⟩) 1 1) = W := ⟨_, rfl⟩
 obtain ⟨hb4w, hL4, hO4⟩ := zF2 hw4 hb3w hL3 hO3
 have hA4 : Held w4 (w.heap.size + 1 + 1) 59 #[.int .i64 fn, .int .i64 x, .int .i64 0, .int .i64 0, .slice (some ⟨gr, 0, none⟩) 1 1, .slice none 0 0] := by rw [← hw4]; exact hA3.set 4 _
 have cw4_1 : w4.cell? ⟨g2, o2 + 1, none⟩ = some (.int .i64 y) := by rw [← hw4]; exact (World.cell?_of_block (((OffB.refl w3 (w.heap.size + 1 + 1)).set 4 (.slice (some ⟨gr, 0, none⟩) 1 1)).2 g2 HN.out)).trans cw3_1
 have hg4 : g2 < w4.heap.size := by rw [← hw4]; simpa [World.setCell] using hg3
 have hgr4 : Hid (w4.heap.size = gr) := Lib.hid (by rw [← hw4, ← hgr]; simp [World.setCell])
 rw [hw4]
 clear hw4 hgr
 obtain ⟨w5, hw5⟩ : ∃ W, w4.alloc (.cells #[.bool false] 4) = W := ⟨_, rfl⟩
 have hb5 := zB1 hw5
 have hb5w := hb4w.trans (hb5.mono hb4w.size)
 have hL5 := hL4.below hb5 hL4.lt
 have hO5 := hO4.below hb5 hO4.lt
 have hA5 := hA4.below hb5 hA4.lt
 have cw5_1 : w5.cell? ⟨g2, o2 + 1, none⟩ = some (.int .i64 y) := (hb5.cell (p := ⟨g2, o2 + 1, none⟩) hg4).trans cw4_1
 have hg5 : g2 < w5.heap.size := Nat.lt_of_lt_of_le hg4 hb5.size
 have sb5 : SlB w5 w5.heap.size (some ⟨gr, 0, none⟩) 1 1 [false] := by rw [← hw5, ← hgr4.out]; exact SlB.lit
 rw [hw5]
 clear hw5
 obtain ⟨w6, hw6⟩ : ∃ W : World, w5.drew = W := ⟨_, rfl⟩
 have hb6 := zB3 hw6
 have hb6w := hb5w.trans (hb6.mono hb5w.size)
 have hL6 := hL5.below hb6 hL5.lt
 have hO6 := hO5.below hb6 hO5.lt
 have hA6 := hA5.below hb6 hA5.lt
 have cw6_1 : w6.cell? ⟨g2, o2 + 1, none⟩ = some (.int .i64 y) := (hb6.cell (p := ⟨g2, o2 + 1, none⟩) hg5).trans cw5_1
 have hg6 : g2 < w6.heap.size := Nat.lt_of_lt_of_le hg5 hb6.size
 have sb6 : SlB w6 w6.heap.size (some ⟨gr, 0, none⟩) 1 1 [false] := sb5.up hb6
 refine wp_region_held (S := fun X => OffB w6 X (w.heap.size + 1)) (by kernel_rfl) ?_
 change wpAnyH _ _ _ _ _ _ _ _ w5.drew
 rw [hw6]
 clear hw6
 have hS : OffB w6 w6 (w.heap.size + 1) := OffB.refl _ _
 have hAO : Hid (w.heap.size + 1 + 1 ≠ w.heap.size + 1) := Lib.hid (by omega)
 obtain ⟨z6_0, z6_1, z6_2, z6_3, z6_4, z6_5⟩ := six_cells hO6
 have fo6 := hO6.frozen
 have zO6 := hO6.lt
 refine zU 0 rfl hS ?_ (hy := fun W hH => by
  have cW : W.cell? ⟨g2, o2 + 1, none⟩ = some (.int .i64 y) := (World.cell?_of_block (hH.2 g2 HN1.out)).trans cw6_1
  obtain ⟨a0, a1, a2, a3, a4, a5⟩ := off_six hA6 hH hAO.out
  clear hH
  go_simp
  with_reducible rfl)
 refine zU 1 rfl hS ?_
 refine zU 2 rfl hS ?_
 refine zU 3 rfl hS ?_
 refine zU 4 rfl hS ?_
 refine zU 5 rfl hS ?_
 refine zU 6 rfl hS ?_
 refine zU 7 rfl hS ?_ (hy := fun W hH => by
  have cW : W.cell? ⟨g2, o2 + 1, none⟩ = some (.int .i64 y) := (World.cell?_of_block (hH.2 g2 HN1.out)).trans cw6_1
  obtain ⟨a0, a1, a2, a3, a4, a5⟩ := off_six hA6 hH hAO.out
  clear hH
  go_simp
  with_reducible rfl)
 refine zU 8 rfl hS ?_
 refine zU 9 rfl hS ?_
 refine zU 10 rfl hS ?_
 refine zU 11 rfl hS ?_
 refine zU 12 rfl hS ?_ (hy := fun W hH => by
  have cW : W.cell? ⟨g2, o2 + 1, none⟩ = some (.int .i64 y) := (World.cell?_of_block (hH.2 g2 HN1.out)).trans cw6_1
  obtain ⟨a0, a1, a2, a3, a4, a5⟩ := off_six hA6 hH hAO.out
  clear hH
  go_simp
  with_reducible rfl)
 refine zU 13 rfl hS ?_
 refine zU 14 rfl hS ?_
 refine zU 15 rfl hS ?_
 refine zR 16 rfl (fun K' hK' => ?_)
 go_simp
 refine hK'.out _ _ ((((((hS.set 0 _).set 1 _).set 2 _).set 3 _).set 4 _).set 5 _) (fun hS => ?_)
 clear hK' K'
 refine zU 17 rfl hS ?_
 refine wpAnyH_done (by kernel_rfl) ?_ _
 go_wp2_with fail
 obtain ⟨wz, hwz, hbz, hZ, hoff⟩ := six hb6w hO6 (Nat.le_succ _) (.int .i64 fn) (.int .i64 x) (.int .i64 0) (.int .i64 0) (.slice (some ⟨gr, 0, none⟩) 1 1) (.slice none 0 0)
 obtain ⟨z0, z1, z2, z3, z4, z5⟩ := six_cells hZ
 rw [hwz]
 have HP : FPost w o (.returned (.tuple #[.agg #[.int .i64 fn, .int .i64 x, .int .i64 0, .int .i64 0, .slice (some ⟨gr, 0, none⟩) 1 1, .slice none 0 0], .bool false])) wz := fpost ho ⟨_, _, _, _, _, _, rfl, sb6.off hoff hO6 (by intro v hv x e; subst e; simp at hv), SlI.nil _ _ _⟩ hbz
 clear hwz
 exact bodyPost_ret (v := .tuple #[.agg #[.int .i64 fn, .int .i64 x, .int .i64 0, .int .i64 0, .slice (some ⟨gr, 0, none⟩) 1 1, .slice none 0 0], .bool false]) (by simp [results, Tryd.results122, go_sem, z0, z1, z2, z3, z4, z5]) rfl HP
theorem fields_23s (fn rd bt rg : Int) (A : Option Addr) (n c : Nat) (d : List Int) (w : World) (hD : SlI w w.heap.size .u8 A n c d) (hd8 : Byte8 d) (hn : n ≤ 1000) (hs : 4 ≤ n) (h8 : n < 8) (t5 : (fn == 5) = false) (t6 : (fn == 6) = false) (t15 : (fn == 15) = false) (t16 : (fn == 16) = false) (t23 : (fn == 23) = true) (o : Option AskP) (ho : Hid (o = none)) :
  Calls Tryd.prog 122 #[.agg #[.int .i64 fn, .int .i64 rd, .int .i64 bt, .int .i64 rg], .slice A n c] w (FPost w o) := by
 obtain ⟨w1, HW1, hb1, hL1, hO1, hA1⟩ := zF0 w fn rd bt rg
 have HD := Lib.hid (fun (X : World) (h : Below w.heap.size w X) => hD.up h)
 have HWD := Lib.hid (fun (X : World) (h : Below w.heap.size w X) => pwords_any A n c d (by omega) X (hD.up h) hd8)
 have hl := hD.1
 clear hD
 obtain ⟨m, hm⟩ : ∃ m, n / 2 = m := ⟨_, rfl⟩
 have hm1 : 2 * m ≤ n := by omega
 have hm2 : n ≤ 2 * m + 1 := by omega
 rw [hm] at HWD
 clear hm
 have hu := Tryd.underlying59
 have hsz := zSz
 have t4 : decide ((m : Int) < 4) = true := decide_eq_true (by omega)
 have h2 : ¬ (m : Int) < 2 := by omega
 have h0m : 0 < m := by omega
 have h1m : 1 < m := by omega
 have h0m' : (0 : Int) < (m : Int) := by omega
 have h1m' : (1 : Int) < (m : Int) := by omega
 have HF := Lib.hid (fun (a b : Int) (X : World) => fits_own a b X)
 go_in
 go_upto_region 2 with fail
 rw [HW1.out]
 go_upto_region 3 with (go_at_call 142; (with_reducible refine (HWD.out w1 hb1).mono ?_); rintro e w2 ⟨A2, c2, rfl, s2, hf2, hb2⟩)
 have hb2w := hb1.trans (hb2.mono hb1.size)
 have hL2 := hL1.below hb2 hL1.lt
 have hO2 := hO1.below hb2 hO1.lt
 have hA2 := hA1.below hb2 hA1.lt
 obtain ⟨l2_0, l2_1, l2_2, l2_3⟩ := four_cells hL2
 obtain ⟨o2_0, o2_1, o2_2, o2_3, o2_4, o2_5⟩ := six_cells hO2
 obtain ⟨a2_0, a2_1, a2_2, a2_3, a2_4, a2_5⟩ := six_cells hA2
 have fo2 := hO2.frozen
 have fa2 := hA2.frozen
 have zL2 := hL2.lt
 have zO2 := hO2.lt
 have zA2 := hA2.lt
 obtain ⟨g2, o2, rfl, hg2, hc2⟩ := s2.2.2.2.2 (by rw [wordsP_len]; omega)
 have hx0 : (wordsP d)[0]? = some (wordP d 0) := by rw [List.getElem?_eq_getElem (by rw [wordsP_len]; omega)]; simp [wordsP]
 have hy0 : (wordsP d)[1]? = some (wordP d 2) := by rw [List.getElem?_eq_getElem (by rw [wordsP_len]; omega)]; simp [wordsP]
 have cx := hc2 0 _ hx0
 have cy := hc2 1 _ hy0
 obtain ⟨x, hx⟩ : ∃ x, wordP d 0 = x := ⟨_, rfl⟩
 obtain ⟨y, hy⟩ : ∃ y, wordP d 2 = y := ⟨_, rfl⟩
 rw [hx] at cx
 rw [hy] at cy
 rw [Nat.add_zero] at cx
 have HX := Lib.hid (fun (X : World) (h : Below w2.heap.size w2 X) => (h.cell (p := ⟨g2, o2, none⟩) hg2).trans cx)
 have HY := Lib.hid (fun (X : World) (h : Below w2.heap.size w2 X) => (h.cell (p := ⟨g2, o2 + 1, none⟩) hg2).trans cy)
 clear s2 hc2 hx0 hy0
 have hg2f := hf2 g2 o2 rfl
 have hz1 : w1.heap.size = w.heap.size + 3 := by rw [← HW1.out]; simp
 have hgne : g2 ≠ w.heap.size + 1 + 1 := by omega
 have HN := Lib.hid hgne
 have HZ1 : Hid (g2 ≠ w.heap.size + 1) := Lib.hid (by omega)
 clear hz1 hg2f hf2 hgne
 go_upto_region 6 with fail
 obtain ⟨w3, hw3⟩ : ∃ W, w2.setCell ⟨w.heap.size + 1 + 1, 1, none⟩ (.int .i64 x) = W := ⟨_, rfl⟩
 obtain ⟨hb3w, hL3, hO3⟩ := zF2 hw3 hb2w hL2 hO2
 have hA3 : Held w3 (w.heap.size + 1 + 1) 59 #[.int .i64 fn, .int .i64 x, .int .i64 0, .int .i64 0, .slice none 0 0, .slice none 0 0] := by rw [← hw3]; exact hA2.set 1 _
 have cx3 : w3.cell? ⟨g2, o2, none⟩ = some (.int .i64 x) := by rw [← hw3]; exact ((Kx.refl (w.heap.size + 1 + 1) w2.heap.size w2).set 1 (.int .i64 x)).cell (p := ⟨g2, o2, none⟩) HN.out hg2 |>.trans cx
 have cy3 : w3.cell? ⟨g2, o2 + 1, none⟩ = some (.int .i64 y) := by rw [← hw3]; exact ((Kx.refl (w.heap.size + 1 + 1) w2.heap.size w2).set 1 (.int .i64 x)).cell (p := ⟨g2, o2 + 1, none⟩) HN.out hg2 |>.trans cy
 have hg3 : g2 < w3.heap.size := by rw [← hw3]; simpa [World.setCell] using hg2
 rw [hw3]
 clear hw3
 obtain ⟨l3_0, l3_1, l3_2, l3_3⟩ := four_cells hL3
 obtain ⟨o3_0, o3_1, o3_2, o3_3, o3_4, o3_5⟩ := six_cells hO3
 obtain ⟨a3_0, a3_1, a3_2, a3_3, a3_4, a3_5⟩ := six_cells hA3
 have fo3 := hO3.frozen
 have fa3 := hA3.frozen
 have zL3 := hL3.lt
 have zO3 := hO3.lt
 have zA3 := hA3.lt
 have HN1 := HZ1
 go_upto_region 24 with fail
 obtain ⟨w4, hw4⟩ : ∃ W : World, w3.drew = W := ⟨_, rfl⟩
 have hb4 := zB3 hw4
 have hb4w := hb3w.trans (hb4.mono hb3w.size)
 have hL4 := hL3.below hb4 hL3.lt
 have hO4 := hO3.below hb4 hO3.lt
 have hA4 := hA3.below hb4 hA3.lt
 have hg4 : g2 < w4.heap.size := Nat.lt_of_lt_of_le hg3 hb4.size
 refine wp_region_held (S := (fun X => Below w.heap.size w X ∧ Held X w.heap.size 167 #[.int .i64 fn, .int .i64 rd, .int .i64 bt, .int .i64 rg] ∧ Held X (w.heap.size + 1 + 1) 59 #[.int .i64 fn, .int .i64 x, .int .i64 0, .int .i64 0, .slice none 0 0, .slice none 0 0] ∧ g2 < X.heap.size)) (by kernel_rfl) ?_
 change wpAnyH _ _ _ _ _ _ _ _ w3.drew
 rw [hw4]
 clear hw4
 have hS : (fun X => Below w.heap.size w X ∧ Held X w.heap.size 167 #[.int .i64 fn, .int .i64 rd, .int .i64 bt, .int .i64 rg] ∧ Held X (w.heap.size + 1 + 1) 59 #[.int .i64 fn, .int .i64 x, .int .i64 0, .int .i64 0, .slice none 0 0, .slice none 0 0] ∧ g2 < X.heap.size) w4 := ⟨hb4w, hL4, hA4, hg4⟩
 obtain ⟨z4_0, z4_1, z4_2, z4_3, z4_4, z4_5⟩ := six_cells hO4
 have fo4 := hO4.frozen
 have zO4 := hO4.lt
 refine zU 0 rfl hS ?_
 refine zU 1 rfl hS ?_
 refine zU 2 rfl hS ?_
 refine zU 3 rfl hS ?_
 refine zN 4 rfl hS ?_
 simp only [Act.put, zA, zF, zB, zC, zD, zE]
 refine zN 5 rfl hS ?_
 simp only [Act.put, zA, zF, zB, zC, zD, zE]
 refine zN 6 rfl hS ?_
 simp only [Act.put, zA, zF, zB, zC, zD, zE]
 refine zN 7 rfl hS ?_
 simp only [Act.put, zA, zF, zB, zC, zD, zE]
 refine zN 8 rfl hS ?_
 simp only [Act.put, zA, zF, zB, zC, zD, zE]
 refine zN 9 rfl hS ?_
 simp only [Act.put, zA, zF, zB, zC, zD, zE]
 refine zN 10 rfl hS ?_
 simp only [Act.put, zA, zF, zB, zC, zD, zE]
 refine zU 11 rfl hS ?_
 refine wpAnyH_done (by kernel_rfl) ?_ _
 go_upto_region 25 with fail
 obtain ⟨l4_0, l4_1, l4_2, l4_3⟩ := four_cells hL4
 obtain ⟨o4_0, o4_1, o4_2, o4_3, o4_4, o4_5⟩ := six_cells hO4
 obtain ⟨a4_0, a4_1, a4_2, a4_3, a4_4, a4_5⟩ := six_cells hA4
 have fo4 := hO4.frozen
 have fa4 := hA4.frozen
 have zL4 := hL4.lt
 have zO4 := hO4.lt
 have zA4 := hA4.lt
 go_wp2_with ((with_reducible refine at_loadT 59 6 ?_); refine wpList_load_rowG rfl 59 (.tmp 6) rfl (w.heap.size + 1 + 1) rfl 59 _ _ hA4 hu rfl hsz ?_)
 obtain ⟨wz, hwz, hbz, hZ, hoff⟩ := six hb4w hO4 (Nat.le_succ _) (.int .i64 fn) (.int .i64 x) (.int .i64 0) (.int .i64 0) (.slice none 0 0) (.slice none 0 0)
 obtain ⟨z0, z1, z2, z3, z4, z5⟩ := six_cells hZ
 rw [hwz]
 have HP : FPost w o (.returned (.tuple #[.agg #[.int .i64 fn, .int .i64 x, .int .i64 0, .int .i64 0, .slice none 0 0, .slice none 0 0], .bool false])) wz := fpost (p := ⟨fn, x, 0, 0, [], []⟩) (q := false) ho ⟨_, _, _, _, _, _, rfl, SlB.nil _ _, SlI.nil _ _ _⟩ hbz
 clear hwz
 exact bodyPost_ret (v := .tuple #[.agg #[.int .i64 fn, .int .i64 x, .int .i64 0, .int .i64 0, .slice none 0 0, .slice none 0 0], .bool false]) (by simp [results, Tryd.results122, go_sem, z0, z1, z2, z3, z4, z5]) rfl HP
theorem fields_23f (fn rd bt rg : Int) (A : Option Addr) (n c : Nat) (d : List Int) (w : World) (hD : SlI w w.heap.size .u8 A n c d) (hd8 : Byte8 d) (hn : n ≤ 1000) (hs : 8 ≤ n) (hq : fitP (wordP d 2) rd = false) (t5 : (fn == 5) = false) (t6 : (fn == 6) = false) (t15 : (fn == 15) = false) (t16 : (fn == 16) = false) (t23 : (fn == 23) = true) (o : Option AskP) (ho : Hid (o = none)) :
  Calls Tryd.prog 122 #[.agg #[.int .i64 fn, .int .i64 rd, .int .i64 bt, .int .i64 rg], .slice A n c] w (FPost w o) := by
 obtain ⟨w1, HW1, hb1, hL1, hO1, hA1⟩ := zF0 w fn rd bt rg
 have HD := Lib.hid (fun (X : World) (h : Below w.heap.size w X) => hD.up h)
 have HWD := Lib.hid (fun (X : World) (h : Below w.heap.size w X) => pwords_any A n c d (by omega) X (hD.up h) hd8)
 have hl := hD.1
 clear hD
 obtain ⟨m, hm⟩ : ∃ m, n / 2 = m := ⟨_, rfl⟩
 have hm1 : 2 * m ≤ n := by omega
 have hm2 : n ≤ 2 * m + 1 := by omega
 rw [hm] at HWD
 clear hm
 have hu := Tryd.underlying59
 have hsz := zSz
 have t4 : decide ((m : Int) < 4) = false := decide_eq_false (by omega)
 have h2 : ¬ (m : Int) < 2 := by omega
 have h0m : 0 < m := by omega
 have h1m : 1 < m := by omega
 have h0m' : (0 : Int) < (m : Int) := by omega
 have h1m' : (1 : Int) < (m : Int) := by omega
 have HF := Lib.hid (fun (a b : Int) (X : World) => fits_own a b X)
 go_in
 go_upto_region 2 with fail
 rw [HW1.out]
 go_upto_region 3 with (go_at_call 142; (with_reducible refine (HWD.out w1 hb1).mono ?_); rintro e w2 ⟨A2, c2, rfl, s2, hf2, hb2⟩)
 have hb2w := hb1.trans (hb2.mono hb1.size)
 have hL2 := hL1.below hb2 hL1.lt
 have hO2 := hO1.below hb2 hO1.lt
 have hA2 := hA1.below hb2 hA1.lt
 obtain ⟨l2_0, l2_1, l2_2, l2_3⟩ := four_cells hL2
 obtain ⟨o2_0, o2_1, o2_2, o2_3, o2_4, o2_5⟩ := six_cells hO2
 obtain ⟨a2_0, a2_1, a2_2, a2_3, a2_4, a2_5⟩ := six_cells hA2
 have fo2 := hO2.frozen
 have fa2 := hA2.frozen
 have zL2 := hL2.lt
 have zO2 := hO2.lt
 have zA2 := hA2.lt
 obtain ⟨g2, o2, rfl, hg2, hc2⟩ := s2.2.2.2.2 (by rw [wordsP_len]; omega)
 have hx0 : (wordsP d)[0]? = some (wordP d 0) := by rw [List.getElem?_eq_getElem (by rw [wordsP_len]; omega)]; simp [wordsP]
 have hy0 : (wordsP d)[1]? = some (wordP d 2) := by rw [List.getElem?_eq_getElem (by rw [wordsP_len]; omega)]; simp [wordsP]
 have cx := hc2 0 _ hx0
 have cy := hc2 1 _ hy0
 obtain ⟨x, hx⟩ : ∃ x, wordP d 0 = x := ⟨_, rfl⟩
 obtain ⟨y, hy⟩ : ∃ y, wordP d 2 = y := ⟨_, rfl⟩
 rw [hx] at cx
 rw [hy] at cy
 rw [Nat.add_zero] at cx
 have HX := Lib.hid (fun (X : World) (h : Below w2.heap.size w2 X) => (h.cell (p := ⟨g2, o2, none⟩) hg2).trans cx)
 have HY := Lib.hid (fun (X : World) (h : Below w2.heap.size w2 X) => (h.cell (p := ⟨g2, o2 + 1, none⟩) hg2).trans cy)
 clear s2 hc2 hx0 hy0
 have hg2f := hf2 g2 o2 rfl
 have hz1 : w1.heap.size = w.heap.size + 3 := by rw [← HW1.out]; simp
 have hgne : g2 ≠ w.heap.size + 1 + 1 := by omega
 have HN := Lib.hid hgne
 have HZ1 : Hid (g2 ≠ w.heap.size + 1) := Lib.hid (by omega)
 clear hz1 hg2f hf2 hgne
 go_upto_region 6 with fail
 obtain ⟨w3, hw3⟩ : ∃ W, w2.setCell ⟨w.heap.size + 1 + 1, 1, none⟩ (.int .i64 x) = W := ⟨_, rfl⟩
 obtain ⟨hb3w, hL3, hO3⟩ := zF2 hw3 hb2w hL2 hO2
 have hA3 : Held w3 (w.heap.size + 1 + 1) 59 #[.int .i64 fn, .int .i64 x, .int .i64 0, .int .i64 0, .slice none 0 0, .slice none 0 0] := by rw [← hw3]; exact hA2.set 1 _
 have cx3 : w3.cell? ⟨g2, o2, none⟩ = some (.int .i64 x) := by rw [← hw3]; exact ((Kx.refl (w.heap.size + 1 + 1) w2.heap.size w2).set 1 (.int .i64 x)).cell (p := ⟨g2, o2, none⟩) HN.out hg2 |>.trans cx
 have cy3 : w3.cell? ⟨g2, o2 + 1, none⟩ = some (.int .i64 y) := by rw [← hw3]; exact ((Kx.refl (w.heap.size + 1 + 1) w2.heap.size w2).set 1 (.int .i64 x)).cell (p := ⟨g2, o2 + 1, none⟩) HN.out hg2 |>.trans cy
 have hg3 : g2 < w3.heap.size := by rw [← hw3]; simpa [World.setCell] using hg2
 rw [hw3]
 clear hw3
 obtain ⟨l3_0, l3_1, l3_2, l3_3⟩ := four_cells hL3
 obtain ⟨o3_0, o3_1, o3_2, o3_3, o3_4, o3_5⟩ := six_cells hO3
 obtain ⟨a3_0, a3_1, a3_2, a3_3, a3_4, a3_5⟩ := six_cells hA3
 have fo3 := hO3.frozen
 have fa3 := hA3.frozen
 have zL3 := hL3.lt
 have zO3 := hO3.lt
 have zA3 := hA3.lt
 have HN1 := HZ1
 have cw3_1 : w3.cell? ⟨g2, o2 + 1, none⟩ = some (.int .i64 y) := cy3
 rw [hy] at hq
 have HQ : Hid (∀ X, Calls Tryd.prog 99 #[.int .i64 y, .int .i64 rd] X fun e w' => e = .returned (.bool false) ∧ X = w') := Lib.hid (fun X => by have := HF.out y rd X; rw [hq] at this; exact this)
 clear hq
 go_upto_region 24 with fail
 obtain ⟨w4, hw4⟩ : ∃ W : World, w3.drew = W := ⟨_, rfl⟩
 have hb4 := zB3 hw4
 have hb4w := hb3w.trans (hb4.mono hb3w.size)
 have hL4 := hL3.below hb4 hL3.lt
 have hO4 := hO3.below hb4 hO3.lt
 have hA4 := hA3.below hb4 hA3.lt
 have cw4_1 : w4.cell? ⟨g2, o2 + 1, none⟩ = some (.int .i64 y) := (hb4.cell (p := ⟨g2, o2 + 1, none⟩) hg3).trans cw3_1
 have hg4 : g2 < w4.heap.size := Nat.lt_of_lt_of_le hg3 hb4.size
 refine wp_region_held (S := (fun X => Below w.heap.size w X ∧ Held X w.heap.size 167 #[.int .i64 fn, .int .i64 rd, .int .i64 bt, .int .i64 rg] ∧ Held X (w.heap.size + 1 + 1) 59 #[.int .i64 fn, .int .i64 x, .int .i64 0, .int .i64 0, .slice none 0 0, .slice none 0 0] ∧ X.cell? ⟨g2, o2 + 1, none⟩ = some (.int .i64 y) ∧ g2 < X.heap.size)) (by kernel_rfl) ?_
 change wpAnyH _ _ _ _ _ _ _ _ w3.drew
 rw [hw4]
 clear hw4
 have hS : (fun X => Below w.heap.size w X ∧ Held X w.heap.size 167 #[.int .i64 fn, .int .i64 rd, .int .i64 bt, .int .i64 rg] ∧ Held X (w.heap.size + 1 + 1) 59 #[.int .i64 fn, .int .i64 x, .int .i64 0, .int .i64 0, .slice none 0 0, .slice none 0 0] ∧ X.cell? ⟨g2, o2 + 1, none⟩ = some (.int .i64 y) ∧ g2 < X.heap.size) w4 := ⟨hb4w, hL4, hA4, cw4_1, hg4⟩
 obtain ⟨z4_0, z4_1, z4_2, z4_3, z4_4, z4_5⟩ := six_cells hO4
 have fo4 := hO4.frozen
 have zO4 := hO4.lt
 refine zU 0 rfl hS ?_
 refine zU 1 rfl hS ?_
 refine zU 2 rfl hS ?_
 refine zU 3 rfl hS ?_
 refine zU 4 rfl hS ?_
 refine zU 5 rfl hS ?_
 refine zU 6 rfl hS ?_ (hy := fun W hH => by
  obtain ⟨hbW, hLW, hAW, hcw1, hgW⟩ := hH
  obtain ⟨l0, l1, l2, l3⟩ := four_cells hLW
  obtain ⟨a0, a1, a2, a3, a4, a5⟩ := six_cells hAW
  have haf := hAW.frozen
  clear hLW hAW hbW hgW
  go_simp
  with_reducible rfl)
 refine zU 7 rfl hS ?_
 refine zU 8 rfl hS ?_ (hy := fun W hH => by
  obtain ⟨hbW, hLW, hAW, hcw1, hgW⟩ := hH
  obtain ⟨l0, l1, l2, l3⟩ := four_cells hLW
  obtain ⟨a0, a1, a2, a3, a4, a5⟩ := six_cells hAW
  have haf := hAW.frozen
  clear hLW hAW hbW hgW
  go_simp
  with_reducible rfl)
 refine zR 9 rfl (fun K' hK' => ?_)
 go_simp
 refine (HQ.out _).mono ?_
 rintro e w' ⟨rfl, rfl⟩
 go_simp
 refine hK'.out _ _ hS (fun hS => ?_)
 clear hK' K'
 refine zU 10 rfl hS ?_
 refine zU 11 rfl hS ?_
 refine wpAnyH_done (by kernel_rfl) ?_ _
 go_upto_region 25 with fail
 obtain ⟨l4_0, l4_1, l4_2, l4_3⟩ := four_cells hL4
 obtain ⟨o4_0, o4_1, o4_2, o4_3, o4_4, o4_5⟩ := six_cells hO4
 obtain ⟨a4_0, a4_1, a4_2, a4_3, a4_4, a4_5⟩ := six_cells hA4
 have fo4 := hO4.frozen
 have fa4 := hA4.frozen
 have zL4 := hL4.lt
 have zO4 := hO4.lt
 have zA4 := hA4.lt
 go_wp2_with ((with_reducible refine at_loadT 59 6 ?_); refine wpList_load_rowG rfl 59 (.tmp 6) rfl (w.heap.size + 1 + 1) rfl 59 _ _ hA4 hu rfl hsz ?_)
 obtain ⟨wz, hwz, hbz, hZ, hoff⟩ := six hb4w hO4 (Nat.le_succ _) (.int .i64 fn) (.int .i64 x) (.int .i64 0) (.int .i64 0) (.slice none 0 0) (.slice none 0 0)
 obtain ⟨z0, z1, z2, z3, z4, z5⟩ := six_cells hZ
 rw [hwz]
 have HP : FPost w o (.returned (.tuple #[.agg #[.int .i64 fn, .int .i64 x, .int .i64 0, .int .i64 0, .slice none 0 0, .slice none 0 0], .bool false])) wz := fpost (p := ⟨fn, x, 0, 0, [], []⟩) (q := false) ho ⟨_, _, _, _, _, _, rfl, SlB.nil _ _, SlI.nil _ _ _⟩ hbz
 clear hwz
 exact bodyPost_ret (v := .tuple #[.agg #[.int .i64 fn, .int .i64 x, .int .i64 0, .int .i64 0, .slice none 0 0, .slice none 0 0], .bool false]) (by simp [results, Tryd.results122, go_sem, z0, z1, z2, z3, z4, z5]) rfl HP
theorem fields_23t (fn rd bt rg : Int) (A : Option Addr) (n c : Nat) (d : List Int) (w : World) (hD : SlI w w.heap.size .u8 A n c d) (hd8 : Byte8 d) (hn : n ≤ 1000) (hs : 8 ≤ n) (hq : fitP (wordP d 2) rd = true) (t5 : (fn == 5) = false) (t6 : (fn == 6) = false) (t15 : (fn == 15) = false) (t16 : (fn == 16) = false) (t23 : (fn == 23) = true) (N : Int) (HN_ : Hid ((if (d.drop 6).length < 3 then 0 else wordP (d.drop 6) 0) = N)) (q : Bool) (HQ_ : Hid ((decide (3 ≤ (d.drop 6).length) && listF (2 * wordP (d.drop 6) 0) rg (d.drop 6)) = q)) (o : Option AskP) (ho : Hid (o = if q = true then some ⟨fn, wordP d 0, wordP d 2, wordP d 4, [], fromP (d.drop 9)⟩ else none)) :
  Calls Tryd.prog 122 #[.agg #[.int .i64 fn, .int .i64 rd, .int .i64 bt, .int .i64 rg], .slice A n c] w (FPost w o) := by
 obtain ⟨g0, off0, rfl, hg0⟩ := hD.some_ (by omega)
 clear hg0
 obtain ⟨w1, HW1, hb1, hL1, hO1, hA1⟩ := zF0 w fn rd bt rg
 have HD := Lib.hid (fun (X : World) (h : Below w.heap.size w X) => hD.up h)
 have HWD := Lib.hid (fun (X : World) (h : Below w.heap.size w X) => pwords_any _ n c d (by omega) X (hD.up h) hd8)
 have hl := hD.1
 clear hD
 obtain ⟨m, hm⟩ : ∃ m, n / 2 = m := ⟨_, rfl⟩
 have hm1 : 2 * m ≤ n := by omega
 have hm2 : n ≤ 2 * m + 1 := by omega
 rw [hm] at HWD
 clear hm
 have hun := Tryd.underlying59
 have hsz := zSz
 have t4 : decide ((m : Int) < 4) = false := decide_eq_false (by omega)
 have h2m : 2 < m := by omega
 have h2m' : (2 : Int) < (m : Int) := by omega
 have h2 : ¬ (m : Int) < 2 := by omega
 have h0m : 0 < m := by omega
 have h1m : 1 < m := by omega
 have h0m' : (0 : Int) < (m : Int) := by omega
 have h1m' : (1 : Int) < (m : Int) := by omega
 have HF := Lib.hid (fun (a b : Int) (X : World) => fits_own a b X)
 go_in
 go_upto_region 2 with fail
 rw [HW1.out]
 go_upto_region 3 with (go_at_call 142; (with_reducible refine (HWD.out w1 hb1).mono ?_); rintro e w2 ⟨A2, c2, rfl, s2, hf2, hb2⟩)
 have hb2w := hb1.trans (hb2.mono hb1.size)
 have hL2 := hL1.below hb2 hL1.lt
 have hO2 := hO1.below hb2 hO1.lt
 have hA2 := hA1.below hb2 hA1.lt
 obtain ⟨l2_0, l2_1, l2_2, l2_3⟩ := four_cells hL2
 obtain ⟨o2_0, o2_1, o2_2, o2_3, o2_4, o2_5⟩ := six_cells hO2
 obtain ⟨a2_0, a2_1, a2_2, a2_3, a2_4, a2_5⟩ := six_cells hA2
 have fo2 := hO2.frozen
 have fa2 := hA2.frozen
 have zL2 := hL2.lt
 have zO2 := hO2.lt
 have zA2 := hA2.lt
 obtain ⟨g2, o2, rfl, hg2, hc2⟩ := s2.2.2.2.2 (by rw [wordsP_len]; omega)
 have hx0 : (wordsP d)[0]? = some (wordP d 0) := by rw [List.getElem?_eq_getElem (by rw [wordsP_len]; omega)]; simp [wordsP]
 have hy0 : (wordsP d)[1]? = some (wordP d 2) := by rw [List.getElem?_eq_getElem (by rw [wordsP_len]; omega)]; simp [wordsP]
 have hu0 : (wordsP d)[2]? = some (wordP d 4) := by rw [List.getElem?_eq_getElem (by rw [wordsP_len]; omega)]; simp [wordsP]
 have cu := hc2 2 _ hu0
 obtain ⟨u, hu⟩ : ∃ u, wordP d 4 = u := ⟨_, rfl⟩
 rw [hu] at cu
 have cx := hc2 0 _ hx0
 have cy := hc2 1 _ hy0
 obtain ⟨x, hx⟩ : ∃ x, wordP d 0 = x := ⟨_, rfl⟩
 obtain ⟨y, hy⟩ : ∃ y, wordP d 2 = y := ⟨_, rfl⟩
 rw [hx] at cx
 rw [hy] at cy
 rw [Nat.add_zero] at cx
 have HX := Lib.hid (fun (X : World) (h : Below w2.heap.size w2 X) => (h.cell (p := ⟨g2, o2, none⟩) hg2).trans cx)
 have HY := Lib.hid (fun (X : World) (h : Below w2.heap.size w2 X) => (h.cell (p := ⟨g2, o2 + 1, none⟩) hg2).trans cy)
 clear s2 hc2 hx0 hy0 hu0
 have hg2f := hf2 g2 o2 rfl
 have hz1 : w1.heap.size = w.heap.size + 3 := by rw [← HW1.out]; simp
 have hgne : g2 ≠ w.heap.size + 1 + 1 := by omega
 have HN := Lib.hid hgne
 have HZ1 : Hid (g2 ≠ w.heap.size + 1) := Lib.hid (by omega)
 clear hz1 hg2f hf2 hgne
 go_upto_region 6 with fail
 obtain ⟨w3, hw3⟩ : ∃ W, w2.setCell ⟨w.heap.size + 1 + 1, 1, none⟩ (.int .i64 x) = W := ⟨_, rfl⟩
 obtain ⟨hb3w, hL3, hO3⟩ := zF2 hw3 hb2w hL2 hO2
 have hA3 : Held w3 (w.heap.size + 1 + 1) 59 #[.int .i64 fn, .int .i64 x, .int .i64 0, .int .i64 0, .slice none 0 0, .slice none 0 0] := by rw [← hw3]; exact hA2.set 1 _
 have cx3 : w3.cell? ⟨g2, o2, none⟩ = some (.int .i64 x) := by rw [← hw3]; exact ((Kx.refl (w.heap.size + 1 + 1) w2.heap.size w2).set 1 (.int .i64 x)).cell (p := ⟨g2, o2, none⟩) HN.out hg2 |>.trans cx
 have cy3 : w3.cell? ⟨g2, o2 + 1, none⟩ = some (.int .i64 y) := by rw [← hw3]; exact ((Kx.refl (w.heap.size + 1 + 1) w2.heap.size w2).set 1 (.int .i64 x)).cell (p := ⟨g2, o2 + 1, none⟩) HN.out hg2 |>.trans cy
 have cw3_2 : w3.cell? ⟨g2, o2 + 2, none⟩ = some (.int .i64 u) := by rw [← hw3]; exact (World.cell?_of_block (((OffB.refl w2 (w.heap.size + 1 + 1)).set 1 (.int .i64 x)).2 g2 HN.out)).trans cu
 have hg3 : g2 < w3.heap.size := by rw [← hw3]; simpa [World.setCell] using hg2
 rw [hw3]
 clear hw3
 obtain ⟨l3_0, l3_1, l3_2, l3_3⟩ := four_cells hL3
 obtain ⟨o3_0, o3_1, o3_2, o3_3, o3_4, o3_5⟩ := six_cells hO3
 obtain ⟨a3_0, a3_1, a3_2, a3_3, a3_4, a3_5⟩ := six_cells hA3
 have fo3 := hO3.frozen
 have fa3 := hA3.frozen
 have zL3 := hL3.lt
 have zO3 := hO3.lt
 have zA3 := hA3.lt
 have HN1 := HZ1
 have cw3_1 : w3.cell? ⟨g2, o2 + 1, none⟩ = some (.int .i64 y) := cy3
 rw [hx, hy, hu] at ho
 rw [hy] at hq
 have HQ : Hid (∀ X, Calls Tryd.prog 99 #[.int .i64 y, .int .i64 rd] X fun e w' => e = .returned (.bool true) ∧ X = w') := Lib.hid (fun X => by have := HF.out y rd X; rw [hq] at this; exact this)
 clear hq
 have hnc : (n : Int) ≤ (c : Int) := by have := (HD.out w (Below.refl _ w)).2.1; omega
 have hcne : ¬ c = 6 := by omega
 have hkn : (6 : Int) ≤ (n : Int) := by omega
 obtain ⟨rest, hrest⟩ : ∃ r, (d.drop 6).drop 3 = r := ⟨_, rfl⟩
 have HL : Hid (∀ X, Below w.heap.size w X → Calls Tryd.prog 144 #[.slice (some ⟨g0, off0 + 6, none⟩) (n - 6) (c - 6), .func (.func 143) #[] #[], .int .i64 rg] X (ListPost X N rest q)) := Lib.hid (fun X h => by
  have h1 := list_two _ (n - 6) (c - 6) (d.drop 6) rg X ((HD.out X h).drop 6 (by omega)) (fun x hx => hd8 x (List.mem_of_mem_drop hx)) (by omega)
  rw [hrest, HN_.out, HQ_.out] at h1
  exact h1)
 have hr8 : Byte8 rest := by rw [← hrest]; exact fun x hx => hd8 x (List.mem_of_mem_drop (List.mem_of_mem_drop hx))
 have hrl : rest.length ≤ 1000 := by rw [← hrest]; simp; omega
 have HR := Lib.hid hrest
 clear hrest
 go_upto_region 24 with fail
 obtain ⟨w4, hw4⟩ : ∃ W : World, w3.drew = W := ⟨_, rfl⟩
 have hb4 := zB3 hw4
 have hb4w := hb3w.trans (hb4.mono hb3w.size)
 have hL4 := hL3.below hb4 hL3.lt
 have hO4 := hO3.below hb4 hO3.lt
 have hA4 := hA3.below hb4 hA3.lt
 have cw4_1 : w4.cell? ⟨g2, o2 + 1, none⟩ = some (.int .i64 y) := (hb4.cell (p := ⟨g2, o2 + 1, none⟩) hg3).trans cw3_1
 have cw4_2 : w4.cell? ⟨g2, o2 + 2, none⟩ = some (.int .i64 u) := (hb4.cell (p := ⟨g2, o2 + 2, none⟩) hg3).trans cw3_2
 have hg4 : g2 < w4.heap.size := Nat.lt_of_lt_of_le hg3 hb4.size
 refine wp_region_held (S := (fun X => Below w.heap.size w X ∧ Held X w.heap.size 167 #[.int .i64 fn, .int .i64 rd, .int .i64 bt, .int .i64 rg] ∧ Held X (w.heap.size + 1 + 1) 59 #[.int .i64 fn, .int .i64 x, .int .i64 0, .int .i64 0, .slice none 0 0, .slice none 0 0] ∧ X.cell? ⟨g2, o2 + 1, none⟩ = some (.int .i64 y) ∧ X.cell? ⟨g2, o2 + 2, none⟩ = some (.int .i64 u) ∧ g2 < X.heap.size)) (by kernel_rfl) ?_
 change wpAnyH _ _ _ _ _ _ _ _ w3.drew
 rw [hw4]
 clear hw4
 have hS : (fun X => Below w.heap.size w X ∧ Held X w.heap.size 167 #[.int .i64 fn, .int .i64 rd, .int .i64 bt, .int .i64 rg] ∧ Held X (w.heap.size + 1 + 1) 59 #[.int .i64 fn, .int .i64 x, .int .i64 0, .int .i64 0, .slice none 0 0, .slice none 0 0] ∧ X.cell? ⟨g2, o2 + 1, none⟩ = some (.int .i64 y) ∧ X.cell? ⟨g2, o2 + 2, none⟩ = some (.int .i64 u) ∧ g2 < X.heap.size) w4 := ⟨hb4w, hL4, hA4, cw4_1, cw4_2, hg4⟩
 obtain ⟨z4_0, z4_1, z4_2, z4_3, z4_4, z4_5⟩ := six_cells hO4
 have fo4 := hO4.frozen
 have zO4 := hO4.lt
 refine zU 0 rfl hS ?_
 refine zU 1 rfl hS ?_
 refine zU 2 rfl hS ?_
 refine zU 3 rfl hS ?_
 refine zU 4 rfl hS ?_
 refine zU 5 rfl hS ?_
 refine zU 6 rfl hS ?_ (hy := fun W hH => by
  obtain ⟨hbW, hLW, hAW, hcw1, hcw2, hgW⟩ := hH
  obtain ⟨l0, l1, l2, l3⟩ := four_cells hLW
  obtain ⟨a0, a1, a2, a3, a4, a5⟩ := six_cells hAW
  have haf := hAW.frozen
  clear hLW hAW hbW hgW
  go_simp
  with_reducible rfl)
 refine zU 7 rfl hS ?_
 refine zU 8 rfl hS ?_ (hy := fun W hH => by
  obtain ⟨hbW, hLW, hAW, hcw1, hcw2, hgW⟩ := hH
  obtain ⟨l0, l1, l2, l3⟩ := four_cells hLW
  obtain ⟨a0, a1, a2, a3, a4, a5⟩ := six_cells hAW
  have haf := hAW.frozen
  clear hLW hAW hbW hgW
  go_simp
  with_reducible rfl)
 refine zR 9 rfl (fun K' hK' => ?_)
 go_simp
 refine (HQ.out _).mono ?_
 rintro e w' ⟨rfl, rfl⟩
 go_simp
 refine hK'.out _ _ hS (fun hS => ?_)
 clear hK' K'
 refine zU 10 rfl hS ?_
 refine zU 11 rfl hS ?_
 refine wpAnyH_done (by kernel_rfl) ?_ _
 go_upto_region 26 with fail
 obtain ⟨w5, hw5⟩ : ∃ W : World, w4.drew = W := ⟨_, rfl⟩
 have hb5 := zB3 hw5
 have hb5w := hb4w.trans (hb5.mono hb4w.size)
 have hL5 := hL4.below hb5 hL4.lt
 have hO5 := hO4.below hb5 hO4.lt
 have hA5 := hA4.below hb5 hA4.lt
 have cw5_1 : w5.cell? ⟨g2, o2 + 1, none⟩ = some (.int .i64 y) := (hb5.cell (p := ⟨g2, o2 + 1, none⟩) hg4).trans cw4_1
 have cw5_2 : w5.cell? ⟨g2, o2 + 2, none⟩ = some (.int .i64 u) := (hb5.cell (p := ⟨g2, o2 + 2, none⟩) hg4).trans cw4_2
 have hg5 : g2 < w5.heap.size := Nat.lt_of_lt_of_le hg4 hb5.size
 refine wp_region_held (S := (fun X => Below w.heap.size w X ∧ Held X w.heap.size 167 #[.int .i64 fn, .int .i64 rd, .int .i64 bt, .int .i64 rg] ∧ Held X (w.heap.size + 1 + 1) 59 #[.int .i64 fn, .int .i64 x, .int .i64 0, .int .i64 0, .slice none 0 0, .slice none 0 0] ∧ X.cell? ⟨g2, o2 + 1, none⟩ = some (.int .i64 y) ∧ X.cell? ⟨g2, o2 + 2, none⟩ = some (.int .i64 u) ∧ g2 < X.heap.size)) (by kernel_rfl) ?_
 change wpAnyH _ _ _ _ _ _ _ _ w4.drew
 rw [hw5]
 clear hw5
 have hS : (fun X => Below w.heap.size w X ∧ Held X w.heap.size 167 #[.int .i64 fn, .int .i64 rd, .int .i64 bt, .int .i64 rg] ∧ Held X (w.heap.size + 1 + 1) 59 #[.int .i64 fn, .int .i64 x, .int .i64 0, .int .i64 0, .slice none 0 0, .slice none 0 0] ∧ X.cell? ⟨g2, o2 + 1, none⟩ = some (.int .i64 y) ∧ X.cell? ⟨g2, o2 + 2, none⟩ = some (.int .i64 u) ∧ g2 < X.heap.size) w5 := ⟨hb5w, hL5, hA5, cw5_1, cw5_2, hg5⟩
 obtain ⟨z5_0, z5_1, z5_2, z5_3, z5_4, z5_5⟩ := six_cells hO5
 have fo5 := hO5.frozen
 have zO5 := hO5.lt
 refine zU 0 rfl hS ?_
 refine zU 1 rfl hS ?_
 refine zU 2 rfl hS ?_
 refine zU 3 rfl hS ?_
 refine zU 4 rfl hS ?_ (hy := fun W hH => by
  obtain ⟨hbW, hLW, hAW, hcw1, hcw2, hgW⟩ := hH
  obtain ⟨l0, l1, l2, l3⟩ := four_cells hLW
  obtain ⟨a0, a1, a2, a3, a4, a5⟩ := six_cells hAW
  have haf := hAW.frozen
  clear hLW hAW hbW hgW
  go_simp
  with_reducible rfl)
 refine zR 5 rfl (fun K' hK' => ?_)
 go_simp
 refine (HL.out w5 hb5w).mono ?_
 rintro e w6 ⟨A6, m6, c6, rfl, sl6, hb6⟩
 go_simp
 refine hK'.out _ _ ⟨hS.1.trans (hb6.mono hS.1.size), hS.2.1.below hb6 hS.2.1.lt, hS.2.2.1.below hb6 hS.2.2.1.lt, (hb6.cell (p := ⟨g2, o2 + 1, none⟩) hS.2.2.2.2.2).trans hS.2.2.2.1, (hb6.cell (p := ⟨g2, o2 + 2, none⟩) hS.2.2.2.2.2).trans hS.2.2.2.2.1, Nat.lt_of_lt_of_le hS.2.2.2.2.2 hb6.size⟩ (fun hS => ?_)
 clear hK' K'
 refine zU 6 rfl hS ?_
 refine zU 7 rfl hS ?_
 refine zU 8 rfl hS ?_
 refine zU 9 rfl hS ?_
 refine zU 10 rfl hS ?_
 refine zU 11 rfl hS ?_
 refine zU 12 rfl hS ?_
 refine wpAnyH_done (by kernel_rfl) ?_ _
 have hb6w := hb5w.trans (hb6.mono hb5w.size)
 have hL6 := hL5.below hb6 hL5.lt
 have hO6 := hO5.below hb6 hO5.lt
 have hA6 := hA5.below hb6 hA5.lt
 have cw6_1 : w6.cell? ⟨g2, o2 + 1, none⟩ = some (.int .i64 y) := (hb6.cell (p := ⟨g2, o2 + 1, none⟩) hg5).trans cw5_1
 have cw6_2 : w6.cell? ⟨g2, o2 + 2, none⟩ = some (.int .i64 u) := (hb6.cell (p := ⟨g2, o2 + 2, none⟩) hg5).trans cw5_2
 have hg6 : g2 < w6.heap.size := Nat.lt_of_lt_of_le hg5 hb6.size
 go_upto_region 27 with fail
 obtain ⟨w7, hw7⟩ : ∃ W : World, w6.drew = W := ⟨_, rfl⟩
 have hb7 := zB3 hw7
 have hb7w := hb6w.trans (hb7.mono hb6w.size)
 have hL7 := hL6.below hb7 hL6.lt
 have hO7 := hO6.below hb7 hO6.lt
 have hA7 := hA6.below hb7 hA6.lt
 have cw7_1 : w7.cell? ⟨g2, o2 + 1, none⟩ = some (.int .i64 y) := (hb7.cell (p := ⟨g2, o2 + 1, none⟩) hg6).trans cw6_1
 have cw7_2 : w7.cell? ⟨g2, o2 + 2, none⟩ = some (.int .i64 u) := (hb7.cell (p := ⟨g2, o2 + 2, none⟩) hg6).trans cw6_2
 have hg7 : g2 < w7.heap.size := Nat.lt_of_lt_of_le hg6 hb7.size
 have sl7 : SlI w7 w7.heap.size .u8 A6 m6 c6 rest := sl6.up hb7
 refine wp_region_held (S := (fun X => X.cell? ⟨g2, o2 + 1, none⟩ = some (.int .i64 y) ∧ X.cell? ⟨g2, o2 + 2, none⟩ = some (.int .i64 u))) (by kernel_rfl) ?_
 change wpAnyH _ _ _ _ _ _ _ _ w6.drew
 rw [hw7]
 clear hw7
 have hS : (fun X => X.cell? ⟨g2, o2 + 1, none⟩ = some (.int .i64 y) ∧ X.cell? ⟨g2, o2 + 2, none⟩ = some (.int .i64 u)) w7 := ⟨cw7_1, cw7_2⟩
 obtain ⟨z7_0, z7_1, z7_2, z7_3, z7_4, z7_5⟩ := six_cells hO7
 have fo7 := hO7.frozen
 have zO7 := hO7.lt
 obtain ⟨l7_0, l7_1, l7_2, l7_3⟩ := four_cells hL7
 obtain ⟨o7_0, o7_1, o7_2, o7_3, o7_4, o7_5⟩ := six_cells hO7
 obtain ⟨a7_0, a7_1, a7_2, a7_3, a7_4, a7_5⟩ := six_cells hA7
 have fo7 := hO7.frozen
 have fa7 := hA7.frozen
 have zL7 := hL7.lt
 have zO7 := hO7.lt
 have zA7 := hA7.lt
 refine zU 0 rfl hS ?_
 refine zU 1 rfl hS ?_
 refine zU 2 rfl hS ?_ (hy := fun W hH => by
  obtain ⟨hcw1, hcw2⟩ := hH
  go_simp
  with_reducible rfl)
 refine zU 3 rfl hS ?_
 refine zU 4 rfl hS ?_
 refine zU 5 rfl hS ?_ (hy := fun W hH => by
  obtain ⟨hcw1, hcw2⟩ := hH
  go_simp
  with_reducible rfl)
 refine zU 6 rfl hS ?_
 refine zR 7 rfl (fun K' hK' => ?_)
 go_simp
 obtain ⟨w8, hw8⟩ : ∃ W, w7.setCell ⟨w.heap.size + 1 + 1, 2, none⟩ (.int .i64 y) = W := ⟨_, rfl⟩
 obtain ⟨hb8w, hL8, hO8⟩ := zF2 hw8 hb7w hL7 hO7
 have hA8 : Held w8 (w.heap.size + 1 + 1) 59 #[.int .i64 fn, .int .i64 x, .int .i64 y, .int .i64 0, .slice none 0 0, .slice none 0 0] := by rw [← hw8]; exact hA7.set 2 _
 have cw8_1 : w8.cell? ⟨g2, o2 + 1, none⟩ = some (.int .i64 y) := by rw [← hw8]; exact (World.cell?_of_block (((OffB.refl w7 (w.heap.size + 1 + 1)).set 2 (.int .i64 y)).2 g2 HN.out)).trans cw7_1
 have cw8_2 : w8.cell? ⟨g2, o2 + 2, none⟩ = some (.int .i64 u) := by rw [← hw8]; exact (World.cell?_of_block (((OffB.refl w7 (w.heap.size + 1 + 1)).set 2 (.int .i64 y)).2 g2 HN.out)).trans cw7_2
 have hg8 : g2 < w8.heap.size := by rw [← hw8]; simpa [World.setCell] using hg7
 have sl8 : SlI w8 w8.heap.size .u8 A6 m6 c6 rest := sl7.off (by rw [← hw8]; exact (OffB.refl _ _).set 2 _) hA7 (by intro v hv x e; subst e; simp at hv)
 rw [hw8]
 clear hw8
 obtain ⟨l8_0, l8_1, l8_2, l8_3⟩ := four_cells hL8
 obtain ⟨o8_0, o8_1, o8_2, o8_3, o8_4, o8_5⟩ := six_cells hO8
 obtain ⟨a8_0, a8_1, a8_2, a8_3, a8_4, a8_5⟩ := six_cells hA8
 have fo8 := hO8.frozen
 have fa8 := hA8.frozen
 have zL8 := hL8.lt
 have zO8 := hO8.lt
 have zA8 := hA8.lt
 have hSn : (fun X => X.cell? ⟨g2, o2 + 1, none⟩ = some (.int .i64 y) ∧ X.cell? ⟨g2, o2 + 2, none⟩ = some (.int .i64 u)) w8 := ⟨cw8_1, cw8_2⟩
 refine hK'.out _ _ hSn (fun hS => ?_)
 clear hK' K'
 refine zU 8 rfl hS ?_
 refine zR 9 rfl (fun K' hK' => ?_)
 go_simp
 obtain ⟨w9, hw9⟩ : ∃ W, w8.setCell ⟨w.heap.size + 1 + 1, 3, none⟩ (.int .i64 u) = W := ⟨_, rfl⟩
 obtain ⟨hb9w, hL9, hO9⟩ := zF2 hw9 hb8w hL8 hO8
 have hA9 : Held w9 (w.heap.size + 1 + 1) 59 #[.int .i64 fn, .int .i64 x, .int .i64 y, .int .i64 u, .slice none 0 0, .slice none 0 0] := by rw [← hw9]; exact hA8.set 3 _
 have cw9_1 : w9.cell? ⟨g2, o2 + 1, none⟩ = some (.int .i64 y) := by rw [← hw9]; exact (World.cell?_of_block (((OffB.refl w8 (w.heap.size + 1 + 1)).set 3 (.int .i64 u)).2 g2 HN.out)).trans cw8_1
 have cw9_2 : w9.cell? ⟨g2, o2 + 2, none⟩ = some (.int .i64 u) := by rw [← hw9]; exact (World.cell?_of_block (((OffB.refl w8 (w.heap.size + 1 + 1)).set 3 (.int .i64 u)).2 g2 HN.out)).trans cw8_2
 have hg9 : g2 < w9.heap.size := by rw [← hw9]; simpa [World.setCell] using hg8
 have sl9 : SlI w9 w9.heap.size .u8 A6 m6 c6 rest := sl8.off (by rw [← hw9]; exact (OffB.refl _ _).set 3 _) hA8 (by intro v hv x e; subst e; simp at hv)
 rw [hw9]
 clear hw9
 have hSn : (fun X => X.cell? ⟨g2, o2 + 1, none⟩ = some (.int .i64 y) ∧ X.cell? ⟨g2, o2 + 2, none⟩ = some (.int .i64 u)) w9 := ⟨cw9_1, cw9_2⟩
 refine hK'.out _ _ hSn (fun hS => ?_)
 clear hK' K'
 refine wpAnyH_done (by kernel_rfl) ?_ _
 have hrd : rest = d.drop 9 := by rw [← HR.out, List.drop_drop]
 rw [← hrd] at ho
 have HRD := Lib.hid hrd
 clear hrd
 have HU := Lib.hid (fun (X : World) (A : Option Addr) (m c : Nat) (h : SlI X X.heap.size .u8 A m c rest) => from_any A m c rest (by have := h.1; omega) X h hr8)
 go_upto_region 29 with (go_at_call 69; (with_reducible refine (HU.out w9 _ _ _ sl9).mono ?_); rintro e w10 ⟨Au, mu, cu, qq, rfl, su10, hb10⟩; have hb10w := hb9w.trans (hb10.mono hb9w.size); have hL10 := hL9.below hb10 hL9.lt; have hO10 := hO9.below hb10 hO9.lt; have hA10 := hA9.below hb10 hA9.lt; have cw10_1 : w10.cell? ⟨g2, o2 + 1, none⟩ = some (.int .i64 y) := (hb10.cell (p := ⟨g2, o2 + 1, none⟩) hg9).trans cw9_1; have cw10_2 : w10.cell? ⟨g2, o2 + 2, none⟩ = some (.int .i64 u) := (hb10.cell (p := ⟨g2, o2 + 2, none⟩) hg9).trans cw9_2; have hg10 : g2 < w10.heap.size := Nat.lt_of_lt_of_le hg9 hb10.size; have sl10 : SlI w10 w10.heap.size .u8 A6 m6 c6 rest := sl9.up hb10; obtain ⟨l10_0, l10_1, l10_2, l10_3⟩ := four_cells hL10; obtain ⟨o10_0, o10_1, o10_2, o10_3, o10_4, o10_5⟩ := six_cells hO10; obtain ⟨a10_0, a10_1, a10_2, a10_3, a10_4, a10_5⟩ := six_cells hA10; have fo10 := hO10.frozen; have fa10 := hA10.frozen; have zL10 := hL10.lt; have zO10 := hO10.lt; have zA10 := hA10.lt)
 obtain ⟨w11, hw11⟩ : ∃ W, w10.setCell ⟨w.heap.size + 1 + 1, 5, none⟩ (.slice Au mu cu) = W := ⟨_, rfl⟩
 obtain ⟨hb11w, hL11, hO11⟩ := zF2 hw11 hb10w hL10 hO10
 have hA11 : Held w11 (w.heap.size + 1 + 1) 59 #[.int .i64 fn, .int .i64 x, .int .i64 y, .int .i64 u, .slice none 0 0, .slice Au mu cu] := by rw [← hw11]; exact hA10.set 5 _
 have cw11_1 : w11.cell? ⟨g2, o2 + 1, none⟩ = some (.int .i64 y) := by rw [← hw11]; exact (World.cell?_of_block (((OffB.refl w10 (w.heap.size + 1 + 1)).set 5 (.slice Au mu cu)).2 g2 HN.out)).trans cw10_1
 have cw11_2 : w11.cell? ⟨g2, o2 + 2, none⟩ = some (.int .i64 u) := by rw [← hw11]; exact (World.cell?_of_block (((OffB.refl w10 (w.heap.size + 1 + 1)).set 5 (.slice Au mu cu)).2 g2 HN.out)).trans cw10_2
 have hg11 : g2 < w11.heap.size := by rw [← hw11]; simpa [World.setCell] using hg10
 have sl11 : SlI w11 w11.heap.size .u8 A6 m6 c6 rest := sl10.off (by rw [← hw11]; exact (OffB.refl _ _).set 5 _) hA10 (by intro v hv x e; subst e; simp at hv)
 have su11 : SlI w11 w11.heap.size .u16 Au mu cu (fromP rest) := su10.off (by rw [← hw11]; exact (OffB.refl _ _).set 5 _) hA10 (by intro v hv x e; subst e; simp at hv)
 rw [hw11]
 clear hw11
 obtain ⟨l11_0, l11_1, l11_2, l11_3⟩ := four_cells hL11
 obtain ⟨o11_0, o11_1, o11_2, o11_3, o11_4, o11_5⟩ := six_cells hO11
 obtain ⟨a11_0, a11_1, a11_2, a11_3, a11_4, a11_5⟩ := six_cells hA11
 have fo11 := hO11.frozen
 have fa11 := hA11.frozen
 have zL11 := hL11.lt
 have zO11 := hO11.lt
 have zA11 := hA11.lt
 go_wp2_with ((with_reducible refine at_loadT 59 6 ?_); refine wpList_load_rowG rfl 59 (.tmp 6) rfl (w.heap.size + 1 + 1) rfl 59 _ _ hA11 hun rfl hsz ?_)
 obtain ⟨wz, hwz, hbz, hZ, hoff⟩ := six hb11w hO11 (Nat.le_succ _) (.int .i64 fn) (.int .i64 x) (.int .i64 y) (.int .i64 u) (.slice none 0 0) (.slice Au mu cu)
 obtain ⟨z0, z1, z2, z3, z4, z5⟩ := six_cells hZ
 rw [hwz]
 have HP : FPost w o (.returned (.tuple #[.agg #[.int .i64 fn, .int .i64 x, .int .i64 y, .int .i64 u, .slice none 0 0, .slice Au mu cu], .bool q])) wz := fpost ho ⟨_, _, _, _, _, _, rfl, SlB.nil _ _, su11.off hoff hO11 (by intro v hv x e; subst e; simp at hv)⟩ hbz
 clear hwz
 exact bodyPost_ret (v := .tuple #[.agg #[.int .i64 fn, .int .i64 x, .int .i64 y, .int .i64 u, .slice none 0 0, .slice Au mu cu], .bool q]) (by simp [results, Tryd.results122, go_sem, z0, z1, z2, z3, z4, z5]) rfl HP
theorem fields_any (fn rd bt rg : Int) (hlim : limP fn = some (rd, bt, rg)) (A : Option Addr) (n c : Nat) (d : List Int) (w : World) (hD : SlI w w.heap.size .u8 A n c d) (hd8 : Byte8 d) (hn : n ≤ 1000) :
  Calls Tryd.prog 122 #[.agg #[.int .i64 fn, .int .i64 rd, .int .i64 bt, .int .i64 rg], .slice A n c] w (FPost w (parseP (fn :: d))) := by
 have hl := hD.1
 by_cases hs : n < 4
 ·rw [parse_short fn d (by omega)]
  exact fields_short fn rd bt rg A n c d w hD hd8 hn hs
 have hs4 : 4 ≤ n := by omega
 by_cases h5 : fn = 5
 ·subst h5
  obtain ⟨rfl, rfl, rfl⟩ : (0, 1, 0) = (rd, bt, rg) := by simpa [limP] using hlim
  obtain ⟨q, hq⟩ : ∃ q, (decide (d.length = 4) && ((wordP d 2 == 65280) || (wordP d 2 == 0))) = q := ⟨_, rfl⟩
  have hp := parse_5 d (by omega) q hq
  obtain ⟨o, ho⟩ : ∃ o, parseP (5 :: d) = o := ⟨_, rfl⟩
  rw [ho] at hp ⊢
  by_cases h4 : n = 4
  ·rw [decide_eq_true (by omega), Bool.true_and] at hq
   have hb4 : ((n : Int) == 4) = true := by rw [beq_iff_eq]; omega
   cases h1 : wordP d 2 == 65280
   ·rw [h1, Bool.false_or] at hq
    rw [h1] at hp
    cases q
    ·exact fields_5c 5 0 1 0 A n c d w hD hd8 hn hs4 hb4 rfl rfl rfl rfl rfl h1 hq o (Lib.hid hp)
    ·exact fields_5b 5 0 1 0 A n c d w hD hd8 hn hs4 hb4 rfl rfl rfl rfl rfl h1 hq o (Lib.hid hp)
   ·rw [h1, Bool.true_or] at hq
    rw [h1] at hp
    subst hq
    exact fields_5a 5 0 1 0 A n c d w hD hd8 hn hs4 hb4 rfl rfl rfl rfl rfl h1 o (Lib.hid hp)
  ·rw [decide_eq_false (by omega), Bool.false_and] at hq
   subst hq
   exact fields_5n 5 0 1 0 A n c d w hD hd8 hn hs4 (by rw [beq_eq_false_iff_ne]; omega) rfl rfl rfl rfl rfl _ rfl o (Lib.hid hp)
 by_cases h6 : fn = 6
 ·subst h6
  obtain ⟨rfl, rfl, rfl⟩ : (0, 0, 1) = (rd, bt, rg) := by simpa [limP] using hlim
  have hp := parse_6 d (by omega) _ rfl
  refine fields_6 6 0 0 1 A n c d w hD hd8 hn hs4 (decide (d.length = 4)) ?_ rfl rfl rfl rfl rfl _ (Lib.hid hp)
  rw [Bool.eq_iff_iff]
  simp only [beq_iff_eq, decide_eq_true_eq]
  omega
 by_cases h15 : fn = 15
 ·subst h15
  obtain ⟨rfl, rfl, rfl⟩ : (0, 1968, 0) = (rd, bt, rg) := by simpa [limP] using hlim
  obtain ⟨q, hq⟩ : ∃ q, (decide (3 ≤ (d.drop 2).length) && listF ((wordP (d.drop 2) 0 + 7) / 8) 1968 (d.drop 2)) = q := ⟨_, rfl⟩
  have hp := parse_15 d (by omega) _ rfl q hq
  cases q
  ·exact fields_15f 15 0 1968 0 A n c d w hD hd8 hn hs4 rfl rfl rfl rfl rfl _ (Lib.hid rfl) (Lib.hid hq) _ (Lib.hid hp)
  ·exact fields_15t 15 0 1968 0 A n c d w hD hd8 hn hs4 rfl rfl rfl rfl rfl _ (Lib.hid rfl) (Lib.hid hq) _ (Lib.hid hp)
 by_cases h16 : fn = 16
 ·subst h16
  obtain ⟨rfl, rfl, rfl⟩ : (0, 0, 123) = (rd, bt, rg) := by simpa [limP] using hlim
  exact fields_16 16 0 0 123 A n c d w hD hd8 hn hs4 rfl rfl rfl rfl rfl _ (Lib.hid rfl) _ (Lib.hid rfl) _ (Lib.hid (parse_16 d (by omega) _ rfl))
 by_cases h23 : fn = 23
 ·subst h23
  obtain ⟨rfl, rfl, rfl⟩ : (125, 0, 121) = (rd, bt, rg) := by simpa [limP] using hlim
  by_cases h8 : n < 8
  ·exact fields_23s 23 125 0 121 A n c d w hD hd8 hn hs4 h8 rfl rfl rfl rfl rfl _ (Lib.hid (parse_23 d (by omega) (Or.inl (by omega))))
  cases hf : fitP (wordP d 2) 125
  ·exact fields_23f 23 125 0 121 A n c d w hD hd8 hn (by omega) hf rfl rfl rfl rfl rfl _ (Lib.hid (parse_23 d (by omega) (Or.inr hf)))
  ·exact fields_23t 23 125 0 121 A n c d w hD hd8 hn (by omega) hf rfl rfl rfl rfl rfl _ (Lib.hid rfl) _ (Lib.hid rfl) _ (Lib.hid (parse_23t d (by omega) hf _ rfl))
 have hp := parse_d fn d (by omega) rd bt rg hlim h5 h6 h15 h16 h23
 have t5 : (fn == 5) = false := by simpa using h5
 have t6 : (fn == 6) = false := by simpa using h6
 have t15 : (fn == 15) = false := by simpa using h15
 have t16 : (fn == 16) = false := by simpa using h16
 have t23 : (fn == 23) = false := by simpa using h23
 by_cases h4 : n = 4
 ·have hb4 : ((n : Int) == 4) = true := by rw [beq_iff_eq]; omega
  cases hf : fitP (wordP d 2) rd
  ·rw [if_neg (by rw [hf]; simp)] at hp
   rw [hp]
   exact fields_d4f fn rd bt rg A n c d w hD hd8 hn hs4 hb4 t5 t6 t15 t16 t23 hf
  ·rw [if_pos ⟨by omega, hf⟩] at hp
   rw [hp]
   exact fields_d4t fn rd bt rg A n c d w hD hd8 hn hs4 hb4 t5 t6 t15 t16 t23 hf
 ·rw [if_neg (by rintro ⟨h, -⟩; omega)] at hp
  rw [hp]
  exact fields_dn fn rd bt rg A n c d w hD hd8 hn hs4 (by rw [beq_eq_false_iff_ne]; omega) t5 t6 t15 t16 t23
end Go.Proofs.YtcipleanckeoaaaDoor
