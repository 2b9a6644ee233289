/- kilowattref19.guess: 15. -/
import Derived.Test.YtcipleanckeoaaaDoorYTk
import Derived.Test.YtcipleanckeoaaaDoorYPduGs
import Derived.Test.YtcipleanckeoaaaDoorYCommon
import Derived.Deep.AppendLies
set_option maxRecDepth 100000
set_option maxHeartbeats 40000000
namespace Go.Proofs.YtcipleanckeoaaaDoor
open Go.RowKit
set_option linter.unusedVariables false
theorem gsG_15 (g off n c : Nat) (b : List Int) (w : World) (hB : SlI w w.heap.size .u8 (some ⟨g, off, none⟩) n c b) (hy8 : Byte8 b) (hn0 : 0 < n) (hn : n ≤ 1000) (fn : Int) (hfn : b.getD 0 0 = fn) (o : Option AskP)
  (hc : ((0 ≤ atP b 3) ∧ (atP b 3 ≤ 65535) ∧ (0 ≤ atP b 1) ∧ ((fn == 5) = false) ∧ ((fn == 6) = false) ∧ ((fn == 15) = true) ∧ ((fn == 16) = false) ∧ ((fn == 23) = false) ∧ (n < 6) ∧ (Hid (o = none))) ∨
   ((0 ≤ atP b 3) ∧ (atP b 3 ≤ 65535) ∧ (0 ≤ atP b 1) ∧ ((fn == 5) = false) ∧ ((fn == 6) = false) ∧ ((fn == 15) = true) ∧ ((fn == 16) = false) ∧ ((fn == 23) = false) ∧ (6 ≤ n) ∧ ((b.getD 5 0 != (atP b 3 + 7) / 8) = true) ∧ (Hid (o = none))) ∨
   ((0 ≤ atP b 3) ∧ (atP b 3 ≤ 65535) ∧ (0 ≤ atP b 1) ∧ ((fn == 5) = false) ∧ ((fn == 6) = false) ∧ ((fn == 15) = true) ∧ ((fn == 16) = false) ∧ ((fn == 23) = false) ∧ (6 ≤ n) ∧ ((b.getD 5 0 != (atP b 3 + 7) / 8) = false) ∧ (((n : Int) != 6 + (atP b 3 + 7) / 8) = true) ∧ (Hid (o = none))) ∨
   ((0 ≤ atP b 3) ∧ (atP b 3 ≤ 65535) ∧ (0 ≤ atP b 1) ∧ ((fn == 5) = false) ∧ ((fn == 6) = false) ∧ ((fn == 15) = true) ∧ ((fn == 16) = false) ∧ ((fn == 23) = false) ∧ (6 ≤ n) ∧ ((b.getD 5 0 != (atP b 3 + 7) / 8) = false) ∧ (((n : Int) != 6 + (atP b 3 + 7) / 8) = false) ∧ ∃ N : Nat, ((N : Int) = atP b 3) ∧ (Hid (o = some ⟨fn, atP b 1, 0, 0, unpackP (b.drop 6) N, []⟩)))) :
  Calls Tryd.prog 128 #[.slice (some ⟨g, off, none⟩) n c] w (FPost w o) := by
 have HCS := Lib.hid hc
 clear hc
 obtain ⟨w1, hw1⟩ : ∃ w1, w.alloc (.cells #[.int .i64 0, .int .i64 0, .int .i64 0, .int .i64 0, .slice none 0 0, .slice none 0 0] 59) = w1 := ⟨_, rfl⟩
 have hb1 := zB1 hw1
 have hO1 := zH1 hw1
 have HW1 := Lib.hid hw1
 clear hw1
 have hu := Tryd.underlying59
 have hsz := zSz
 have hl := hB.1
 have hcap := hB.2.1
 have hfr : 0 ≤ fn ∧ fn < 256 := by
  rw [← hfn, List.getD, List.getElem?_eq_getElem (by omega)]
  exact hy8 _ (List.getElem_mem _)
 have hwf : IntKind.i64.wrap fn = fn := IntWalk.i64_in fn (by omega)
 have hn0' : (0 : Int) < (n : Int) := by omega
 have HC : Hid (∀ X, Below w.heap.size w X → ∀ i, i < n → X.cell? ⟨g, off + i, none⟩ = some (.int .u8 (b.getD i 0))) := Lib.hid (fun X h i hi => by
  obtain ⟨g', o', e, _, hc⟩ := (hB.up h).2.2.2.2 (by omega)
  injection e with e
  injection e with e1 e2
  subst e1 e2
  exact hc i _ (by rw [List.getD, List.getElem?_eq_getElem (by omega)]; rfl))
 have HC0 : Hid (∀ X, Below w.heap.size w X → X.cell? ⟨g, off, none⟩ = some (.int .u8 fn)) := Lib.hid (fun X h => by rw [← hfn]; exact HC.out X h 0 hn0)
 have HAT := Lib.hid (fun (i : Nat) (hi : i ≤ 1000000) (X : World) (h : Below w.heap.size w X) => at_any (some ⟨g, off, none⟩) n c b i hi X (hB.up h) hy8)
 have HB := Lib.hid (fun (X : World) (h : Below w.heap.size w X) => hB.up h)
 have HL := Lib.hid hl
 have HCP := Lib.hid hcap
 clear hB hl hcap hfn
 obtain ⟨ad, had⟩ : ∃ x, atP b 1 = x := ⟨_, rfl⟩
 have HAT1 : Hid (∀ X, Below w.heap.size w X → Calls Tryd.prog 151 #[.slice (some ⟨g, off, none⟩) n c, .int .i64 1] X fun e w' => e = .returned (.int .i64 ad) ∧ ∃ m, w' = X.drewN m) := Lib.hid (fun X h => by rw [← had]; exact HAT.out 1 (by omega) X h)
 obtain ⟨nn, hnn⟩ : ∃ x, atP b 3 = x := ⟨_, rfl⟩
 have HAT3 : Hid (∀ X, Below w.heap.size w X → Calls Tryd.prog 151 #[.slice (some ⟨g, off, none⟩) n c, .int .i64 3] X fun e w' => e = .returned (.int .i64 nn) ∧ ∃ m, w' = X.drewN m) := Lib.hid (fun X h => by rw [← hnn]; exact HAT.out 3 (by omega) X h)
 have HAD := Lib.hid had
 have HNN0 := Lib.hid hnn
 clear had hnn
 go_in
 go_upto_region 1 with fail
 rw [HW1.out]
 obtain ⟨gA, hgA⟩ : ∃ x, w1.heap.size = x := ⟨_, rfl⟩
 have HGL : Hid (w.heap.size < gA) := Lib.hid (by have := hO1.lt; omega)
 go_cut [4] from 9 (fun s4 wx => s4 = .pointer (some ⟨gA, 0, none⟩) ∧ Below w.heap.size w wx ∧ Held wx gA 59 #[.int .i64 fn, .int .i64 ad, .int .i64 0, .int .i64 0, .slice none 0 0, .slice none 0 0] ∧ Held wx w.heap.size 59 #[.int .i64 0, .int .i64 0, .int .i64 0, .int .i64 0, .slice none 0 0, .slice none 0 0])
 case first =>
  obtain ⟨w2, hw2⟩ : ∃ W : World, w1.drew = W := ⟨_, rfl⟩
  have hS2 : Below w.heap.size w w2 := by rw [← hw2]; exact hb1.drew
  have hg2 : w2.heap.size = gA := by rw [← hw2]; exact hgA
  have hO2 : Held w2 w.heap.size 59 #[.int .i64 0, .int .i64 0, .int .i64 0, .int .i64 0, .slice none 0 0, .slice none 0 0] := by rw [← hw2]; exact hO1
  refine wp_region_held (S := fun X => Below w.heap.size w X ∧ Held X w.heap.size 59 #[.int .i64 0, .int .i64 0, .int .i64 0, .int .i64 0, .slice none 0 0, .slice none 0 0]) (by kernel_rfl) ?_
  change wpAnyH _ _ _ _ _ _ _ _ w1.drew
  rw [hw2]
  clear hw2
  have hS : Below w.heap.size w w2 ∧ Held w2 w.heap.size 59 #[.int .i64 0, .int .i64 0, .int .i64 0, .int .i64 0, .slice none 0 0, .slice none 0 0] := ⟨hS2, hO2⟩
  refine zU 0 rfl hS ?_
  refine zU 1 rfl hS ?_
  refine zU 2 rfl hS ?_ (hy := fun W hH => by
   have c0 := HC0.out W hH.1
   go_simp
   with_reducible rfl)
  refine zU 3 rfl hS ?_
  refine zU 4 rfl hS ?_
  refine wpAnyH_ready (rs := [5, 7]) (by kernel_rfl) (by simp) ?_
  refine AllReadyH.cons rfl (fun K' hK' => ?_) (AllReadyH.cons rfl (fun K' hK' => ?_) AllReadyH.nil)
  ·skip
   go_simp
   refine (HAT1.out _ hS.1).mono ?_
   rintro e w' ⟨rfl, mc, rfl⟩
   go_simp
   refine hK'.out _ _ ⟨below_drewN hS.1 _, hS.2⟩ (fun hS => ?_)
   clear hK' K'
   refine zU 6 rfl hS ?_
   refine zR 7 rfl (fun K' hK' => ?_)
   go_simp
   refine hK'.out _ _ ⟨hS.1.alloc hS.1.size _, hS.2.alloc _⟩ (fun hS => ?_)
   clear hK' K'
   refine zR 8 rfl (fun K' hK' => ?_)
   go_simp
   have hS8 : Below w.heap.size w ((w2.drewN mc).alloc (.cells #[.int .i64 fn, .int .i64 ad, .int .i64 0, .int .i64 0, .slice none 0 0, .slice none 0 0] 59)) := (below_drewN hS2 mc).alloc (by have := hS2.size; simpa using this) _
   have hO8 : Held ((w2.drewN mc).alloc (.cells #[.int .i64 fn, .int .i64 ad, .int .i64 0, .int .i64 0, .slice none 0 0, .slice none 0 0] 59)) w.heap.size 59 #[.int .i64 0, .int .i64 0, .int .i64 0, .int .i64 0, .slice none 0 0, .slice none 0 0] := Held.alloc (W := w2.drewN mc) hO2 _
   have hA8 : Held ((w2.drewN mc).alloc (.cells #[.int .i64 fn, .int .i64 ad, .int .i64 0, .int .i64 0, .slice none 0 0, .slice none 0 0] 59)) gA 59 #[.int .i64 fn, .int .i64 ad, .int .i64 0, .int .i64 0, .slice none 0 0, .slice none 0 0] := hg2 ▸ Held.new (w2.drewN mc) 59 #[.int .i64 fn, .int .i64 ad, .int .i64 0, .int .i64 0, .slice none 0 0, .slice none 0 0]
   refine hK'.out _ _ ⟨hS8, hO8⟩ (fun hS => ?_)
   clear hK' K'
   refine wpAnyH_done (by kernel_rfl) ?_ _
   go_wp2_with fail
   go_meet
   case rel => exact ⟨rfl, hS.1, hA8, hS.2⟩
  ·skip
   go_simp
   refine hK'.out _ _ ⟨hS.1.alloc hS.1.size _, hS.2.alloc _⟩ (fun hS => ?_)
   clear hK' K'
   refine zR 5 rfl (fun K' hK' => ?_)
   go_simp
   refine (HAT1.out _ hS.1).mono ?_
   rintro e w' ⟨rfl, mc, rfl⟩
   go_simp
   refine hK'.out _ _ ⟨below_drewN hS.1 _, hS.2⟩ (fun hS => ?_)
   clear hK' K'
   refine zU 6 rfl hS ?_
   refine zR 8 rfl (fun K' hK' => ?_)
   go_simp
   have hB8 : Below w.heap.size w ((w2.alloc (.cells #[.int .i64 0, .int .i64 0, .int .i64 0, .int .i64 0, .slice none 0 0, .slice none 0 0] 59)).drewN mc) := below_drewN (hS2.alloc hS2.size _) mc
   have hO8_ : Held ((w2.alloc (.cells #[.int .i64 0, .int .i64 0, .int .i64 0, .int .i64 0, .slice none 0 0, .slice none 0 0] 59)).drewN mc) w.heap.size 59 #[.int .i64 0, .int .i64 0, .int .i64 0, .int .i64 0, .slice none 0 0, .slice none 0 0] := hO2.alloc _
   have hA8_ : Held ((w2.alloc (.cells #[.int .i64 0, .int .i64 0, .int .i64 0, .int .i64 0, .slice none 0 0, .slice none 0 0] 59)).drewN mc) gA 59 #[.int .i64 0, .int .i64 0, .int .i64 0, .int .i64 0, .slice none 0 0, .slice none 0 0] := hg2 ▸ Held.new w2 59 #[.int .i64 0, .int .i64 0, .int .i64 0, .int .i64 0, .slice none 0 0, .slice none 0 0]
   have hgl : w.heap.size < gA := by have := hO2.lt; omega
   have hS8 : Below w.heap.size w ((((((((w2.alloc (.cells #[.int .i64 0, .int .i64 0, .int .i64 0, .int .i64 0, .slice none 0 0, .slice none 0 0] 59)).drewN mc).setCell ⟨gA, 0, none⟩ (.int .i64 fn)).setCell ⟨gA, 1, none⟩ (.int .i64 ad)).setCell ⟨gA, 2, none⟩ (.int .i64 0)).setCell ⟨gA, 3, none⟩ (.int .i64 0)).setCell ⟨gA, 4, none⟩ (.slice none 0 0)).setCell ⟨gA, 5, none⟩ (.slice none 0 0)) := ((((((hB8.setCell (p := ⟨gA, 0, none⟩) (Nat.le_of_lt hgl) _).setCell (p := ⟨gA, 1, none⟩) (Nat.le_of_lt hgl) _).setCell (p := ⟨gA, 2, none⟩) (Nat.le_of_lt hgl) _).setCell (p := ⟨gA, 3, none⟩) (Nat.le_of_lt hgl) _).setCell (p := ⟨gA, 4, none⟩) (Nat.le_of_lt hgl) _).setCell (p := ⟨gA, 5, none⟩) (Nat.le_of_lt hgl) _)
   have hO8 : Held ((((((((w2.alloc (.cells #[.int .i64 0, .int .i64 0, .int .i64 0, .int .i64 0, .slice none 0 0, .slice none 0 0] 59)).drewN mc).setCell ⟨gA, 0, none⟩ (.int .i64 fn)).setCell ⟨gA, 1, none⟩ (.int .i64 ad)).setCell ⟨gA, 2, none⟩ (.int .i64 0)).setCell ⟨gA, 3, none⟩ (.int .i64 0)).setCell ⟨gA, 4, none⟩ (.slice none 0 0)).setCell ⟨gA, 5, none⟩ (.slice none 0 0)) w.heap.size 59 #[.int .i64 0, .int .i64 0, .int .i64 0, .int .i64 0, .slice none 0 0, .slice none 0 0] := ((((((hO8_.far (p := ⟨gA, 0, none⟩) (Nat.ne_of_lt hgl) _).far (p := ⟨gA, 1, none⟩) (Nat.ne_of_lt hgl) _).far (p := ⟨gA, 2, none⟩) (Nat.ne_of_lt hgl) _).far (p := ⟨gA, 3, none⟩) (Nat.ne_of_lt hgl) _).far (p := ⟨gA, 4, none⟩) (Nat.ne_of_lt hgl) _).far (p := ⟨gA, 5, none⟩) (Nat.ne_of_lt hgl) _)
   have hA8 : Held ((((((((w2.alloc (.cells #[.int .i64 0, .int .i64 0, .int .i64 0, .int .i64 0, .slice none 0 0, .slice none 0 0] 59)).drewN mc).setCell ⟨gA, 0, none⟩ (.int .i64 fn)).setCell ⟨gA, 1, none⟩ (.int .i64 ad)).setCell ⟨gA, 2, none⟩ (.int .i64 0)).setCell ⟨gA, 3, none⟩ (.int .i64 0)).setCell ⟨gA, 4, none⟩ (.slice none 0 0)).setCell ⟨gA, 5, none⟩ (.slice none 0 0)) gA 59 #[.int .i64 fn, .int .i64 ad, .int .i64 0, .int .i64 0, .slice none 0 0, .slice none 0 0] := ((((((hA8_.set 0 _).set 1 _).set 2 _).set 3 _).set 4 _).set 5 _)
   refine hK'.out _ _ ⟨hS8, hO8⟩ (fun hS => ?_)
   clear hK' K'
   refine wpAnyH_done (by kernel_rfl) ?_ _
   go_wp2_with fail
   go_meet
   case rel => exact ⟨rfl, hS.1, hA8, hS.2⟩
 case rest =>
 obtain ⟨rfl, hb3w, hA3, hO3⟩ := hcut
 obtain ⟨w3, rfl⟩ : ∃ W, W = wc := ⟨_, rfl⟩
 clear hO1 hb1 HW1 hgA
 go_wp2_with fail
 refine (HAT3.out w3 hb3w).mono ?_
 rintro e w4 ⟨rfl, m4, hw4⟩
 have hb4 : Below w3.heap.size w3 w4 := by rw [hw4]; exact below_drewN (Below.refl _ _) _
 clear hw4
 have hb4w := hb3w.trans (hb4.mono hb3w.size)
 have hO4 := hO3.below hb4 hO3.lt
 have hA4 := hA3.below hb4 hA3.lt
 rcases HCS.out with ⟨hnn3, hnn4, had0, t5, t6, t15, t16, t23, h6, ho⟩ | ⟨hnn3, hnn4, had0, t5, t6, t15, t16, t23, h6, tx, ho⟩ | ⟨hnn3, hnn4, had0, t5, t6, t15, t16, t23, h6, tx, ty, ho⟩ | ⟨hnn3, hnn4, had0, t5, t6, t15, t16, t23, h6, tx, ty, N, hN, ho⟩
 ·clear HCS
  have had := HAD.out
  have hnn := HNN0.out
  rw [hnn] at hnn3 hnn4
  rw [had] at had0
  have ta : decide (ad < 0) = false := decide_eq_false (by omega)
  have tn : decide (nn < 0) = false := decide_eq_false (by omega)
  have t6n : decide ((n : Int) < 6) = true := decide_eq_true (by omega)
  have ww7 : IntKind.i64.wrap (nn + 7) = nn + 7 := IntWalk.i64_in _ (by omega)
  have d8 : (nn + 7).tdiv 8 = (nn + 7) / 8 := Int.tdiv_eq_ediv_of_nonneg (by omega)
  have ww8 : IntKind.i64.wrap ((nn + 7) / 8) = (nn + 7) / 8 := IntWalk.i64_in _ (by omega)
  have ww9 : IntKind.i64.wrap (6 + (nn + 7) / 8) = 6 + (nn + 7) / 8 := IntWalk.i64_in _ (by omega)
  clear had hnn
  obtain ⟨o4_0, o4_1, o4_2, o4_3, o4_4, o4_5⟩ := six_cells hO4
  obtain ⟨a4_0, a4_1, a4_2, a4_3, a4_4, a4_5⟩ := six_cells hA4
  have fo4 := hO4.frozen
  have fa4 := hA4.frozen
  have zO4 := hO4.lt
  have zA4 := hA4.lt
  go_wp2_with ((with_reducible refine at_loadT 59 4 ?_); refine wpList_load_rowG rfl 59 (.tmp 4) rfl gA rfl 59 _ _ hA4 hu rfl hsz ?_)
  obtain ⟨wz, hwz, hbz, hZ, hoff⟩ := six hb4w hO4 (Nat.le_refl _) (.int .i64 fn) (.int .i64 ad) (.int .i64 0) (.int .i64 0) (.slice none 0 0) (.slice none 0 0)
  obtain ⟨z0, z1, z2, z3, z4, z5⟩ := six_cells hZ
  rw [hwz]
  have HP : FPost w o (.returned (.tuple #[.agg #[.int .i64 fn, .int .i64 ad, .int .i64 0, .int .i64 0, .slice none 0 0, .slice none 0 0], .bool false])) wz := fpost (p := ⟨fn, ad, 0, 0, [], []⟩) (q := false) ho ⟨_, _, _, _, _, _, rfl, SlB.nil _ _, SlI.nil _ _ _⟩ hbz
  clear hwz
  exact bodyPost_ret (v := .tuple #[.agg #[.int .i64 fn, .int .i64 ad, .int .i64 0, .int .i64 0, .slice none 0 0, .slice none 0 0], .bool false]) (by simp [results, Tryd.results128, go_sem, z0, z1, z2, z3, z4, z5]) rfl HP
 ·clear HCS
  have had := HAD.out
  have hnn := HNN0.out
  rw [hnn] at hnn3 hnn4
  rw [had] at had0
  have ta : decide (ad < 0) = false := decide_eq_false (by omega)
  have tn : decide (nn < 0) = false := decide_eq_false (by omega)
  rw [hnn] at tx
  have t6n : decide ((n : Int) < 6) = false := decide_eq_false (by omega)
  have b5r : 0 ≤ b.getD 5 0 ∧ b.getD 5 0 < 256 := by
   rw [List.getD, List.getElem?_eq_getElem (by rw [HL.out]; omega)]
   exact hy8 _ (List.getElem_mem _)
  obtain ⟨b5, hb5⟩ : ∃ x, b.getD 5 0 = x := ⟨_, rfl⟩
  rw [hb5] at b5r tx
  have wb5 : IntKind.i64.wrap b5 = b5 := IntWalk.i64_in _ (by omega)
  have HC5 : Hid (∀ X, Below w.heap.size w X → X.cell? ⟨g, off + 5, none⟩ = some (.int .u8 b5)) := Lib.hid (fun X h => by rw [← hb5]; exact HC.out X h 5 (by omega))
  have h5n : (5 : Int) < (n : Int) := by omega
  have h5n' : 5 < n := by omega
  clear hb5
  have ww7 : IntKind.i64.wrap (nn + 7) = nn + 7 := IntWalk.i64_in _ (by omega)
  have d8 : (nn + 7).tdiv 8 = (nn + 7) / 8 := Int.tdiv_eq_ediv_of_nonneg (by omega)
  have ww8 : IntKind.i64.wrap ((nn + 7) / 8) = (nn + 7) / 8 := IntWalk.i64_in _ (by omega)
  have ww9 : IntKind.i64.wrap (6 + (nn + 7) / 8) = 6 + (nn + 7) / 8 := IntWalk.i64_in _ (by omega)
  clear had hnn
  obtain ⟨o4_0, o4_1, o4_2, o4_3, o4_4, o4_5⟩ := six_cells hO4
  obtain ⟨a4_0, a4_1, a4_2, a4_3, a4_4, a4_5⟩ := six_cells hA4
  have fo4 := hO4.frozen
  have fa4 := hA4.frozen
  have zO4 := hO4.lt
  have zA4 := hA4.lt
  have c5 := HC5.out w4 hb4w
  go_wp2_with ((with_reducible refine at_loadT 59 4 ?_); refine wpList_load_rowG rfl 59 (.tmp 4) rfl gA rfl 59 _ _ hA4 hu rfl hsz ?_)
  obtain ⟨wz, hwz, hbz, hZ, hoff⟩ := six hb4w hO4 (Nat.le_refl _) (.int .i64 fn) (.int .i64 ad) (.int .i64 0) (.int .i64 0) (.slice none 0 0) (.slice none 0 0)
  obtain ⟨z0, z1, z2, z3, z4, z5⟩ := six_cells hZ
  rw [hwz]
  have HP : FPost w o (.returned (.tuple #[.agg #[.int .i64 fn, .int .i64 ad, .int .i64 0, .int .i64 0, .slice none 0 0, .slice none 0 0], .bool false])) wz := fpost (p := ⟨fn, ad, 0, 0, [], []⟩) (q := false) ho ⟨_, _, _, _, _, _, rfl, SlB.nil _ _, SlI.nil _ _ _⟩ hbz
  clear hwz
  exact bodyPost_ret (v := .tuple #[.agg #[.int .i64 fn, .int .i64 ad, .int .i64 0, .int .i64 0, .slice none 0 0, .slice none 0 0], .bool false]) (by simp [results, Tryd.results128, go_sem, z0, z1, z2, z3, z4, z5]) rfl HP
 ·clear HCS
  have had := HAD.out
  have hnn := HNN0.out
  rw [hnn] at hnn3 hnn4
  rw [had] at had0
  have ta : decide (ad < 0) = false := decide_eq_false (by omega)
  have tn : decide (nn < 0) = false := decide_eq_false (by omega)
  rw [hnn] at tx ty
  have t6n : decide ((n : Int) < 6) = false := decide_eq_false (by omega)
  have b5r : 0 ≤ b.getD 5 0 ∧ b.getD 5 0 < 256 := by
   rw [List.getD, List.getElem?_eq_getElem (by rw [HL.out]; omega)]
   exact hy8 _ (List.getElem_mem _)
  obtain ⟨b5, hb5⟩ : ∃ x, b.getD 5 0 = x := ⟨_, rfl⟩
  rw [hb5] at b5r tx
  have wb5 : IntKind.i64.wrap b5 = b5 := IntWalk.i64_in _ (by omega)
  have HC5 : Hid (∀ X, Below w.heap.size w X → X.cell? ⟨g, off + 5, none⟩ = some (.int .u8 b5)) := Lib.hid (fun X h => by rw [← hb5]; exact HC.out X h 5 (by omega))
  have h5n : (5 : Int) < (n : Int) := by omega
  have h5n' : 5 < n := by omega
  clear hb5
  have ww7 : IntKind.i64.wrap (nn + 7) = nn + 7 := IntWalk.i64_in _ (by omega)
  have d8 : (nn + 7).tdiv 8 = (nn + 7) / 8 := Int.tdiv_eq_ediv_of_nonneg (by omega)
  have ww8 : IntKind.i64.wrap ((nn + 7) / 8) = (nn + 7) / 8 := IntWalk.i64_in _ (by omega)
  have ww9 : IntKind.i64.wrap (6 + (nn + 7) / 8) = 6 + (nn + 7) / 8 := IntWalk.i64_in _ (by omega)
  clear had hnn
  obtain ⟨o4_0, o4_1, o4_2, o4_3, o4_4, o4_5⟩ := six_cells hO4
  obtain ⟨a4_0, a4_1, a4_2, a4_3, a4_4, a4_5⟩ := six_cells hA4
  have fo4 := hO4.frozen
  have fa4 := hA4.frozen
  have zO4 := hO4.lt
  have zA4 := hA4.lt
  have c5 := HC5.out w4 hb4w
  go_wp2_with ((with_reducible refine at_loadT 59 4 ?_); refine wpList_load_rowG rfl 59 (.tmp 4) rfl gA rfl 59 _ _ hA4 hu rfl hsz ?_)
  obtain ⟨wz, hwz, hbz, hZ, hoff⟩ := six hb4w hO4 (Nat.le_refl _) (.int .i64 fn) (.int .i64 ad) (.int .i64 0) (.int .i64 0) (.slice none 0 0) (.slice none 0 0)
  obtain ⟨z0, z1, z2, z3, z4, z5⟩ := six_cells hZ
  rw [hwz]
  have HP : FPost w o (.returned (.tuple #[.agg #[.int .i64 fn, .int .i64 ad, .int .i64 0, .int .i64 0, .slice none 0 0, .slice none 0 0], .bool false])) wz := fpost (p := ⟨fn, ad, 0, 0, [], []⟩) (q := false) ho ⟨_, _, _, _, _, _, rfl, SlB.nil _ _, SlI.nil _ _ _⟩ hbz
  clear hwz
  exact bodyPost_ret (v := .tuple #[.agg #[.int .i64 fn, .int .i64 ad, .int .i64 0, .int .i64 0, .slice none 0 0, .slice none 0 0], .bool false]) (by simp [results, Tryd.results128, go_sem, z0, z1, z2, z3, z4, z5]) rfl HP
 ·clear HCS
  have had := HAD.out
  have hnn := HNN0.out
  rw [hnn] at hnn3 hnn4
  rw [had] at had0
  have ta : decide (ad < 0) = false := decide_eq_false (by omega)
  have tn : decide (nn < 0) = false := decide_eq_false (by omega)
  rw [hnn] at tx ty hN
  rw [had] at ho
  have t6n : decide ((n : Int) < 6) = false := decide_eq_false (by omega)
  have b5r : 0 ≤ b.getD 5 0 ∧ b.getD 5 0 < 256 := by
   rw [List.getD, List.getElem?_eq_getElem (by rw [HL.out]; omega)]
   exact hy8 _ (List.getElem_mem _)
  obtain ⟨b5, hb5⟩ : ∃ x, b.getD 5 0 = x := ⟨_, rfl⟩
  rw [hb5] at b5r tx
  have wb5 : IntKind.i64.wrap b5 = b5 := IntWalk.i64_in _ (by omega)
  have HC5 : Hid (∀ X, Below w.heap.size w X → X.cell? ⟨g, off + 5, none⟩ = some (.int .u8 b5)) := Lib.hid (fun X h => by rw [← hb5]; exact HC.out X h 5 (by omega))
  have h5n : (5 : Int) < (n : Int) := by omega
  have h5n' : 5 < n := by omega
  clear hb5
  have ww7 : IntKind.i64.wrap (nn + 7) = nn + 7 := IntWalk.i64_in _ (by omega)
  have d8 : (nn + 7).tdiv 8 = (nn + 7) / 8 := Int.tdiv_eq_ediv_of_nonneg (by omega)
  have ww8 : IntKind.i64.wrap ((nn + 7) / 8) = (nn + 7) / 8 := IntWalk.i64_in _ (by omega)
  have ww9 : IntKind.i64.wrap (6 + (nn + 7) / 8) = 6 + (nn + 7) / 8 := IntWalk.i64_in _ (by omega)
  have hNn : (n : Int) = 6 + (nn + 7) / 8 := by simpa using ty
  have hN1 : (N : Int) ≤ nn := by omega
  have hN2 : nn ≤ (N : Int) := by omega
  have hNi : N ≤ 100000 := by omega
  have HNN := Lib.hid hNn
  have hNl : 8 * n ≥ N + 48 := by omega
  clear had hnn hN hNn
  obtain ⟨o4_0, o4_1, o4_2, o4_3, o4_4, o4_5⟩ := six_cells hO4
  obtain ⟨a4_0, a4_1, a4_2, a4_3, a4_4, a4_5⟩ := six_cells hA4
  have fo4 := hO4.frozen
  have fa4 := hA4.frozen
  have zO4 := hO4.lt
  have zA4 := hA4.lt
  have c5 := HC5.out w4 hb4w
  go_upto_region 16 with fail
  clear tx ty c5 ww7 d8 ww8 ww9 wb5
  obtain ⟨i0, hi, hz0, hz1', hz2'⟩ := info_parts infoBool
  have hzA0 := hA4.lt
  go_wp2_with fail
  go_loopw [7] (fun u wx => ∃ (k : Nat) (v : Value), k ≤ N ∧ u = .int .i64 (k : Int) ∧ Held wx gA 59 #[.int .i64 fn, .int .i64 ad, .int .i64 0, .int .i64 0, v, .slice none 0 0] ∧ wx.ownsRow w4.heap.size 4 1 v k ((unpackP (b.drop 6) k).map Value.bool) ∧ Held wx w.heap.size 59 #[.int .i64 0, .int .i64 0, .int .i64 0, .int .i64 0, .slice none 0 0, .slice none 0 0] ∧ Below w.heap.size w wx ∧ w4.heap.size ≤ wx.heap.size) (fun u _ => N - (intOf u).toNat)
  case atStart => exact ⟨0, .slice none 0 0, by omega, rfl, hA4, World.ownsRow_nil _ _ _ _, hO4, hb4w, Nat.le_refl _⟩
  case round =>
  obtain ⟨k, v, hk, rfl, hAwr, hrow, hOwr, hbwr, hge⟩ := hrel
  have hzwr := hbwr.size
  have awr0 : wr.cell? ⟨gA, 0, none⟩ = some (.int .i64 fn) := hAwr.cell 0
  have awr1 : wr.cell? ⟨gA, 1, none⟩ = some (.int .i64 ad) := hAwr.cell 1
  have awr2 : wr.cell? ⟨gA, 2, none⟩ = some (.int .i64 0) := hAwr.cell 2
  have awr3 : wr.cell? ⟨gA, 3, none⟩ = some (.int .i64 0) := hAwr.cell 3
  have awr4 : wr.cell? ⟨gA, 4, none⟩ = some (v) := hAwr.cell 4
  have awr5 : wr.cell? ⟨gA, 5, none⟩ = some (.slice none 0 0) := hAwr.cell 5
  by_cases hlt : k < N
  ·skip
   have ht1 : (k : Int) < nn := by omega
   obtain ⟨wd, hwd⟩ : ∃ wd : World, wr.drew = wd := ⟨_, rfl⟩
   have hb0 := zB3 hwd
   have hbdw : Below w.heap.size w wd := hbwr.trans (hb0.mono hbwr.size)
   have hOwd := hOwr.below hb0 hOwr.lt
   have hRwd := hAwr.below hb0 hAwr.lt
   have hrowd := own_up hrow hb0
   have hzd1 : wd.heap.size ≤ wr.heap.size := by rw [← hwd]; exact Nat.le_refl _
   have hzd2 : wr.heap.size ≤ wd.heap.size := by rw [← hwd]; exact Nat.le_refl _
   have hrv : wd.cell? ⟨gA, 4, none⟩ = some v := hRwd.cell 4
   have hzRd := hRwd.lt
   have hgl := HGL.out
   have hnc : (n : Int) ≤ (c : Int) := by have := HCP.out; omega
   have hcne : ¬ c = 6 := by have := HCP.out; omega
   have hkn : (6 : Int) ≤ (n : Int) := by omega
   have HBT := Lib.hid (fun (X : World) (h : Below w.heap.size w X) => bit_any (some ⟨g, off + 6, none⟩) (n - 6) (c - 6) (b.drop 6) (by rw [List.length_drop, HL.out]) (fun x hx => hy8 x (List.mem_of_mem_drop hx)) k (by omega) X ((HB.out X h).drop 6 (by omega)).2.2.2.2)
   have HSN := Lib.hid (unpackP_snoc (b.drop 6) k)
   go_wp2_with fail
   refine wp_region_held (S := Below w.heap.size w) (by kernel_rfl) ?_
   change wpAnyH _ _ _ _ _ _ _ _ wr.drew
   rw [hwd]
   have hS : Below w.heap.size w wd := hbdw
   refine zU 0 rfl hS ?_
   refine zU 2 rfl hS ?_
   refine zU 3 rfl hS ?_
   refine zU 4 rfl hS ?_
   refine wpAnyH_ready (rs := [1, 5]) (by kernel_rfl) (by simp) ?_
   refine AllReadyH.cons rfl (fun K' hK' => ?_) (AllReadyH.cons rfl (fun K' hK' => ?_) AllReadyH.nil)
   ·skip
    go_simp
    refine hK'.out _ _ hS (fun hS => ?_)
    clear hK' K'
    refine zR 5 rfl (fun K' hK' => ?_)
    go_simp
    refine (HBT.out wd hbdw).mono ?_
    rintro e w' ⟨rfl, rfl⟩
    go_simp
    refine hK'.out _ _ hS (fun hS => ?_)
    clear hK' K'
    refine zR 6 rfl (fun K' hK' => ?_)
    go_simp
    have hzX : w4.heap.size ≤ wd.heap.size := by omega
    refine hK'.out _ _ (hS.alloc hS.size _) (fun hS => ?_)
    clear hK' K'
    refine zR 7 rfl (fun K' hK' => ?_)
    refine step_append_lies _ (by rfl) _ _ _ (by rfl) w4.heap.size 4 i0 (.bool false) 1 1 Tryd.underlying57 hi hz0 hz1' hz2' rfl (by decide) v k _ (by rfl) (hrowd.alloc (.cells #[.bool (bitAt (b.drop 6) k)] 4)) ⟨wd.heap.size, 0, none⟩ 1 1 [.bool (bitAt (b.drop 6) k)] (by rfl) (by rfl) (World.news_of_block (cs := #[.bool (bitAt (b.drop 6) k)]) (t := 4) (fr := (0, 0)) (heap_alloc_new wd _)) (by simp [Value.oneCell']) (by omega) (by unfold maxLen; omega) (by omega) (by simp; omega) (wd.heap.size + 1) (by simp) ?_
    intro gg cc wa own' hgr hat hlt2
    have hne : ∀ B, B < w4.heap.size → some B ≠ v.ownBlock := fun B hB e => by have := (hrowd.lt B e.symm).1; omega
    have hRa : Held wa gA 59 #[.int .i64 fn, .int .i64 ad, .int .i64 0, .int .i64 0, v, .slice none 0 0] := (hRwd.alloc _).kept hgr (hne _ (by omega))
    have hOa : Held wa w.heap.size 59 #[.int .i64 0, .int .i64 0, .int .i64 0, .int .i64 0, .slice none 0 0, .slice none 0 0] := (hOwd.alloc _).kept hgr (hne _ (by omega))
    have hSa : Below w.heap.size w wa := hS.grown hgr (by rw [World.size_alloc]; omega) (fun B hB => by have := (hrowd.lt B hB).1; omega)
    have hra : wa.cell? ⟨gA, 4, none⟩ = some v := hRa.cell 4
    have hfa := hRa.frozen
    have hga := own'.lt gg rfl
    have hgea : w4.heap.size ≤ wa.heap.size := by omega
    have ho2 := gs_own_off own' (B := gA) (by omega) 4 (.slice (some ⟨gg, 0, none⟩) (k + 1) cc)
    clear hS hgr hat
    refine hK'.out _ _ hSa (fun hS => ?_)
    clear hK' K'
    refine zU 8 rfl hS ?_
    refine zR 9 rfl (fun K' hK' => ?_)
    go_simp
    have hSs : Below w.heap.size w (wa.setCell ⟨gA, 4, none⟩ (.slice (some ⟨gg, 0, none⟩) (k + 1) cc)) := hSa.setCell (p := ⟨gA, 4, none⟩) (Nat.le_of_lt HGL.out) _
    clear hS
    refine hK'.out _ _ hSs (fun hS => ?_)
    clear hK' K'
    refine wpAnyH_done (by kernel_rfl) ?_ _
    go_wp2_with fail
    go_roundw
    case rel => exact ⟨k + 1, (.slice (some ⟨gg, 0, none⟩) (k + 1) cc), by omega, by go_num, hRa.set 4 _, by rw [HSN.out, List.map_append]; exact ho2, hOa.far (p := ⟨gA, 4, none⟩) (Nat.ne_of_lt HGL.out) _, hSs, by show w4.heap.size ≤ _; rw [World.size_setCell]; exact hgea⟩
    case measure => simp [intOf]; omega
   ·skip
    go_simp
    refine (HBT.out wd hbdw).mono ?_
    rintro e w' ⟨rfl, rfl⟩
    go_simp
    refine hK'.out _ _ hS (fun hS => ?_)
    clear hK' K'
    refine wpAnyH_ready (rs := [1, 6]) (by kernel_rfl) (by simp) ?_
    refine AllReadyH.cons rfl (fun K' hK' => ?_) (AllReadyH.cons rfl (fun K' hK' => ?_) AllReadyH.nil)
    ·skip
     go_simp
     refine hK'.out _ _ hS (fun hS => ?_)
     clear hK' K'
     refine zR 6 rfl (fun K' hK' => ?_)
     go_simp
     have hzX : w4.heap.size ≤ wd.heap.size := by omega
     refine hK'.out _ _ (hS.alloc hS.size _) (fun hS => ?_)
     clear hK' K'
     refine zR 7 rfl (fun K' hK' => ?_)
     refine step_append_lies _ (by rfl) _ _ _ (by rfl) w4.heap.size 4 i0 (.bool false) 1 1 Tryd.underlying57 hi hz0 hz1' hz2' rfl (by decide) v k _ (by rfl) (hrowd.alloc (.cells #[.bool (bitAt (b.drop 6) k)] 4)) ⟨wd.heap.size, 0, none⟩ 1 1 [.bool (bitAt (b.drop 6) k)] (by rfl) (by rfl) (World.news_of_block (cs := #[.bool (bitAt (b.drop 6) k)]) (t := 4) (fr := (0, 0)) (heap_alloc_new wd _)) (by simp [Value.oneCell']) (by omega) (by unfold maxLen; omega) (by omega) (by simp; omega) (wd.heap.size + 1) (by simp) ?_
     intro gg cc wa own' hgr hat hlt2
     have hne : ∀ B, B < w4.heap.size → some B ≠ v.ownBlock := fun B hB e => by have := (hrowd.lt B e.symm).1; omega
     have hRa : Held wa gA 59 #[.int .i64 fn, .int .i64 ad, .int .i64 0, .int .i64 0, v, .slice none 0 0] := (hRwd.alloc _).kept hgr (hne _ (by omega))
     have hOa : Held wa w.heap.size 59 #[.int .i64 0, .int .i64 0, .int .i64 0, .int .i64 0, .slice none 0 0, .slice none 0 0] := (hOwd.alloc _).kept hgr (hne _ (by omega))
     have hSa : Below w.heap.size w wa := hS.grown hgr (by rw [World.size_alloc]; omega) (fun B hB => by have := (hrowd.lt B hB).1; omega)
     have hra : wa.cell? ⟨gA, 4, none⟩ = some v := hRa.cell 4
     have hfa := hRa.frozen
     have hga := own'.lt gg rfl
     have hgea : w4.heap.size ≤ wa.heap.size := by omega
     have ho2 := gs_own_off own' (B := gA) (by omega) 4 (.slice (some ⟨gg, 0, none⟩) (k + 1) cc)
     clear hS hgr hat
     refine hK'.out _ _ hSa (fun hS => ?_)
     clear hK' K'
     refine zU 8 rfl hS ?_
     refine zR 9 rfl (fun K' hK' => ?_)
     go_simp
     have hSs : Below w.heap.size w (wa.setCell ⟨gA, 4, none⟩ (.slice (some ⟨gg, 0, none⟩) (k + 1) cc)) := hSa.setCell (p := ⟨gA, 4, none⟩) (Nat.le_of_lt HGL.out) _
     clear hS
     refine hK'.out _ _ hSs (fun hS => ?_)
     clear hK' K'
     refine wpAnyH_done (by kernel_rfl) ?_ _
     go_wp2_with fail
     go_roundw
     case rel => exact ⟨k + 1, (.slice (some ⟨gg, 0, none⟩) (k + 1) cc), by omega, by go_num, hRa.set 4 _, by rw [HSN.out, List.map_append]; exact ho2, hOa.far (p := ⟨gA, 4, none⟩) (Nat.ne_of_lt HGL.out) _, hSs, by show w4.heap.size ≤ _; rw [World.size_setCell]; exact hgea⟩
     case measure => simp [intOf]; omega
    ·skip
     go_simp
     have hzX : w4.heap.size ≤ wd.heap.size := by omega
     refine hK'.out _ _ (hS.alloc hS.size _) (fun hS => ?_)
     clear hK' K'
     refine zR 1 rfl (fun K' hK' => ?_)
     go_simp
     refine hK'.out _ _ hS (fun hS => ?_)
     clear hK' K'
     refine zR 7 rfl (fun K' hK' => ?_)
     refine step_append_lies _ (by rfl) _ _ _ (by rfl) w4.heap.size 4 i0 (.bool false) 1 1 Tryd.underlying57 hi hz0 hz1' hz2' rfl (by decide) v k _ (by rfl) (hrowd.alloc (.cells #[.bool (bitAt (b.drop 6) k)] 4)) ⟨wd.heap.size, 0, none⟩ 1 1 [.bool (bitAt (b.drop 6) k)] (by rfl) (by rfl) (World.news_of_block (cs := #[.bool (bitAt (b.drop 6) k)]) (t := 4) (fr := (0, 0)) (heap_alloc_new wd _)) (by simp [Value.oneCell']) (by omega) (by unfold maxLen; omega) (by omega) (by simp; omega) (wd.heap.size + 1) (by simp) ?_
     intro gg cc wa own' hgr hat hlt2
     have hne : ∀ B, B < w4.heap.size → some B ≠ v.ownBlock := fun B hB e => by have := (hrowd.lt B e.symm).1; omega
     have hRa : Held wa gA 59 #[.int .i64 fn, .int .i64 ad, .int .i64 0, .int .i64 0, v, .slice none 0 0] := (hRwd.alloc _).kept hgr (hne _ (by omega))
     have hOa : Held wa w.heap.size 59 #[.int .i64 0, .int .i64 0, .int .i64 0, .int .i64 0, .slice none 0 0, .slice none 0 0] := (hOwd.alloc _).kept hgr (hne _ (by omega))
     have hSa : Below w.heap.size w wa := hS.grown hgr (by rw [World.size_alloc]; omega) (fun B hB => by have := (hrowd.lt B hB).1; omega)
     have hra : wa.cell? ⟨gA, 4, none⟩ = some v := hRa.cell 4
     have hfa := hRa.frozen
     have hga := own'.lt gg rfl
     have hgea : w4.heap.size ≤ wa.heap.size := by omega
     have ho2 := gs_own_off own' (B := gA) (by omega) 4 (.slice (some ⟨gg, 0, none⟩) (k + 1) cc)
     clear hS hgr hat
     refine hK'.out _ _ hSa (fun hS => ?_)
     clear hK' K'
     refine zU 8 rfl hS ?_
     refine zR 9 rfl (fun K' hK' => ?_)
     go_simp
     have hSs : Below w.heap.size w (wa.setCell ⟨gA, 4, none⟩ (.slice (some ⟨gg, 0, none⟩) (k + 1) cc)) := hSa.setCell (p := ⟨gA, 4, none⟩) (Nat.le_of_lt HGL.out) _
     clear hS
     refine hK'.out _ _ hSs (fun hS => ?_)
     clear hK' K'
     refine wpAnyH_done (by kernel_rfl) ?_ _
     go_wp2_with fail
     go_roundw
     case rel => exact ⟨k + 1, (.slice (some ⟨gg, 0, none⟩) (k + 1) cc), by omega, by go_num, hRa.set 4 _, by rw [HSN.out, List.map_append]; exact ho2, hOa.far (p := ⟨gA, 4, none⟩) (Nat.ne_of_lt HGL.out) _, hSs, by show w4.heap.size ≤ _; rw [World.size_setCell]; exact hgea⟩
     case measure => simp [intOf]; omega
  ·obtain rfl : k = N := by omega
   obtain ⟨Au, cu, rfl, sv⟩ := SlB.of_own hrow
   have ht1 : ¬ (k : Int) < nn := by omega
   obtain ⟨w5, rfl⟩ : ∃ W, W = wr := ⟨_, rfl⟩
   have hA5 := hAwr
   have hO5 := hOwr
   have hb5w := hbwr
   have sv5 := sv
   obtain ⟨o5_0, o5_1, o5_2, o5_3, o5_4, o5_5⟩ := six_cells hO5
   obtain ⟨a5_0, a5_1, a5_2, a5_3, a5_4, a5_5⟩ := six_cells hA5
   have fo5 := hO5.frozen
   have fa5 := hA5.frozen
   have zO5 := hO5.lt
   have zA5 := hA5.lt
   go_wp2_with ((with_reducible refine at_loadT 59 4 ?_); refine wpList_load_rowG rfl 59 (.tmp 4) rfl gA rfl 59 _ _ hA5 hu rfl hsz ?_)
   obtain ⟨wz, hwz, hbz, hZ, hoff⟩ := six hb5w hO5 (Nat.le_refl _) (.int .i64 fn) (.int .i64 ad) (.int .i64 0) (.int .i64 0) (.slice Au k cu) (.slice none 0 0)
   obtain ⟨z0, z1, z2, z3, z4, z5⟩ := six_cells hZ
   rw [hwz]
   have HP : FPost w o (.returned (.tuple #[.agg #[.int .i64 fn, .int .i64 ad, .int .i64 0, .int .i64 0, .slice Au k cu, .slice none 0 0], .bool true])) wz := fpost (q := true) ho ⟨_, _, _, _, _, _, rfl, sv5.off hoff hO5 (by intro v hv x e; subst e; simp at hv), SlI.nil _ _ _⟩ hbz
   clear hwz
   exact bodyPost_ret (v := .tuple #[.agg #[.int .i64 fn, .int .i64 ad, .int .i64 0, .int .i64 0, .slice Au k cu, .slice none 0 0], .bool true]) (by simp [results, Tryd.results128, go_sem, z0, z1, z2, z3, z4, z5]) rfl HP
theorem gs_15l (g off n c : Nat) (b : List Int) (w : World) (hB : SlI w w.heap.size .u8 (some ⟨g, off, none⟩) n c b) (hy8 : Byte8 b) (hn0 : 0 < n) (hn : n ≤ 1000) (fn : Int) (hfn : b.getD 0 0 = fn) (hnn3 : 0 ≤ atP b 3) (hnn4 : atP b 3 ≤ 65535) (had0 : 0 ≤ atP b 1) (t5 : (fn == 5) = false) (t6 : (fn == 6) = false) (t15 : (fn == 15) = true) (t16 : (fn == 16) = false) (t23 : (fn == 23) = false) (h6 : n < 6) (o : Option AskP) (ho : Hid (o = none)) : Calls Tryd.prog 128 #[.slice (some ⟨g, off, none⟩) n c] w (FPost w o) := gsG_15 g off n c b w hB hy8 hn0 hn fn hfn o (Or.inl ⟨hnn3, hnn4, had0, t5, t6, t15, t16, t23, h6, ho⟩)
theorem gs_15x (g off n c : Nat) (b : List Int) (w : World) (hB : SlI w w.heap.size .u8 (some ⟨g, off, none⟩) n c b) (hy8 : Byte8 b) (hn0 : 0 < n) (hn : n ≤ 1000) (fn : Int) (hfn : b.getD 0 0 = fn) (hnn3 : 0 ≤ atP b 3) (hnn4 : atP b 3 ≤ 65535) (had0 : 0 ≤ atP b 1) (t5 : (fn == 5) = false) (t6 : (fn == 6) = false) (t15 : (fn == 15) = true) (t16 : (fn == 16) = false) (t23 : (fn == 23) = false) (h6 : 6 ≤ n) (tx : (b.getD 5 0 != (atP b 3 + 7) / 8) = true) (o : Option AskP) (ho : Hid (o = none)) : Calls Tryd.prog 128 #[.slice (some ⟨g, off, none⟩) n c] w (FPost w o) := gsG_15 g off n c b w hB hy8 hn0 hn fn hfn o (Or.inr (Or.inl ⟨hnn3, hnn4, had0, t5, t6, t15, t16, t23, h6, tx, ho⟩))
theorem gs_15y (g off n c : Nat) (b : List Int) (w : World) (hB : SlI w w.heap.size .u8 (some ⟨g, off, none⟩) n c b) (hy8 : Byte8 b) (hn0 : 0 < n) (hn : n ≤ 1000) (fn : Int) (hfn : b.getD 0 0 = fn) (hnn3 : 0 ≤ atP b 3) (hnn4 : atP b 3 ≤ 65535) (had0 : 0 ≤ atP b 1) (t5 : (fn == 5) = false) (t6 : (fn == 6) = false) (t15 : (fn == 15) = true) (t16 : (fn == 16) = false) (t23 : (fn == 23) = false) (h6 : 6 ≤ n) (tx : (b.getD 5 0 != (atP b 3 + 7) / 8) = false) (ty : ((n : Int) != 6 + (atP b 3 + 7) / 8) = true) (o : Option AskP) (ho : Hid (o = none)) : Calls Tryd.prog 128 #[.slice (some ⟨g, off, none⟩) n c] w (FPost w o) := gsG_15 g off n c b w hB hy8 hn0 hn fn hfn o (Or.inr (Or.inr (Or.inl ⟨hnn3, hnn4, had0, t5, t6, t15, t16, t23, h6, tx, ty, ho⟩)))
theorem gs_15g (g off n c : Nat) (b : List Int) (w : World) (hB : SlI w w.heap.size .u8 (some ⟨g, off, none⟩) n c b) (hy8 : Byte8 b) (hn0 : 0 < n) (hn : n ≤ 1000) (fn : Int) (hfn : b.getD 0 0 = fn) (hnn3 : 0 ≤ atP b 3) (hnn4 : atP b 3 ≤ 65535) (had0 : 0 ≤ atP b 1) (t5 : (fn == 5) = false) (t6 : (fn == 6) = false) (t15 : (fn == 15) = true) (t16 : (fn == 16) = false) (t23 : (fn == 23) = false) (h6 : 6 ≤ n) (tx : (b.getD 5 0 != (atP b 3 + 7) / 8) = false) (ty : ((n : Int) != 6 + (atP b 3 + 7) / 8) = false) (N : Nat) (hN : (N : Int) = atP b 3) (o : Option AskP) (ho : Hid (o = some ⟨fn, atP b 1, 0, 0, unpackP (b.drop 6) N, []⟩)) : Calls Tryd.prog 128 #[.slice (some ⟨g, off, none⟩) n c] w (FPost w o) := gsG_15 g off n c b w hB hy8 hn0 hn fn hfn o (Or.inr (Or.inr (Or.inr ⟨hnn3, hnn4, had0, t5, t6, t15, t16, t23, h6, tx, ty, N, hN, ho⟩)))
end Go.Proofs.YtcipleanckeoaaaDoor
