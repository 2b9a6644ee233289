/- kilowattref19.guess: 23. -/
import Derived.Test.YtcipleanckeoaaaDoorYTk
import Derived.Test.YtcipleanckeoaaaDoorYPduGs
import Derived.Test.YtcipleanckeoaaaDoorYCommon
import Derived.Deep.AppendLies
set_option maxRecDepth 100000
set_option maxHeartbeats 40000000
namespace Go.Proofs.YtcipleanckeoaaaDoor
open Go.RowKit
set_option linter.unusedVariables false
theorem gsG_23 (g off n c : Nat) (b : List Int) (w : World) (hB : SlI w w.heap.size .u8 (some ⟨g, off, none⟩) n c b) (hy8 : Byte8 b) (hn0 : 0 < n) (hn : n ≤ 1000) (fn : Int) (hfn : b.getD 0 0 = fn) (o : Option AskP)
  (hc : ((0 ≤ atP b 3) ∧ (atP b 3 ≤ 65535) ∧ (0 ≤ atP b 1) ∧ ((fn == 5) = false) ∧ ((fn == 6) = false) ∧ ((fn == 15) = false) ∧ ((fn == 16) = false) ∧ ((fn == 23) = true) ∧ (atP b 5 < 0) ∧ (Hid (o = none))) ∨
   ((0 ≤ atP b 3) ∧ (atP b 3 ≤ 65535) ∧ (0 ≤ atP b 1) ∧ ((fn == 5) = false) ∧ ((fn == 6) = false) ∧ ((fn == 15) = false) ∧ ((fn == 16) = false) ∧ ((fn == 23) = true) ∧ (0 ≤ atP b 5) ∧ (atP b 7 < 0) ∧ (Hid (o = none))) ∨
   ((0 ≤ atP b 3) ∧ (atP b 3 ≤ 65535) ∧ (0 ≤ atP b 1) ∧ ((fn == 5) = false) ∧ ((fn == 6) = false) ∧ ((fn == 15) = false) ∧ ((fn == 16) = false) ∧ ((fn == 23) = true) ∧ (0 ≤ atP b 5) ∧ (atP b 5 ≤ 65535) ∧ (0 ≤ atP b 7) ∧ (atP b 7 ≤ 65535) ∧ (n ≤ 9) ∧ (Hid (o = none))) ∨
   ((0 ≤ atP b 3) ∧ (atP b 3 ≤ 65535) ∧ (0 ≤ atP b 1) ∧ ((fn == 5) = false) ∧ ((fn == 6) = false) ∧ ((fn == 15) = false) ∧ ((fn == 16) = false) ∧ ((fn == 23) = true) ∧ (0 ≤ atP b 5) ∧ (atP b 5 ≤ 65535) ∧ (0 ≤ atP b 7) ∧ (atP b 7 ≤ 65535) ∧ (10 ≤ n) ∧ ((b.getD 9 0 != 2 * atP b 7) = true) ∧ (Hid (o = none))) ∨
   ((0 ≤ atP b 3) ∧ (atP b 3 ≤ 65535) ∧ (0 ≤ atP b 1) ∧ ((fn == 5) = false) ∧ ((fn == 6) = false) ∧ ((fn == 15) = false) ∧ ((fn == 16) = false) ∧ ((fn == 23) = true) ∧ (0 ≤ atP b 5) ∧ (atP b 5 ≤ 65535) ∧ (0 ≤ atP b 7) ∧ (atP b 7 ≤ 65535) ∧ (10 ≤ n) ∧ ((b.getD 9 0 != 2 * atP b 7) = false) ∧ (((n : Int) != 10 + 2 * atP b 7) = true) ∧ (Hid (o = none))) ∨
   ((0 ≤ atP b 3) ∧ (atP b 3 ≤ 65535) ∧ (0 ≤ atP b 1) ∧ ((fn == 5) = false) ∧ ((fn == 6) = false) ∧ ((fn == 15) = false) ∧ ((fn == 16) = false) ∧ ((fn == 23) = true) ∧ (0 ≤ atP b 5) ∧ (atP b 5 ≤ 65535) ∧ (0 ≤ atP b 7) ∧ (atP b 7 ≤ 65535) ∧ (10 ≤ n) ∧ ((b.getD 9 0 != 2 * atP b 7) = false) ∧ (((n : Int) != 10 + 2 * atP b 7) = false) ∧ ∃ N : Nat, ((N : Int) = atP b 7) ∧ (Hid (o = some ⟨fn, atP b 1, atP b 3, atP b 5, [], wordsP (b.drop 10)⟩)))) :
  Calls Tryd.prog 128 #[.slice (some ⟨g, off, none⟩) n c] w (FPost w o) := by
 have HCS := Lib.hid hc
 clear hc
 obtain ⟨w1, hw1⟩ : ∃ w1, w.alloc (.cells #[.int .i64 0, .int .i64 0, .int .i64 0, .int .i64 0, .slice none 0 0, .slice none 0 0] 59) = w1 := ⟨_, rfl⟩
 have hb1 := zB1 hw1
 have hO1 := zH1 hw1
 have HW1 := Lib.hid hw1
 clear hw1
 have hu := Tryd.underlying59
 have hsz := zSz
 have hl := hB.1
 have hcap := hB.2.1
 have hfr : 0 ≤ fn ∧ fn < 256 := by
  rw [← hfn, List.getD, List.getElem?_eq_getElem (by omega)]
  exact hy8 _ (List.getElem_mem _)
 have hwf : IntKind.i64.wrap fn = fn := IntWalk.i64_in fn (by omega)
 have hn0' : (0 : Int) < (n : Int) := by omega
 have HC : Hid (∀ X, Below w.heap.size w X → ∀ i, i < n → X.cell? ⟨g, off + i, none⟩ = some (.int .u8 (b.getD i 0))) := Lib.hid (fun X h i hi => by
  obtain ⟨g', o', e, _, hc⟩ := (hB.up h).2.2.2.2 (by omega)
  injection e with e
  injection e with e1 e2
  subst e1 e2
  exact hc i _ (by rw [List.getD, List.getElem?_eq_getElem (by omega)]; rfl))
 have HC0 : Hid (∀ X, Below w.heap.size w X → X.cell? ⟨g, off, none⟩ = some (.int .u8 fn)) := Lib.hid (fun X h => by rw [← hfn]; exact HC.out X h 0 hn0)
 have HAT := Lib.hid (fun (i : Nat) (hi : i ≤ 1000000) (X : World) (h : Below w.heap.size w X) => at_any (some ⟨g, off, none⟩) n c b i hi X (hB.up h) hy8)
 have HB := Lib.hid (fun (X : World) (h : Below w.heap.size w X) => hB.up h)
 have HL := Lib.hid hl
 have HCP := Lib.hid hcap
 clear hB hl hcap hfn
 obtain ⟨ad, had⟩ : ∃ x, atP b 1 = x := ⟨_, rfl⟩
 have HAT1 : Hid (∀ X, Below w.heap.size w X → Calls Tryd.prog 151 #[.slice (some ⟨g, off, none⟩) n c, .int .i64 1] X fun e w' => e = .returned (.int .i64 ad) ∧ ∃ m, w' = X.drewN m) := Lib.hid (fun X h => by rw [← had]; exact HAT.out 1 (by omega) X h)
 obtain ⟨nn, hnn⟩ : ∃ x, atP b 3 = x := ⟨_, rfl⟩
 have HAT3 : Hid (∀ X, Below w.heap.size w X → Calls Tryd.prog 151 #[.slice (some ⟨g, off, none⟩) n c, .int .i64 3] X fun e w' => e = .returned (.int .i64 nn) ∧ ∃ m, w' = X.drewN m) := Lib.hid (fun X h => by rw [← hnn]; exact HAT.out 3 (by omega) X h)
 have HAD := Lib.hid had
 have HNN0 := Lib.hid hnn
 clear had hnn
 go_in
 go_upto_region 1 with fail
 rw [HW1.out]
 obtain ⟨gA, hgA⟩ : ∃ x, w1.heap.size = x := ⟨_, rfl⟩
 have HGL : Hid (w.heap.size < gA) := Lib.hid (by have := hO1.lt; omega)
 go_cut [4] from 9 (fun s4 wx => s4 = .pointer (some ⟨gA, 0, none⟩) ∧ Below w.heap.size w wx ∧ Held wx gA 59 #[.int .i64 fn, .int .i64 ad, .int .i64 0, .int .i64 0, .slice none 0 0, .slice none 0 0] ∧ Held wx w.heap.size 59 #[.int .i64 0, .int .i64 0, .int .i64 0, .int .i64 0, .slice none 0 0, .slice none 0 0])
 case first =>
  obtain ⟨w2, hw2⟩ : ∃ W : World, w1.drew = W := ⟨_, rfl⟩
  have hS2 : Below w.heap.size w w2 := by rw [← hw2]; exact hb1.drew
  have hg2 : w2.heap.size = gA := by rw [← hw2]; exact hgA
  have hO2 : Held w2 w.heap.size 59 #[.int .i64 0, .int .i64 0, .int .i64 0, .int .i64 0, .slice none 0 0, .slice none 0 0] := by rw [← hw2]; exact hO1
  refine wp_region_held (S := fun X => Below w.heap.size w X ∧ Held X w.heap.size 59 #[.int .i64 0, .int .i64 0, .int .i64 0, .int .i64 0, .slice none 0 0, .slice none 0 0]) (by kernel_rfl) ?_
  change wpAnyH _ _ _ _ _ _ _ _ w1.drew
  rw [hw2]
  clear hw2
  have hS : Below w.heap.size w w2 ∧ Held w2 w.heap.size 59 #[.int .i64 0, .int .i64 0, .int .i64 0, .int .i64 0, .slice none 0 0, .slice none 0 0] := ⟨hS2, hO2⟩
  refine zU 0 rfl hS ?_
  refine zU 1 rfl hS ?_
  refine zU 2 rfl hS ?_ (hy := fun W hH => by
   have c0 := HC0.out W hH.1
   go_simp
   with_reducible rfl)
  refine zU 3 rfl hS ?_
  refine zU 4 rfl hS ?_
  refine wpAnyH_ready (rs := [5, 7]) (by kernel_rfl) (by simp) ?_
  refine AllReadyH.cons rfl (fun K' hK' => ?_) (AllReadyH.cons rfl (fun K' hK' => ?_) AllReadyH.nil)
  ·skip
   go_simp
   refine (HAT1.out _ hS.1).mono ?_
   rintro e w' ⟨rfl, mc, rfl⟩
   go_simp
   refine hK'.out _ _ ⟨below_drewN hS.1 _, hS.2⟩ (fun hS => ?_)
   clear hK' K'
   refine zU 6 rfl hS ?_
   refine zR 7 rfl (fun K' hK' => ?_)
   go_simp
   refine hK'.out _ _ ⟨hS.1.alloc hS.1.size _, hS.2.alloc _⟩ (fun hS => ?_)
   clear hK' K'
   refine zR 8 rfl (fun K' hK' => ?_)
   go_simp
   have hS8 : Below w.heap.size w ((w2.drewN mc).alloc (.cells #[.int .i64 fn, .int .i64 ad, .int .i64 0, .int .i64 0, .slice none 0 0, .slice none 0 0] 59)) := (below_drewN hS2 mc).alloc (by have := hS2.size; simpa using this) _
   have hO8 : Held ((w2.drewN mc).alloc (.cells #[.int .i64 fn, .int .i64 ad, .int .i64 0, .int .i64 0, .slice none 0 0, .slice none 0 0] 59)) w.heap.size 59 #[.int .i64 0, .int .i64 0, .int .i64 0, .int .i64 0, .slice none 0 0, .slice none 0 0] := Held.alloc (W := w2.drewN mc) hO2 _
   have hA8 : Held ((w2.drewN mc).alloc (.cells #[.int .i64 fn, .int .i64 ad, .int .i64 0, .int .i64 0, .slice none 0 0, .slice none 0 0] 59)) gA 59 #[.int .i64 fn, .int .i64 ad, .int .i64 0, .int .i64 0, .slice none 0 0, .slice none 0 0] := hg2 ▸ Held.new (w2.drewN mc) 59 #[.int .i64 fn, .int .i64 ad, .int .i64 0, .int .i64 0, .slice none 0 0, .slice none 0 0]
   refine hK'.out _ _ ⟨hS8, hO8⟩ (fun hS => ?_)
   clear hK' K'
   refine wpAnyH_done (by kernel_rfl) ?_ _
   go_wp2_with fail
   go_meet
   case rel => exact ⟨rfl, hS.1, hA8, hS.2⟩
  ·skip
   go_simp
   refine hK'.out _ _ ⟨hS.1.alloc hS.1.size _, hS.2.alloc _⟩ (fun hS => ?_)
   clear hK' K'
   refine zR 5 rfl (fun K' hK' => ?_)
   go_simp
   refine (HAT1.out _ hS.1).mono ?_
   rintro e w' ⟨rfl, mc, rfl⟩
   go_simp
   refine hK'.out _ _ ⟨below_drewN hS.1 _, hS.2⟩ (fun hS => ?_)
   clear hK' K'
   refine zU 6 rfl hS ?_
   refine zR 8 rfl (fun K' hK' => ?_)
   go_simp
   have hB8 : Below w.heap.size w ((w2.alloc (.cells #[.int .i64 0, .int .i64 0, .int .i64 0, .int .i64 0, .slice none 0 0, .slice none 0 0] 59)).drewN mc) := below_drewN (hS2.alloc hS2.size _) mc
   have hO8_ : Held ((w2.alloc (.cells #[.int .i64 0, .int .i64 0, .int .i64 0, .int .i64 0, .slice none 0 0, .slice none 0 0] 59)).drewN mc) w.heap.size 59 #[.int .i64 0, .int .i64 0, .int .i64 0, .int .i64 0, .slice none 0 0, .slice none 0 0] := hO2.alloc _
   have hA8_ : Held ((w2.alloc (.cells #[.int .i64 0, .int .i64 0, .int .i64 0, .int .i64 0, .slice none 0 0, .slice none 0 0] 59)).drewN mc) gA 59 #[.int .i64 0, .int .i64 0, .int .i64 0, .int .i64 0, .slice none 0 0, .slice none 0 0] := hg2 ▸ Held.new w2 59 #[.int .i64 0, .int .i64 0, .int .i64 0, .int .i64 0, .slice none 0 0, .slice none 0 0]
   have hgl : w.heap.size < gA := by have := hO2.lt; omega
   have hS8 : Below w.heap.size w ((((((((w2.alloc (.cells #[.int .i64 0, .int .i64 0, .int .i64 0, .int .i64 0, .slice none 0 0, .slice none 0 0] 59)).drewN mc).setCell ⟨gA, 0, none⟩ (.int .i64 fn)).setCell ⟨gA, 1, none⟩ (.int .i64 ad)).setCell ⟨gA, 2, none⟩ (.int .i64 0)).setCell ⟨gA, 3, none⟩ (.int .i64 0)).setCell ⟨gA, 4, none⟩ (.slice none 0 0)).setCell ⟨gA, 5, none⟩ (.slice none 0 0)) := ((((((hB8.setCell (p := ⟨gA, 0, none⟩) (Nat.le_of_lt hgl) _).setCell (p := ⟨gA, 1, none⟩) (Nat.le_of_lt hgl) _).setCell (p := ⟨gA, 2, none⟩) (Nat.le_of_lt hgl) _).setCell (p := ⟨gA, 3, none⟩) (Nat.le_of_lt hgl) _).setCell (p := ⟨gA, 4, none⟩) (Nat.le_of_lt hgl) _).setCell (p := ⟨gA, 5, none⟩) (Nat.le_of_lt hgl) _)
   have hO8 : Held ((((((((w2.alloc (.cells #[.int .i64 0, .int .i64 0, .int .i64 0, .int .i64 0, .slice none 0 0, .slice none 0 0] 59)).drewN mc).setCell ⟨gA, 0, none⟩ (.int .i64 fn)).setCell ⟨gA, 1, none⟩ (.int .i64 ad)).setCell ⟨gA, 2, none⟩ (.int .i64 0)).setCell ⟨gA, 3, none⟩ (.int .i64 0)).setCell ⟨gA, 4, none⟩ (.slice none 0 0)).setCell ⟨gA, 5, none⟩ (.slice none 0 0)) w.heap.size 59 #[.int .i64 0, .int .i64 0, .int .i64 0, .int .i64 0, .slice none 0 0, .slice none 0 0] := ((((((hO8_.far (p := ⟨gA, 0, none⟩) (Nat.ne_of_lt hgl) _).far (p := ⟨gA, 1, none⟩) (Nat.ne_of_lt hgl) _).far (p := ⟨gA, 2, none⟩) (Nat.ne_of_lt hgl) _).far (p := ⟨gA, 3, none⟩) (Nat.ne_of_lt hgl) _).far (p := ⟨gA, 4, none⟩) (Nat.ne_of_lt hgl) _).far (p := ⟨gA, 5, none⟩) (Nat.ne_of_lt hgl) _)
   have hA8 : Held ((((((((w2.alloc (.cells #[.int .i64 0, .int .i64 0, .int .i64 0, .int .i64 0, .slice none 0 0, .slice none 0 0] 59)).drewN mc).setCell ⟨gA, 0, none⟩ (.int .i64 fn)).setCell ⟨gA, 1, none⟩ (.int .i64 ad)).setCell ⟨gA, 2, none⟩ (.int .i64 0)).setCell ⟨gA, 3, none⟩ (.int .i64 0)).setCell ⟨gA, 4, none⟩ (.slice none 0 0)).setCell ⟨gA, 5, none⟩ (.slice none 0 0)) gA 59 #[.int .i64 fn, .int .i64 ad, .int .i64 0, .int .i64 0, .slice none 0 0, .slice none 0 0] := ((((((hA8_.set 0 _).set 1 _).set 2 _).set 3 _).set 4 _).set 5 _)
   refine hK'.out _ _ ⟨hS8, hO8⟩ (fun hS => ?_)
   clear hK' K'
   refine wpAnyH_done (by kernel_rfl) ?_ _
   go_wp2_with fail
   go_meet
   case rel => exact ⟨rfl, hS.1, hA8, hS.2⟩
 case rest =>
 obtain ⟨rfl, hb3w, hA3, hO3⟩ := hcut
 obtain ⟨w3, rfl⟩ : ∃ W, W = wc := ⟨_, rfl⟩
 clear hO1 hb1 HW1 hgA
 go_wp2_with fail
 refine (HAT3.out w3 hb3w).mono ?_
 rintro e w4 ⟨rfl, m4, hw4⟩
 have hb4 : Below w3.heap.size w3 w4 := by rw [hw4]; exact below_drewN (Below.refl _ _) _
 clear hw4
 have hb4w := hb3w.trans (hb4.mono hb3w.size)
 have hO4 := hO3.below hb4 hO3.lt
 have hA4 := hA3.below hb4 hA3.lt
 rcases HCS.out with ⟨hnn3, hnn4, had0, t5, t6, t15, t16, t23, h23a, ho⟩ | ⟨hnn3, hnn4, had0, t5, t6, t15, t16, t23, h23a, h23c, ho⟩ | ⟨hnn3, hnn4, had0, t5, t6, t15, t16, t23, h23a, h23b, h23c, h23d, h6, ho⟩ | ⟨hnn3, hnn4, had0, t5, t6, t15, t16, t23, h23a, h23b, h23c, h23d, h6, tx, ho⟩ | ⟨hnn3, hnn4, had0, t5, t6, t15, t16, t23, h23a, h23b, h23c, h23d, h6, tx, ty, ho⟩ | ⟨hnn3, hnn4, had0, t5, t6, t15, t16, t23, h23a, h23b, h23c, h23d, h6, tx, ty, N, hN, ho⟩
 ·clear HCS
  have had := HAD.out
  have hnn := HNN0.out
  rw [hnn] at hnn3 hnn4
  rw [had] at had0
  have ta : decide (ad < 0) = false := decide_eq_false (by omega)
  have tn : decide (nn < 0) = false := decide_eq_false (by omega)
  obtain ⟨tt, htt⟩ : ∃ x, atP b 5 = x := ⟨_, rfl⟩
  have HAT5 : Hid (∀ X, Below w.heap.size w X → Calls Tryd.prog 151 #[.slice (some ⟨g, off, none⟩) n c, .int .i64 5] X fun e w' => e = .returned (.int .i64 tt) ∧ ∃ m, w' = X.drewN m) := Lib.hid (fun X h => by rw [← htt]; exact HAT.out 5 (by omega) X h)
  obtain ⟨mm, hmm⟩ : ∃ x, atP b 7 = x := ⟨_, rfl⟩
  have HAT7 : Hid (∀ X, Below w.heap.size w X → Calls Tryd.prog 151 #[.slice (some ⟨g, off, none⟩) n c, .int .i64 7] X fun e w' => e = .returned (.int .i64 mm) ∧ ∃ m, w' = X.drewN m) := Lib.hid (fun X h => by rw [← hmm]; exact HAT.out 7 (by omega) X h)
  rw [htt] at h23a
  have tt0 : decide (tt < 0) = true := decide_eq_true h23a
  clear had hnn htt hmm
  obtain ⟨o4_0, o4_1, o4_2, o4_3, o4_4, o4_5⟩ := six_cells hO4
  obtain ⟨a4_0, a4_1, a4_2, a4_3, a4_4, a4_5⟩ := six_cells hA4
  have fo4 := hO4.frozen
  have fa4 := hA4.frozen
  have zO4 := hO4.lt
  have zA4 := hA4.lt
  go_upto_region 25 with fail
  obtain ⟨w5, hw5⟩ : ∃ W, w4.setCell ⟨gA, 2, none⟩ (.int .i64 nn) = W := ⟨_, rfl⟩
  have hb5w : Below w.heap.size w w5 := by rw [← hw5]; exact hb4w.setCell (p := ⟨gA, 2, none⟩) (Nat.le_of_lt HGL.out) _
  have hO5 : Held w5 w.heap.size 59 #[.int .i64 0, .int .i64 0, .int .i64 0, .int .i64 0, .slice none 0 0, .slice none 0 0] := by rw [← hw5]; exact hO4.far (p := ⟨gA, 2, none⟩) (Nat.ne_of_lt HGL.out) _
  have hA5 : Held w5 gA 59 #[.int .i64 fn, .int .i64 ad, .int .i64 nn, .int .i64 0, .slice none 0 0, .slice none 0 0] := by rw [← hw5]; exact hA4.set 2 _
  rw [hw5]
  clear hw5
  obtain ⟨o5_0, o5_1, o5_2, o5_3, o5_4, o5_5⟩ := six_cells hO5
  obtain ⟨a5_0, a5_1, a5_2, a5_3, a5_4, a5_5⟩ := six_cells hA5
  have fo5 := hO5.frozen
  have fa5 := hA5.frozen
  have zO5 := hO5.lt
  have zA5 := hA5.lt
  go_wp2_with fail
  refine (HAT5.out w5 hb5w).mono ?_
  rintro e w6 ⟨rfl, m6, hw6⟩
  have hb6 : Below w5.heap.size w5 w6 := by rw [hw6]; exact below_drewN (Below.refl _ _) _
  clear hw6
  have hb6w := hb5w.trans (hb6.mono hb5w.size)
  have hO6 := hO5.below hb6 hO5.lt
  have hA6 := hA5.below hb6 hA5.lt
  obtain ⟨o6_0, o6_1, o6_2, o6_3, o6_4, o6_5⟩ := six_cells hO6
  obtain ⟨a6_0, a6_1, a6_2, a6_3, a6_4, a6_5⟩ := six_cells hA6
  have fo6 := hO6.frozen
  have fa6 := hA6.frozen
  have zO6 := hO6.lt
  have zA6 := hA6.lt
  go_upto_region 26 with fail
  obtain ⟨w7, hw7⟩ : ∃ W, w6.setCell ⟨gA, 3, none⟩ (.int .i64 tt) = W := ⟨_, rfl⟩
  have hb7w : Below w.heap.size w w7 := by rw [← hw7]; exact hb6w.setCell (p := ⟨gA, 3, none⟩) (Nat.le_of_lt HGL.out) _
  have hO7 : Held w7 w.heap.size 59 #[.int .i64 0, .int .i64 0, .int .i64 0, .int .i64 0, .slice none 0 0, .slice none 0 0] := by rw [← hw7]; exact hO6.far (p := ⟨gA, 3, none⟩) (Nat.ne_of_lt HGL.out) _
  have hA7 : Held w7 gA 59 #[.int .i64 fn, .int .i64 ad, .int .i64 nn, .int .i64 tt, .slice none 0 0, .slice none 0 0] := by rw [← hw7]; exact hA6.set 3 _
  rw [hw7]
  clear hw7
  go_wp2_with fail
  refine (HAT7.out w7 hb7w).mono ?_
  rintro e w8 ⟨rfl, m8, hw8⟩
  have hb8 : Below w7.heap.size w7 w8 := by rw [hw8]; exact below_drewN (Below.refl _ _) _
  clear hw8
  have hb8w := hb7w.trans (hb8.mono hb7w.size)
  have hO8 := hO7.below hb8 hO7.lt
  have hA8 := hA7.below hb8 hA7.lt
  obtain ⟨o8_0, o8_1, o8_2, o8_3, o8_4, o8_5⟩ := six_cells hO8
  obtain ⟨a8_0, a8_1, a8_2, a8_3, a8_4, a8_5⟩ := six_cells hA8
  have fo8 := hO8.frozen
  have fa8 := hA8.frozen
  have zO8 := hO8.lt
  have zA8 := hA8.lt
  go_wp2_with ((with_reducible refine at_loadT 59 4 ?_); refine wpList_load_rowG rfl 59 (.tmp 4) rfl gA rfl 59 _ _ hA8 hu rfl hsz ?_)
  obtain ⟨wz, hwz, hbz, hZ, hoff⟩ := six hb8w hO8 (Nat.le_refl _) (.int .i64 fn) (.int .i64 ad) (.int .i64 nn) (.int .i64 tt) (.slice none 0 0) (.slice none 0 0)
  obtain ⟨z0, z1, z2, z3, z4, z5⟩ := six_cells hZ
  rw [hwz]
  have HP : FPost w o (.returned (.tuple #[.agg #[.int .i64 fn, .int .i64 ad, .int .i64 nn, .int .i64 tt, .slice none 0 0, .slice none 0 0], .bool false])) wz := fpost (p := ⟨fn, ad, nn, tt, [], []⟩) (q := false) ho ⟨_, _, _, _, _, _, rfl, SlB.nil _ _, SlI.nil _ _ _⟩ hbz
  clear hwz
  exact bodyPost_ret (v := .tuple #[.agg #[.int .i64 fn, .int .i64 ad, .int .i64 nn, .int .i64 tt, .slice none 0 0, .slice none 0 0], .bool false]) (by simp [results, Tryd.results128, go_sem, z0, z1, z2, z3, z4, z5]) rfl HP
 ·clear HCS
  have had := HAD.out
  have hnn := HNN0.out
  rw [hnn] at hnn3 hnn4
  rw [had] at had0
  have ta : decide (ad < 0) = false := decide_eq_false (by omega)
  have tn : decide (nn < 0) = false := decide_eq_false (by omega)
  obtain ⟨tt, htt⟩ : ∃ x, atP b 5 = x := ⟨_, rfl⟩
  have HAT5 : Hid (∀ X, Below w.heap.size w X → Calls Tryd.prog 151 #[.slice (some ⟨g, off, none⟩) n c, .int .i64 5] X fun e w' => e = .returned (.int .i64 tt) ∧ ∃ m, w' = X.drewN m) := Lib.hid (fun X h => by rw [← htt]; exact HAT.out 5 (by omega) X h)
  obtain ⟨mm, hmm⟩ : ∃ x, atP b 7 = x := ⟨_, rfl⟩
  have HAT7 : Hid (∀ X, Below w.heap.size w X → Calls Tryd.prog 151 #[.slice (some ⟨g, off, none⟩) n c, .int .i64 7] X fun e w' => e = .returned (.int .i64 mm) ∧ ∃ m, w' = X.drewN m) := Lib.hid (fun X h => by rw [← hmm]; exact HAT.out 7 (by omega) X h)
  rw [htt] at h23a
  rw [hmm] at h23c
  have tt0 : decide (tt < 0) = false := decide_eq_false (by omega)
  have tm0 : decide (mm < 0) = true := decide_eq_true h23c
  clear had hnn htt hmm
  obtain ⟨o4_0, o4_1, o4_2, o4_3, o4_4, o4_5⟩ := six_cells hO4
  obtain ⟨a4_0, a4_1, a4_2, a4_3, a4_4, a4_5⟩ := six_cells hA4
  have fo4 := hO4.frozen
  have fa4 := hA4.frozen
  have zO4 := hO4.lt
  have zA4 := hA4.lt
  go_upto_region 25 with fail
  obtain ⟨w5, hw5⟩ : ∃ W, w4.setCell ⟨gA, 2, none⟩ (.int .i64 nn) = W := ⟨_, rfl⟩
  have hb5w : Below w.heap.size w w5 := by rw [← hw5]; exact hb4w.setCell (p := ⟨gA, 2, none⟩) (Nat.le_of_lt HGL.out) _
  have hO5 : Held w5 w.heap.size 59 #[.int .i64 0, .int .i64 0, .int .i64 0, .int .i64 0, .slice none 0 0, .slice none 0 0] := by rw [← hw5]; exact hO4.far (p := ⟨gA, 2, none⟩) (Nat.ne_of_lt HGL.out) _
  have hA5 : Held w5 gA 59 #[.int .i64 fn, .int .i64 ad, .int .i64 nn, .int .i64 0, .slice none 0 0, .slice none 0 0] := by rw [← hw5]; exact hA4.set 2 _
  rw [hw5]
  clear hw5
  obtain ⟨o5_0, o5_1, o5_2, o5_3, o5_4, o5_5⟩ := six_cells hO5
  obtain ⟨a5_0, a5_1, a5_2, a5_3, a5_4, a5_5⟩ := six_cells hA5
  have fo5 := hO5.frozen
  have fa5 := hA5.frozen
  have zO5 := hO5.lt
  have zA5 := hA5.lt
  go_wp2_with fail
  refine (HAT5.out w5 hb5w).mono ?_
  rintro e w6 ⟨rfl, m6, hw6⟩
  have hb6 : Below w5.heap.size w5 w6 := by rw [hw6]; exact below_drewN (Below.refl _ _) _
  clear hw6
  have hb6w := hb5w.trans (hb6.mono hb5w.size)
  have hO6 := hO5.below hb6 hO5.lt
  have hA6 := hA5.below hb6 hA5.lt
  obtain ⟨o6_0, o6_1, o6_2, o6_3, o6_4, o6_5⟩ := six_cells hO6
  obtain ⟨a6_0, a6_1, a6_2, a6_3, a6_4, a6_5⟩ := six_cells hA6
  have fo6 := hO6.frozen
  have fa6 := hA6.frozen
  have zO6 := hO6.lt
  have zA6 := hA6.lt
  go_upto_region 26 with fail
  obtain ⟨w7, hw7⟩ : ∃ W, w6.setCell ⟨gA, 3, none⟩ (.int .i64 tt) = W := ⟨_, rfl⟩
  have hb7w : Below w.heap.size w w7 := by rw [← hw7]; exact hb6w.setCell (p := ⟨gA, 3, none⟩) (Nat.le_of_lt HGL.out) _
  have hO7 : Held w7 w.heap.size 59 #[.int .i64 0, .int .i64 0, .int .i64 0, .int .i64 0, .slice none 0 0, .slice none 0 0] := by rw [← hw7]; exact hO6.far (p := ⟨gA, 3, none⟩) (Nat.ne_of_lt HGL.out) _
  have hA7 : Held w7 gA 59 #[.int .i64 fn, .int .i64 ad, .int .i64 nn, .int .i64 tt, .slice none 0 0, .slice none 0 0] := by rw [← hw7]; exact hA6.set 3 _
  rw [hw7]
  clear hw7
  go_wp2_with fail
  refine (HAT7.out w7 hb7w).mono ?_
  rintro e w8 ⟨rfl, m8, hw8⟩
  have hb8 : Below w7.heap.size w7 w8 := by rw [hw8]; exact below_drewN (Below.refl _ _) _
  clear hw8
  have hb8w := hb7w.trans (hb8.mono hb7w.size)
  have hO8 := hO7.below hb8 hO7.lt
  have hA8 := hA7.below hb8 hA7.lt
  obtain ⟨o8_0, o8_1, o8_2, o8_3, o8_4, o8_5⟩ := six_cells hO8
  obtain ⟨a8_0, a8_1, a8_2, a8_3, a8_4, a8_5⟩ := six_cells hA8
  have fo8 := hO8.frozen
  have fa8 := hA8.frozen
  have zO8 := hO8.lt
  have zA8 := hA8.lt
  go_wp2_with ((with_reducible refine at_loadT 59 4 ?_); refine wpList_load_rowG rfl 59 (.tmp 4) rfl gA rfl 59 _ _ hA8 hu rfl hsz ?_)
  obtain ⟨wz, hwz, hbz, hZ, hoff⟩ := six hb8w hO8 (Nat.le_refl _) (.int .i64 fn) (.int .i64 ad) (.int .i64 nn) (.int .i64 tt) (.slice none 0 0) (.slice none 0 0)
  obtain ⟨z0, z1, z2, z3, z4, z5⟩ := six_cells hZ
  rw [hwz]
  have HP : FPost w o (.returned (.tuple #[.agg #[.int .i64 fn, .int .i64 ad, .int .i64 nn, .int .i64 tt, .slice none 0 0, .slice none 0 0], .bool false])) wz := fpost (p := ⟨fn, ad, nn, tt, [], []⟩) (q := false) ho ⟨_, _, _, _, _, _, rfl, SlB.nil _ _, SlI.nil _ _ _⟩ hbz
  clear hwz
  exact bodyPost_ret (v := .tuple #[.agg #[.int .i64 fn, .int .i64 ad, .int .i64 nn, .int .i64 tt, .slice none 0 0, .slice none 0 0], .bool false]) (by simp [results, Tryd.results128, go_sem, z0, z1, z2, z3, z4, z5]) rfl HP
 ·clear HCS
  have had := HAD.out
  have hnn := HNN0.out
  rw [hnn] at hnn3 hnn4
  rw [had] at had0
  have ta : decide (ad < 0) = false := decide_eq_false (by omega)
  have tn : decide (nn < 0) = false := decide_eq_false (by omega)
  obtain ⟨tt, htt⟩ : ∃ x, atP b 5 = x := ⟨_, rfl⟩
  have HAT5 : Hid (∀ X, Below w.heap.size w X → Calls Tryd.prog 151 #[.slice (some ⟨g, off, none⟩) n c, .int .i64 5] X fun e w' => e = .returned (.int .i64 tt) ∧ ∃ m, w' = X.drewN m) := Lib.hid (fun X h => by rw [← htt]; exact HAT.out 5 (by omega) X h)
  obtain ⟨mm, hmm⟩ : ∃ x, atP b 7 = x := ⟨_, rfl⟩
  have HAT7 : Hid (∀ X, Below w.heap.size w X → Calls Tryd.prog 151 #[.slice (some ⟨g, off, none⟩) n c, .int .i64 7] X fun e w' => e = .returned (.int .i64 mm) ∧ ∃ m, w' = X.drewN m) := Lib.hid (fun X h => by rw [← hmm]; exact HAT.out 7 (by omega) X h)
  rw [htt] at h23a h23b
  rw [hmm] at h23c h23d
  have tt0 : decide (tt < 0) = false := decide_eq_false (by omega)
  have tm0 : decide (mm < 0) = false := decide_eq_false (by omega)
  have tln : decide ((n : Int) ≤ 9) = true := decide_eq_true (by omega)
  have ww6 : IntKind.i64.wrap 10 = 10 := IntWalk.i64_in _ (by omega)
  have ww7 : IntKind.i64.wrap (2 * mm) = 2 * mm := IntWalk.i64_in _ (by omega)
  have ww8 : IntKind.i64.wrap (10 + 2 * mm) = 10 + 2 * mm := IntWalk.i64_in _ (by omega)
  clear had hnn htt hmm
  obtain ⟨o4_0, o4_1, o4_2, o4_3, o4_4, o4_5⟩ := six_cells hO4
  obtain ⟨a4_0, a4_1, a4_2, a4_3, a4_4, a4_5⟩ := six_cells hA4
  have fo4 := hO4.frozen
  have fa4 := hA4.frozen
  have zO4 := hO4.lt
  have zA4 := hA4.lt
  go_upto_region 25 with fail
  obtain ⟨w5, hw5⟩ : ∃ W, w4.setCell ⟨gA, 2, none⟩ (.int .i64 nn) = W := ⟨_, rfl⟩
  have hb5w : Below w.heap.size w w5 := by rw [← hw5]; exact hb4w.setCell (p := ⟨gA, 2, none⟩) (Nat.le_of_lt HGL.out) _
  have hO5 : Held w5 w.heap.size 59 #[.int .i64 0, .int .i64 0, .int .i64 0, .int .i64 0, .slice none 0 0, .slice none 0 0] := by rw [← hw5]; exact hO4.far (p := ⟨gA, 2, none⟩) (Nat.ne_of_lt HGL.out) _
  have hA5 : Held w5 gA 59 #[.int .i64 fn, .int .i64 ad, .int .i64 nn, .int .i64 0, .slice none 0 0, .slice none 0 0] := by rw [← hw5]; exact hA4.set 2 _
  rw [hw5]
  clear hw5
  obtain ⟨o5_0, o5_1, o5_2, o5_3, o5_4, o5_5⟩ := six_cells hO5
  obtain ⟨a5_0, a5_1, a5_2, a5_3, a5_4, a5_5⟩ := six_cells hA5
  have fo5 := hO5.frozen
  have fa5 := hA5.frozen
  have zO5 := hO5.lt
  have zA5 := hA5.lt
  go_wp2_with fail
  refine (HAT5.out w5 hb5w).mono ?_
  rintro e w6 ⟨rfl, m6, hw6⟩
  have hb6 : Below w5.heap.size w5 w6 := by rw [hw6]; exact below_drewN (Below.refl _ _) _
  clear hw6
  have hb6w := hb5w.trans (hb6.mono hb5w.size)
  have hO6 := hO5.below hb6 hO5.lt
  have hA6 := hA5.below hb6 hA5.lt
  obtain ⟨o6_0, o6_1, o6_2, o6_3, o6_4, o6_5⟩ := six_cells hO6
  obtain ⟨a6_0, a6_1, a6_2, a6_3, a6_4, a6_5⟩ := six_cells hA6
  have fo6 := hO6.frozen
  have fa6 := hA6.frozen
  have zO6 := hO6.lt
  have zA6 := hA6.lt
  go_upto_region 26 with fail
  obtain ⟨w7, hw7⟩ : ∃ W, w6.setCell ⟨gA, 3, none⟩ (.int .i64 tt) = W := ⟨_, rfl⟩
  have hb7w : Below w.heap.size w w7 := by rw [← hw7]; exact hb6w.setCell (p := ⟨gA, 3, none⟩) (Nat.le_of_lt HGL.out) _
  have hO7 : Held w7 w.heap.size 59 #[.int .i64 0, .int .i64 0, .int .i64 0, .int .i64 0, .slice none 0 0, .slice none 0 0] := by rw [← hw7]; exact hO6.far (p := ⟨gA, 3, none⟩) (Nat.ne_of_lt HGL.out) _
  have hA7 : Held w7 gA 59 #[.int .i64 fn, .int .i64 ad, .int .i64 nn, .int .i64 tt, .slice none 0 0, .slice none 0 0] := by rw [← hw7]; exact hA6.set 3 _
  rw [hw7]
  clear hw7
  go_wp2_with fail
  refine (HAT7.out w7 hb7w).mono ?_
  rintro e w8 ⟨rfl, m8, hw8⟩
  have hb8 : Below w7.heap.size w7 w8 := by rw [hw8]; exact below_drewN (Below.refl _ _) _
  clear hw8
  have hb8w := hb7w.trans (hb8.mono hb7w.size)
  have hO8 := hO7.below hb8 hO7.lt
  have hA8 := hA7.below hb8 hA7.lt
  obtain ⟨o8_0, o8_1, o8_2, o8_3, o8_4, o8_5⟩ := six_cells hO8
  obtain ⟨a8_0, a8_1, a8_2, a8_3, a8_4, a8_5⟩ := six_cells hA8
  have fo8 := hO8.frozen
  have fa8 := hA8.frozen
  have zO8 := hO8.lt
  have zA8 := hA8.lt
  go_wp2_with ((with_reducible refine at_loadT 59 4 ?_); refine wpList_load_rowG rfl 59 (.tmp 4) rfl gA rfl 59 _ _ hA8 hu rfl hsz ?_)
  obtain ⟨wz, hwz, hbz, hZ, hoff⟩ := six hb8w hO8 (Nat.le_refl _) (.int .i64 fn) (.int .i64 ad) (.int .i64 nn) (.int .i64 tt) (.slice none 0 0) (.slice none 0 0)
  obtain ⟨z0, z1, z2, z3, z4, z5⟩ := six_cells hZ
  rw [hwz]
  have HP : FPost w o (.returned (.tuple #[.agg #[.int .i64 fn, .int .i64 ad, .int .i64 nn, .int .i64 tt, .slice none 0 0, .slice none 0 0], .bool false])) wz := fpost (p := ⟨fn, ad, nn, tt, [], []⟩) (q := false) ho ⟨_, _, _, _, _, _, rfl, SlB.nil _ _, SlI.nil _ _ _⟩ hbz
  clear hwz
  exact bodyPost_ret (v := .tuple #[.agg #[.int .i64 fn, .int .i64 ad, .int .i64 nn, .int .i64 tt, .slice none 0 0, .slice none 0 0], .bool false]) (by simp [results, Tryd.results128, go_sem, z0, z1, z2, z3, z4, z5]) rfl HP
 ·clear HCS
  have had := HAD.out
  have hnn := HNN0.out
  rw [hnn] at hnn3 hnn4
  rw [had] at had0
  have ta : decide (ad < 0) = false := decide_eq_false (by omega)
  have tn : decide (nn < 0) = false := decide_eq_false (by omega)
  obtain ⟨tt, htt⟩ : ∃ x, atP b 5 = x := ⟨_, rfl⟩
  have HAT5 : Hid (∀ X, Below w.heap.size w X → Calls Tryd.prog 151 #[.slice (some ⟨g, off, none⟩) n c, .int .i64 5] X fun e w' => e = .returned (.int .i64 tt) ∧ ∃ m, w' = X.drewN m) := Lib.hid (fun X h => by rw [← htt]; exact HAT.out 5 (by omega) X h)
  obtain ⟨mm, hmm⟩ : ∃ x, atP b 7 = x := ⟨_, rfl⟩
  have HAT7 : Hid (∀ X, Below w.heap.size w X → Calls Tryd.prog 151 #[.slice (some ⟨g, off, none⟩) n c, .int .i64 7] X fun e w' => e = .returned (.int .i64 mm) ∧ ∃ m, w' = X.drewN m) := Lib.hid (fun X h => by rw [← hmm]; exact HAT.out 7 (by omega) X h)
  rw [htt] at h23a h23b
  rw [hmm] at h23c h23d
  have tt0 : decide (tt < 0) = false := decide_eq_false (by omega)
  have tm0 : decide (mm < 0) = false := decide_eq_false (by omega)
  rw [hmm] at tx
  have tln : decide ((n : Int) ≤ 9) = false := decide_eq_false (by omega)
  have b5r : 0 ≤ b.getD 9 0 ∧ b.getD 9 0 < 256 := by
   rw [List.getD, List.getElem?_eq_getElem (by rw [HL.out]; omega)]
   exact hy8 _ (List.getElem_mem _)
  obtain ⟨b5, hb5⟩ : ∃ x, b.getD 9 0 = x := ⟨_, rfl⟩
  rw [hb5] at b5r tx
  have wb5 : IntKind.i64.wrap b5 = b5 := IntWalk.i64_in _ (by omega)
  have HC5 : Hid (∀ X, Below w.heap.size w X → X.cell? ⟨g, off + 9, none⟩ = some (.int .u8 b5)) := Lib.hid (fun X h => by rw [← hb5]; exact HC.out X h 9 (by omega))
  have h5n : (9 : Int) < (n : Int) := by omega
  have h5n' : 9 < n := by omega
  clear hb5
  have ww6 : IntKind.i64.wrap 10 = 10 := IntWalk.i64_in _ (by omega)
  have ww7 : IntKind.i64.wrap (2 * mm) = 2 * mm := IntWalk.i64_in _ (by omega)
  have ww8 : IntKind.i64.wrap (10 + 2 * mm) = 10 + 2 * mm := IntWalk.i64_in _ (by omega)
  clear had hnn htt hmm
  obtain ⟨o4_0, o4_1, o4_2, o4_3, o4_4, o4_5⟩ := six_cells hO4
  obtain ⟨a4_0, a4_1, a4_2, a4_3, a4_4, a4_5⟩ := six_cells hA4
  have fo4 := hO4.frozen
  have fa4 := hA4.frozen
  have zO4 := hO4.lt
  have zA4 := hA4.lt
  go_upto_region 25 with fail
  obtain ⟨w5, hw5⟩ : ∃ W, w4.setCell ⟨gA, 2, none⟩ (.int .i64 nn) = W := ⟨_, rfl⟩
  have hb5w : Below w.heap.size w w5 := by rw [← hw5]; exact hb4w.setCell (p := ⟨gA, 2, none⟩) (Nat.le_of_lt HGL.out) _
  have hO5 : Held w5 w.heap.size 59 #[.int .i64 0, .int .i64 0, .int .i64 0, .int .i64 0, .slice none 0 0, .slice none 0 0] := by rw [← hw5]; exact hO4.far (p := ⟨gA, 2, none⟩) (Nat.ne_of_lt HGL.out) _
  have hA5 : Held w5 gA 59 #[.int .i64 fn, .int .i64 ad, .int .i64 nn, .int .i64 0, .slice none 0 0, .slice none 0 0] := by rw [← hw5]; exact hA4.set 2 _
  rw [hw5]
  clear hw5
  obtain ⟨o5_0, o5_1, o5_2, o5_3, o5_4, o5_5⟩ := six_cells hO5
  obtain ⟨a5_0, a5_1, a5_2, a5_3, a5_4, a5_5⟩ := six_cells hA5
  have fo5 := hO5.frozen
  have fa5 := hA5.frozen
  have zO5 := hO5.lt
  have zA5 := hA5.lt
  go_wp2_with fail
  refine (HAT5.out w5 hb5w).mono ?_
  rintro e w6 ⟨rfl, m6, hw6⟩
  have hb6 : Below w5.heap.size w5 w6 := by rw [hw6]; exact below_drewN (Below.refl _ _) _
  clear hw6
  have hb6w := hb5w.trans (hb6.mono hb5w.size)
  have hO6 := hO5.below hb6 hO5.lt
  have hA6 := hA5.below hb6 hA5.lt
  obtain ⟨o6_0, o6_1, o6_2, o6_3, o6_4, o6_5⟩ := six_cells hO6
  obtain ⟨a6_0, a6_1, a6_2, a6_3, a6_4, a6_5⟩ := six_cells hA6
  have fo6 := hO6.frozen
  have fa6 := hA6.frozen
  have zO6 := hO6.lt
  have zA6 := hA6.lt
  go_upto_region 26 with fail
  obtain ⟨w7, hw7⟩ : ∃ W, w6.setCell ⟨gA, 3, none⟩ (.int .i64 tt) = W := ⟨_, rfl⟩
  have hb7w : Below w.heap.size w w7 := by rw [← hw7]; exact hb6w.setCell (p := ⟨gA, 3, none⟩) (Nat.le_of_lt HGL.out) _
  have hO7 : Held w7 w.heap.size 59 #[.int .i64 0, .int .i64 0, .int .i64 0, .int .i64 0, .slice none 0 0, .slice none 0 0] := by rw [← hw7]; exact hO6.far (p := ⟨gA, 3, none⟩) (Nat.ne_of_lt HGL.out) _
  have hA7 : Held w7 gA 59 #[.int .i64 fn, .int .i64 ad, .int .i64 nn, .int .i64 tt, .slice none 0 0, .slice none 0 0] := by rw [← hw7]; exact hA6.set 3 _
  rw [hw7]
  clear hw7
  go_wp2_with fail
  refine (HAT7.out w7 hb7w).mono ?_
  rintro e w8 ⟨rfl, m8, hw8⟩
  have hb8 : Below w7.heap.size w7 w8 := by rw [hw8]; exact below_drewN (Below.refl _ _) _
  clear hw8
  have hb8w := hb7w.trans (hb8.mono hb7w.size)
  have hO8 := hO7.below hb8 hO7.lt
  have hA8 := hA7.below hb8 hA7.lt
  obtain ⟨o8_0, o8_1, o8_2, o8_3, o8_4, o8_5⟩ := six_cells hO8
  obtain ⟨a8_0, a8_1, a8_2, a8_3, a8_4, a8_5⟩ := six_cells hA8
  have fo8 := hO8.frozen
  have fa8 := hA8.frozen
  have zO8 := hO8.lt
  have zA8 := hA8.lt
  have c5 := HC5.out w8 hb8w
  go_wp2_with ((with_reducible refine at_loadT 59 4 ?_); refine wpList_load_rowG rfl 59 (.tmp 4) rfl gA rfl 59 _ _ hA8 hu rfl hsz ?_)
  obtain ⟨wz, hwz, hbz, hZ, hoff⟩ := six hb8w hO8 (Nat.le_refl _) (.int .i64 fn) (.int .i64 ad) (.int .i64 nn) (.int .i64 tt) (.slice none 0 0) (.slice none 0 0)
  obtain ⟨z0, z1, z2, z3, z4, z5⟩ := six_cells hZ
  rw [hwz]
  have HP : FPost w o (.returned (.tuple #[.agg #[.int .i64 fn, .int .i64 ad, .int .i64 nn, .int .i64 tt, .slice none 0 0, .slice none 0 0], .bool false])) wz := fpost (p := ⟨fn, ad, nn, tt, [], []⟩) (q := false) ho ⟨_, _, _, _, _, _, rfl, SlB.nil _ _, SlI.nil _ _ _⟩ hbz
  clear hwz
  exact bodyPost_ret (v := .tuple #[.agg #[.int .i64 fn, .int .i64 ad, .int .i64 nn, .int .i64 tt, .slice none 0 0, .slice none 0 0], .bool false]) (by simp [results, Tryd.results128, go_sem, z0, z1, z2, z3, z4, z5]) rfl HP
 ·clear HCS
  have had := HAD.out
  have hnn := HNN0.out
  rw [hnn] at hnn3 hnn4
  rw [had] at had0
  have ta : decide (ad < 0) = false := decide_eq_false (by omega)
  have tn : decide (nn < 0) = false := decide_eq_false (by omega)
  obtain ⟨tt, htt⟩ : ∃ x, atP b 5 = x := ⟨_, rfl⟩
  have HAT5 : Hid (∀ X, Below w.heap.size w X → Calls Tryd.prog 151 #[.slice (some ⟨g, off, none⟩) n c, .int .i64 5] X fun e w' => e = .returned (.int .i64 tt) ∧ ∃ m, w' = X.drewN m) := Lib.hid (fun X h => by rw [← htt]; exact HAT.out 5 (by omega) X h)
  obtain ⟨mm, hmm⟩ : ∃ x, atP b 7 = x := ⟨_, rfl⟩
  have HAT7 : Hid (∀ X, Below w.heap.size w X → Calls Tryd.prog 151 #[.slice (some ⟨g, off, none⟩) n c, .int .i64 7] X fun e w' => e = .returned (.int .i64 mm) ∧ ∃ m, w' = X.drewN m) := Lib.hid (fun X h => by rw [← hmm]; exact HAT.out 7 (by omega) X h)
  rw [htt] at h23a h23b
  rw [hmm] at h23c h23d
  have tt0 : decide (tt < 0) = false := decide_eq_false (by omega)
  have tm0 : decide (mm < 0) = false := decide_eq_false (by omega)
  rw [hmm] at tx ty
  have tln : decide ((n : Int) ≤ 9) = false := decide_eq_false (by omega)
  have b5r : 0 ≤ b.getD 9 0 ∧ b.getD 9 0 < 256 := by
   rw [List.getD, List.getElem?_eq_getElem (by rw [HL.out]; omega)]
   exact hy8 _ (List.getElem_mem _)
  obtain ⟨b5, hb5⟩ : ∃ x, b.getD 9 0 = x := ⟨_, rfl⟩
  rw [hb5] at b5r tx
  have wb5 : IntKind.i64.wrap b5 = b5 := IntWalk.i64_in _ (by omega)
  have HC5 : Hid (∀ X, Below w.heap.size w X → X.cell? ⟨g, off + 9, none⟩ = some (.int .u8 b5)) := Lib.hid (fun X h => by rw [← hb5]; exact HC.out X h 9 (by omega))
  have h5n : (9 : Int) < (n : Int) := by omega
  have h5n' : 9 < n := by omega
  clear hb5
  have ww6 : IntKind.i64.wrap 10 = 10 := IntWalk.i64_in _ (by omega)
  have ww7 : IntKind.i64.wrap (2 * mm) = 2 * mm := IntWalk.i64_in _ (by omega)
  have ww8 : IntKind.i64.wrap (10 + 2 * mm) = 10 + 2 * mm := IntWalk.i64_in _ (by omega)
  clear had hnn htt hmm
  obtain ⟨o4_0, o4_1, o4_2, o4_3, o4_4, o4_5⟩ := six_cells hO4
  obtain ⟨a4_0, a4_1, a4_2, a4_3, a4_4, a4_5⟩ := six_cells hA4
  have fo4 := hO4.frozen
  have fa4 := hA4.frozen
  have zO4 := hO4.lt
  have zA4 := hA4.lt
  go_upto_region 25 with fail
  obtain ⟨w5, hw5⟩ : ∃ W, w4.setCell ⟨gA, 2, none⟩ (.int .i64 nn) = W := ⟨_, rfl⟩
  have hb5w : Below w.heap.size w w5 := by rw [← hw5]; exact hb4w.setCell (p := ⟨gA, 2, none⟩) (Nat.le_of_lt HGL.out) _
  have hO5 : Held w5 w.heap.size 59 #[.int .i64 0, .int .i64 0, .int .i64 0, .int .i64 0, .slice none 0 0, .slice none 0 0] := by rw [← hw5]; exact hO4.far (p := ⟨gA, 2, none⟩) (Nat.ne_of_lt HGL.out) _
  have hA5 : Held w5 gA 59 #[.int .i64 fn, .int .i64 ad, .int .i64 nn, .int .i64 0, .slice none 0 0, .slice none 0 0] := by rw [← hw5]; exact hA4.set 2 _
  rw [hw5]
  clear hw5
  obtain ⟨o5_0, o5_1, o5_2, o5_3, o5_4, o5_5⟩ := six_cells hO5
  obtain ⟨a5_0, a5_1, a5_2, a5_3, a5_4, a5_5⟩ := six_cells hA5
  have fo5 := hO5.frozen
  have fa5 := hA5.frozen
  have zO5 := hO5.lt
  have zA5 := hA5.lt
  go_wp2_with fail
  refine (HAT5.out w5 hb5w).mono ?_
  rintro e w6 ⟨rfl, m6, hw6⟩
  have hb6 : Below w5.heap.size w5 w6 := by rw [hw6]; exact below_drewN (Below.refl _ _) _
  clear hw6
  have hb6w := hb5w.trans (hb6.mono hb5w.size)
  have hO6 := hO5.below hb6 hO5.lt
  have hA6 := hA5.below hb6 hA5.lt
  obtain ⟨o6_0, o6_1, o6_2, o6_3, o6_4, o6_5⟩ := six_cells hO6
  obtain ⟨a6_0, a6_1, a6_2, a6_3, a6_4, a6_5⟩ := six_cells hA6
  have fo6 := hO6.frozen
  have fa6 := hA6.frozen
  have zO6 := hO6.lt
  have zA6 := hA6.lt
  go_upto_region 26 with fail
  obtain ⟨w7, hw7⟩ : ∃ W, w6.setCell ⟨gA, 3, none⟩ (.int .i64 tt) = W := ⟨_, rfl⟩
  have hb7w : Below w.heap.size w w7 := by rw [← hw7]; exact hb6w.setCell (p := ⟨gA, 3, none⟩) (Nat.le_of_lt HGL.out) _
  have hO7 : Held w7 w.heap.size 59 #[.int .i64 0, .int .i64 0, .int .i64 0, .int .i64 0, .slice none 0 0, .slice none 0 0] := by rw [← hw7]; exact hO6.far (p := ⟨gA, 3, none⟩) (Nat.ne_of_lt HGL.out) _
  have hA7 : Held w7 gA 59 #[.int .i64 fn, .int .i64 ad, .int .i64 nn, .int .i64 tt, .slice none 0 0, .slice none 0 0] := by rw [← hw7]; exact hA6.set 3 _
  rw [hw7]
  clear hw7
  go_wp2_with fail
  refine (HAT7.out w7 hb7w).mono ?_
  rintro e w8 ⟨rfl, m8, hw8⟩
  have hb8 : Below w7.heap.size w7 w8 := by rw [hw8]; exact below_drewN (Below.refl _ _) _
  clear hw8
  have hb8w := hb7w.trans (hb8.mono hb7w.size)
  have hO8 := hO7.below hb8 hO7.lt
  have hA8 := hA7.below hb8 hA7.lt
  obtain ⟨o8_0, o8_1, o8_2, o8_3, o8_4, o8_5⟩ := six_cells hO8
  obtain ⟨a8_0, a8_1, a8_2, a8_3, a8_4, a8_5⟩ := six_cells hA8
  have fo8 := hO8.frozen
  have fa8 := hA8.frozen
  have zO8 := hO8.lt
  have zA8 := hA8.lt
  have c5 := HC5.out w8 hb8w
  go_wp2_with ((with_reducible refine at_loadT 59 4 ?_); refine wpList_load_rowG rfl 59 (.tmp 4) rfl gA rfl 59 _ _ hA8 hu rfl hsz ?_)
  obtain ⟨wz, hwz, hbz, hZ, hoff⟩ := six hb8w hO8 (Nat.le_refl _) (.int .i64 fn) (.int .i64 ad) (.int .i64 nn) (.int .i64 tt) (.slice none 0 0) (.slice none 0 0)
  obtain ⟨z0, z1, z2, z3, z4, z5⟩ := six_cells hZ
  rw [hwz]
  have HP : FPost w o (.returned (.tuple #[.agg #[.int .i64 fn, .int .i64 ad, .int .i64 nn, .int .i64 tt, .slice none 0 0, .slice none 0 0], .bool false])) wz := fpost (p := ⟨fn, ad, nn, tt, [], []⟩) (q := false) ho ⟨_, _, _, _, _, _, rfl, SlB.nil _ _, SlI.nil _ _ _⟩ hbz
  clear hwz
  exact bodyPost_ret (v := .tuple #[.agg #[.int .i64 fn, .int .i64 ad, .int .i64 nn, .int .i64 tt, .slice none 0 0, .slice none 0 0], .bool false]) (by simp [results, Tryd.results128, go_sem, z0, z1, z2, z3, z4, z5]) rfl HP
 ·clear HCS
  have had := HAD.out
  have hnn := HNN0.out
  rw [hnn] at hnn3 hnn4
  rw [had] at had0
  have ta : decide (ad < 0) = false := decide_eq_false (by omega)
  have tn : decide (nn < 0) = false := decide_eq_false (by omega)
  obtain ⟨tt, htt⟩ : ∃ x, atP b 5 = x := ⟨_, rfl⟩
  have HAT5 : Hid (∀ X, Below w.heap.size w X → Calls Tryd.prog 151 #[.slice (some ⟨g, off, none⟩) n c, .int .i64 5] X fun e w' => e = .returned (.int .i64 tt) ∧ ∃ m, w' = X.drewN m) := Lib.hid (fun X h => by rw [← htt]; exact HAT.out 5 (by omega) X h)
  obtain ⟨mm, hmm⟩ : ∃ x, atP b 7 = x := ⟨_, rfl⟩
  have HAT7 : Hid (∀ X, Below w.heap.size w X → Calls Tryd.prog 151 #[.slice (some ⟨g, off, none⟩) n c, .int .i64 7] X fun e w' => e = .returned (.int .i64 mm) ∧ ∃ m, w' = X.drewN m) := Lib.hid (fun X h => by rw [← hmm]; exact HAT.out 7 (by omega) X h)
  rw [htt] at h23a h23b
  rw [hmm] at h23c h23d
  have tt0 : decide (tt < 0) = false := decide_eq_false (by omega)
  have tm0 : decide (mm < 0) = false := decide_eq_false (by omega)
  rw [hmm] at tx ty hN
  rw [had, hnn, htt] at ho
  have tln : decide ((n : Int) ≤ 9) = false := decide_eq_false (by omega)
  have b5r : 0 ≤ b.getD 9 0 ∧ b.getD 9 0 < 256 := by
   rw [List.getD, List.getElem?_eq_getElem (by rw [HL.out]; omega)]
   exact hy8 _ (List.getElem_mem _)
  obtain ⟨b5, hb5⟩ : ∃ x, b.getD 9 0 = x := ⟨_, rfl⟩
  rw [hb5] at b5r tx
  have wb5 : IntKind.i64.wrap b5 = b5 := IntWalk.i64_in _ (by omega)
  have HC5 : Hid (∀ X, Below w.heap.size w X → X.cell? ⟨g, off + 9, none⟩ = some (.int .u8 b5)) := Lib.hid (fun X h => by rw [← hb5]; exact HC.out X h 9 (by omega))
  have h5n : (9 : Int) < (n : Int) := by omega
  have h5n' : 9 < n := by omega
  clear hb5
  have ww6 : IntKind.i64.wrap 10 = 10 := IntWalk.i64_in _ (by omega)
  have ww7 : IntKind.i64.wrap (2 * mm) = 2 * mm := IntWalk.i64_in _ (by omega)
  have ww8 : IntKind.i64.wrap (10 + 2 * mm) = 10 + 2 * mm := IntWalk.i64_in _ (by omega)
  have hNn : (n : Int) = 10 + 2 * mm := by simpa using ty
  have hN1 : (N : Int) ≤ mm := by omega
  have hN2 : mm ≤ (N : Int) := by omega
  have hNl : 2 * N + 10 ≤ n := by omega
  have hNl2 : n ≤ 2 * N + 10 := by omega
  clear hN hNn
  clear had hnn htt hmm
  obtain ⟨o4_0, o4_1, o4_2, o4_3, o4_4, o4_5⟩ := six_cells hO4
  obtain ⟨a4_0, a4_1, a4_2, a4_3, a4_4, a4_5⟩ := six_cells hA4
  have fo4 := hO4.frozen
  have fa4 := hA4.frozen
  have zO4 := hO4.lt
  have zA4 := hA4.lt
  go_upto_region 25 with fail
  obtain ⟨w5, hw5⟩ : ∃ W, w4.setCell ⟨gA, 2, none⟩ (.int .i64 nn) = W := ⟨_, rfl⟩
  have hb5w : Below w.heap.size w w5 := by rw [← hw5]; exact hb4w.setCell (p := ⟨gA, 2, none⟩) (Nat.le_of_lt HGL.out) _
  have hO5 : Held w5 w.heap.size 59 #[.int .i64 0, .int .i64 0, .int .i64 0, .int .i64 0, .slice none 0 0, .slice none 0 0] := by rw [← hw5]; exact hO4.far (p := ⟨gA, 2, none⟩) (Nat.ne_of_lt HGL.out) _
  have hA5 : Held w5 gA 59 #[.int .i64 fn, .int .i64 ad, .int .i64 nn, .int .i64 0, .slice none 0 0, .slice none 0 0] := by rw [← hw5]; exact hA4.set 2 _
  rw [hw5]
  clear hw5
  obtain ⟨o5_0, o5_1, o5_2, o5_3, o5_4, o5_5⟩ := six_cells hO5
  obtain ⟨a5_0, a5_1, a5_2, a5_3, a5_4, a5_5⟩ := six_cells hA5
  have fo5 := hO5.frozen
  have fa5 := hA5.frozen
  have zO5 := hO5.lt
  have zA5 := hA5.lt
  go_wp2_with fail
  refine (HAT5.out w5 hb5w).mono ?_
  rintro e w6 ⟨rfl, m6, hw6⟩
  have hb6 : Below w5.heap.size w5 w6 := by rw [hw6]; exact below_drewN (Below.refl _ _) _
  clear hw6
  have hb6w := hb5w.trans (hb6.mono hb5w.size)
  have hO6 := hO5.below hb6 hO5.lt
  have hA6 := hA5.below hb6 hA5.lt
  obtain ⟨o6_0, o6_1, o6_2, o6_3, o6_4, o6_5⟩ := six_cells hO6
  obtain ⟨a6_0, a6_1, a6_2, a6_3, a6_4, a6_5⟩ := six_cells hA6
  have fo6 := hO6.frozen
  have fa6 := hA6.frozen
  have zO6 := hO6.lt
  have zA6 := hA6.lt
  go_upto_region 26 with fail
  obtain ⟨w7, hw7⟩ : ∃ W, w6.setCell ⟨gA, 3, none⟩ (.int .i64 tt) = W := ⟨_, rfl⟩
  have hb7w : Below w.heap.size w w7 := by rw [← hw7]; exact hb6w.setCell (p := ⟨gA, 3, none⟩) (Nat.le_of_lt HGL.out) _
  have hO7 : Held w7 w.heap.size 59 #[.int .i64 0, .int .i64 0, .int .i64 0, .int .i64 0, .slice none 0 0, .slice none 0 0] := by rw [← hw7]; exact hO6.far (p := ⟨gA, 3, none⟩) (Nat.ne_of_lt HGL.out) _
  have hA7 : Held w7 gA 59 #[.int .i64 fn, .int .i64 ad, .int .i64 nn, .int .i64 tt, .slice none 0 0, .slice none 0 0] := by rw [← hw7]; exact hA6.set 3 _
  rw [hw7]
  clear hw7
  go_wp2_with fail
  refine (HAT7.out w7 hb7w).mono ?_
  rintro e w8 ⟨rfl, m8, hw8⟩
  have hb8 : Below w7.heap.size w7 w8 := by rw [hw8]; exact below_drewN (Below.refl _ _) _
  clear hw8
  have hb8w := hb7w.trans (hb8.mono hb7w.size)
  have hO8 := hO7.below hb8 hO7.lt
  have hA8 := hA7.below hb8 hA7.lt
  obtain ⟨o8_0, o8_1, o8_2, o8_3, o8_4, o8_5⟩ := six_cells hO8
  obtain ⟨a8_0, a8_1, a8_2, a8_3, a8_4, a8_5⟩ := six_cells hA8
  have fo8 := hO8.frozen
  have fa8 := hA8.frozen
  have zO8 := hO8.lt
  have zA8 := hA8.lt
  have c5 := HC5.out w8 hb8w
  go_upto_region 30 with fail
  clear tx ty c5 ww7 ww8 wb5
  obtain ⟨i0, hi, hz0, hz1', hz2'⟩ := info_parts infoW
  have hzA0 := hA8.lt
  go_wp2_with fail
  go_loopw [8] (fun u wx => ∃ (k : Nat) (v : Value), k ≤ N ∧ u = .int .i64 (k : Int) ∧ Held wx gA 59 #[.int .i64 fn, .int .i64 ad, .int .i64 nn, .int .i64 tt, .slice none 0 0, v] ∧ wx.ownsRow w8.heap.size 45 1 v k (((wordsP (b.drop 10)).take k).map (Value.int .u16)) ∧ Held wx w.heap.size 59 #[.int .i64 0, .int .i64 0, .int .i64 0, .int .i64 0, .slice none 0 0, .slice none 0 0] ∧ Below w.heap.size w wx ∧ w8.heap.size ≤ wx.heap.size) (fun u _ => N - (intOf u).toNat)
  case atStart => exact ⟨0, .slice none 0 0, by omega, rfl, hA8, World.ownsRow_nil _ _ _ _, hO8, hb8w, Nat.le_refl _⟩
  case round =>
  obtain ⟨k, v, hk, rfl, hAwr, hrow, hOwr, hbwr, hge⟩ := hrel
  have hzwr := hbwr.size
  have awr0 : wr.cell? ⟨gA, 0, none⟩ = some (.int .i64 fn) := hAwr.cell 0
  have awr1 : wr.cell? ⟨gA, 1, none⟩ = some (.int .i64 ad) := hAwr.cell 1
  have awr2 : wr.cell? ⟨gA, 2, none⟩ = some (.int .i64 nn) := hAwr.cell 2
  have awr3 : wr.cell? ⟨gA, 3, none⟩ = some (.int .i64 tt) := hAwr.cell 3
  have awr4 : wr.cell? ⟨gA, 4, none⟩ = some (.slice none 0 0) := hAwr.cell 4
  have awr5 : wr.cell? ⟨gA, 5, none⟩ = some (v) := hAwr.cell 5
  by_cases hlt : k < N
  ·skip
   have ht1 : (k : Int) < mm := by omega
   obtain ⟨wd, hwd⟩ : ∃ wd : World, wr.drew = wd := ⟨_, rfl⟩
   have hb0 := zB3 hwd
   have hbdw : Below w.heap.size w wd := hbwr.trans (hb0.mono hbwr.size)
   have hOwd := hOwr.below hb0 hOwr.lt
   have hRwd := hAwr.below hb0 hAwr.lt
   have hrowd := own_up hrow hb0
   have hzd1 : wd.heap.size ≤ wr.heap.size := by rw [← hwd]; exact Nat.le_refl _
   have hzd2 : wr.heap.size ≤ wd.heap.size := by rw [← hwd]; exact Nat.le_refl _
   have hrv : wd.cell? ⟨gA, 5, none⟩ = some v := hRwd.cell 5
   have hzRd := hRwd.lt
   have hgl := HGL.out
   have hat0 := fun (X : World) (h : Below w.heap.size w X) => HAT.out (10 + 2 * k) (by omega) X h
   rw [gs_at_drop b 10 k (by rw [HL.out]; omega), show ((10 + 2 * k : Nat) : Int) = 10 + 2 * (k : Int) by omega] at hat0
   obtain ⟨x0w, x1w⟩ := gs_wordP_in (b.drop 10) (fun x hx => hy8 x (List.mem_of_mem_drop hx)) (2 * k) (by rw [List.length_drop, HL.out]; omega)
   have HSN := Lib.hid (gs_words_take (b.drop 10) k (by rw [wordsP_len, List.length_drop, HL.out]; omega))
   obtain ⟨X, hX⟩ : ∃ X, wordP (b.drop 10) (2 * k) = X := ⟨_, rfl⟩
   simp only [hX] at hat0 x0w x1w HSN
   have HAX := Lib.hid hat0
   clear hat0 hX
   have wm0 : IntKind.i64.wrap 10 = 10 := IntWalk.i64_in _ (by omega)
   have wm1 : IntKind.i64.wrap (2 * (k : Int)) = 2 * (k : Int) := IntWalk.i64_in _ (by omega)
   have wm2 : IntKind.i64.wrap (10 + 2 * (k : Int)) = 10 + 2 * (k : Int) := IntWalk.i64_in _ (by omega)
   have wm3 : IntKind.u16.wrap X = X := IntWalk.u16_in _ (by omega)
   go_wp2_with fail
   refine wp_region_held (S := Below w.heap.size w) (by kernel_rfl) ?_
   change wpAnyH _ _ _ _ _ _ _ _ wr.drew
   rw [hwd]
   have hS : Below w.heap.size w wd := hbdw
   refine zU 0 rfl hS ?_
   refine zU 2 rfl hS ?_
   refine zU 3 rfl hS ?_
   refine zU 4 rfl hS ?_
   refine zU 5 rfl hS ?_
   refine zU 6 rfl hS ?_
   refine zU 7 rfl hS ?_
   refine wpAnyH_ready (rs := [1, 8]) (by kernel_rfl) (by simp) ?_
   refine AllReadyH.cons rfl (fun K' hK' => ?_) (AllReadyH.cons rfl (fun K' hK' => ?_) AllReadyH.nil)
   ·skip
    go_simp
    refine hK'.out _ _ hS (fun hS => ?_)
    clear hK' K'
    refine zR 8 rfl (fun K' hK' => ?_)
    go_simp
    refine (HAX.out wd hbdw).mono ?_
    rintro e wc ⟨rfl, mc, hwc⟩
    have hbc : Below wd.heap.size wd wc := by rw [hwc]; exact below_drewN (Below.refl _ _) _
    have hzc1 : wc.heap.size ≤ wd.heap.size := by rw [hwc]; exact Nat.le_refl _
    have hzc2 : wd.heap.size ≤ wc.heap.size := by rw [hwc]; exact Nat.le_refl _
    have hrowc := own_up hrowd hbc
    have hRc := hRwd.below hbc hRwd.lt
    have hrvc := hRc.cell 5
    have hrvc' : wc.cell? ⟨gA, 5, none⟩ = some v := hrvc
    have hOc := hOwd.below hbc hOwd.lt
    have hzRc := hRc.lt
    have hSc : Below w.heap.size w wc := hbdw.trans (hbc.mono hbdw.size)
    clear hwc
    go_simp
    refine hK'.out _ _ hSc (fun hS => ?_)
    clear hK' K'
    refine zU 9 rfl hS ?_
    refine zR 10 rfl (fun K' hK' => ?_)
    go_simp
    have hzX : w8.heap.size ≤ wc.heap.size := by omega
    refine hK'.out _ _ (hS.alloc hS.size _) (fun hS => ?_)
    clear hK' K'
    refine zR 11 rfl (fun K' hK' => ?_)
    refine step_append_lies _ (by rfl) _ _ _ (by rfl) w8.heap.size 45 i0 (.int .u16 0) 1 2 Tryd.underlying27 hi hz0 hz1' hz2' rfl (by decide) v k _ (by rfl) (hrowc.alloc (.cells #[.int .u16 X] 45)) ⟨wc.heap.size, 0, none⟩ 1 1 [.int .u16 X] (by rfl) (by rfl) (World.news_of_block (cs := #[.int .u16 X]) (t := 45) (fr := (0, 0)) (heap_alloc_new wc _)) (by simp [Value.oneCell']) (by omega) (by unfold maxLen; omega) (by omega) (by simp; omega) (wc.heap.size + 1) (by simp) ?_
    intro gg cc wa own' hgr hat hlt2
    have hne : ∀ B, B < w8.heap.size → some B ≠ v.ownBlock := fun B hB e => by have := (hrowc.lt B e.symm).1; omega
    have hRa : Held wa gA 59 #[.int .i64 fn, .int .i64 ad, .int .i64 nn, .int .i64 tt, .slice none 0 0, v] := (hRc.alloc _).kept hgr (hne _ (by omega))
    have hOa : Held wa w.heap.size 59 #[.int .i64 0, .int .i64 0, .int .i64 0, .int .i64 0, .slice none 0 0, .slice none 0 0] := (hOc.alloc _).kept hgr (hne _ (by omega))
    have hSa : Below w.heap.size w wa := hS.grown hgr (by rw [World.size_alloc]; omega) (fun B hB => by have := (hrowc.lt B hB).1; omega)
    have hra : wa.cell? ⟨gA, 5, none⟩ = some v := hRa.cell 5
    have hfa := hRa.frozen
    have hga := own'.lt gg rfl
    have hgea : w8.heap.size ≤ wa.heap.size := by omega
    have ho2 := gs_own_off own' (B := gA) (by omega) 5 (.slice (some ⟨gg, 0, none⟩) (k + 1) cc)
    clear hS hgr hat
    refine hK'.out _ _ hSa (fun hS => ?_)
    clear hK' K'
    refine zU 12 rfl hS ?_
    refine zR 13 rfl (fun K' hK' => ?_)
    go_simp
    have hSs : Below w.heap.size w (wa.setCell ⟨gA, 5, none⟩ (.slice (some ⟨gg, 0, none⟩) (k + 1) cc)) := hSa.setCell (p := ⟨gA, 5, none⟩) (Nat.le_of_lt HGL.out) _
    clear hS
    refine hK'.out _ _ hSs (fun hS => ?_)
    clear hK' K'
    refine wpAnyH_done (by kernel_rfl) ?_ _
    go_wp2_with fail
    go_roundw
    case rel => exact ⟨k + 1, (.slice (some ⟨gg, 0, none⟩) (k + 1) cc), by omega, by go_num, hRa.set 5 _, by rw [HSN.out, List.map_append]; exact ho2, hOa.far (p := ⟨gA, 5, none⟩) (Nat.ne_of_lt HGL.out) _, hSs, by show w8.heap.size ≤ _; rw [World.size_setCell]; exact hgea⟩
    case measure => simp [intOf]; omega
   ·skip
    go_simp
    refine (HAX.out wd hbdw).mono ?_
    rintro e wc ⟨rfl, mc, hwc⟩
    have hbc : Below wd.heap.size wd wc := by rw [hwc]; exact below_drewN (Below.refl _ _) _
    have hzc1 : wc.heap.size ≤ wd.heap.size := by rw [hwc]; exact Nat.le_refl _
    have hzc2 : wd.heap.size ≤ wc.heap.size := by rw [hwc]; exact Nat.le_refl _
    have hrowc := own_up hrowd hbc
    have hRc := hRwd.below hbc hRwd.lt
    have hrvc := hRc.cell 5
    have hrvc' : wc.cell? ⟨gA, 5, none⟩ = some v := hrvc
    have hOc := hOwd.below hbc hOwd.lt
    have hzRc := hRc.lt
    have hSc : Below w.heap.size w wc := hbdw.trans (hbc.mono hbdw.size)
    clear hwc
    go_simp
    refine hK'.out _ _ hSc (fun hS => ?_)
    clear hK' K'
    refine zU 9 rfl hS ?_
    refine wpAnyH_ready (rs := [1, 10]) (by kernel_rfl) (by simp) ?_
    refine AllReadyH.cons rfl (fun K' hK' => ?_) (AllReadyH.cons rfl (fun K' hK' => ?_) AllReadyH.nil)
    ·skip
     go_simp
     refine hK'.out _ _ hS (fun hS => ?_)
     clear hK' K'
     refine zR 10 rfl (fun K' hK' => ?_)
     go_simp
     have hzX : w8.heap.size ≤ wc.heap.size := by omega
     refine hK'.out _ _ (hS.alloc hS.size _) (fun hS => ?_)
     clear hK' K'
     refine zR 11 rfl (fun K' hK' => ?_)
     refine step_append_lies _ (by rfl) _ _ _ (by rfl) w8.heap.size 45 i0 (.int .u16 0) 1 2 Tryd.underlying27 hi hz0 hz1' hz2' rfl (by decide) v k _ (by rfl) (hrowc.alloc (.cells #[.int .u16 X] 45)) ⟨wc.heap.size, 0, none⟩ 1 1 [.int .u16 X] (by rfl) (by rfl) (World.news_of_block (cs := #[.int .u16 X]) (t := 45) (fr := (0, 0)) (heap_alloc_new wc _)) (by simp [Value.oneCell']) (by omega) (by unfold maxLen; omega) (by omega) (by simp; omega) (wc.heap.size + 1) (by simp) ?_
     intro gg cc wa own' hgr hat hlt2
     have hne : ∀ B, B < w8.heap.size → some B ≠ v.ownBlock := fun B hB e => by have := (hrowc.lt B e.symm).1; omega
     have hRa : Held wa gA 59 #[.int .i64 fn, .int .i64 ad, .int .i64 nn, .int .i64 tt, .slice none 0 0, v] := (hRc.alloc _).kept hgr (hne _ (by omega))
     have hOa : Held wa w.heap.size 59 #[.int .i64 0, .int .i64 0, .int .i64 0, .int .i64 0, .slice none 0 0, .slice none 0 0] := (hOc.alloc _).kept hgr (hne _ (by omega))
     have hSa : Below w.heap.size w wa := hS.grown hgr (by rw [World.size_alloc]; omega) (fun B hB => by have := (hrowc.lt B hB).1; omega)
     have hra : wa.cell? ⟨gA, 5, none⟩ = some v := hRa.cell 5
     have hfa := hRa.frozen
     have hga := own'.lt gg rfl
     have hgea : w8.heap.size ≤ wa.heap.size := by omega
     have ho2 := gs_own_off own' (B := gA) (by omega) 5 (.slice (some ⟨gg, 0, none⟩) (k + 1) cc)
     clear hS hgr hat
     refine hK'.out _ _ hSa (fun hS => ?_)
     clear hK' K'
     refine zU 12 rfl hS ?_
     refine zR 13 rfl (fun K' hK' => ?_)
     go_simp
     have hSs : Below w.heap.size w (wa.setCell ⟨gA, 5, none⟩ (.slice (some ⟨gg, 0, none⟩) (k + 1) cc)) := hSa.setCell (p := ⟨gA, 5, none⟩) (Nat.le_of_lt HGL.out) _
     clear hS
     refine hK'.out _ _ hSs (fun hS => ?_)
     clear hK' K'
     refine wpAnyH_done (by kernel_rfl) ?_ _
     go_wp2_with fail
     go_roundw
     case rel => exact ⟨k + 1, (.slice (some ⟨gg, 0, none⟩) (k + 1) cc), by omega, by go_num, hRa.set 5 _, by rw [HSN.out, List.map_append]; exact ho2, hOa.far (p := ⟨gA, 5, none⟩) (Nat.ne_of_lt HGL.out) _, hSs, by show w8.heap.size ≤ _; rw [World.size_setCell]; exact hgea⟩
     case measure => simp [intOf]; omega
    ·skip
     go_simp
     have hzX : w8.heap.size ≤ wc.heap.size := by omega
     refine hK'.out _ _ (hS.alloc hS.size _) (fun hS => ?_)
     clear hK' K'
     refine zR 1 rfl (fun K' hK' => ?_)
     go_simp
     refine hK'.out _ _ hS (fun hS => ?_)
     clear hK' K'
     refine zR 11 rfl (fun K' hK' => ?_)
     refine step_append_lies _ (by rfl) _ _ _ (by rfl) w8.heap.size 45 i0 (.int .u16 0) 1 2 Tryd.underlying27 hi hz0 hz1' hz2' rfl (by decide) v k _ (by rfl) (hrowc.alloc (.cells #[.int .u16 X] 45)) ⟨wc.heap.size, 0, none⟩ 1 1 [.int .u16 X] (by rfl) (by rfl) (World.news_of_block (cs := #[.int .u16 X]) (t := 45) (fr := (0, 0)) (heap_alloc_new wc _)) (by simp [Value.oneCell']) (by omega) (by unfold maxLen; omega) (by omega) (by simp; omega) (wc.heap.size + 1) (by simp) ?_
     intro gg cc wa own' hgr hat hlt2
     have hne : ∀ B, B < w8.heap.size → some B ≠ v.ownBlock := fun B hB e => by have := (hrowc.lt B e.symm).1; omega
     have hRa : Held wa gA 59 #[.int .i64 fn, .int .i64 ad, .int .i64 nn, .int .i64 tt, .slice none 0 0, v] := (hRc.alloc _).kept hgr (hne _ (by omega))
     have hOa : Held wa w.heap.size 59 #[.int .i64 0, .int .i64 0, .int .i64 0, .int .i64 0, .slice none 0 0, .slice none 0 0] := (hOc.alloc _).kept hgr (hne _ (by omega))
     have hSa : Below w.heap.size w wa := hS.grown hgr (by rw [World.size_alloc]; omega) (fun B hB => by have := (hrowc.lt B hB).1; omega)
     have hra : wa.cell? ⟨gA, 5, none⟩ = some v := hRa.cell 5
     have hfa := hRa.frozen
     have hga := own'.lt gg rfl
     have hgea : w8.heap.size ≤ wa.heap.size := by omega
     have ho2 := gs_own_off own' (B := gA) (by omega) 5 (.slice (some ⟨gg, 0, none⟩) (k + 1) cc)
     clear hS hgr hat
     refine hK'.out _ _ hSa (fun hS => ?_)
     clear hK' K'
     refine zU 12 rfl hS ?_
     refine zR 13 rfl (fun K' hK' => ?_)
     go_simp
     have hSs : Below w.heap.size w (wa.setCell ⟨gA, 5, none⟩ (.slice (some ⟨gg, 0, none⟩) (k + 1) cc)) := hSa.setCell (p := ⟨gA, 5, none⟩) (Nat.le_of_lt HGL.out) _
     clear hS
     refine hK'.out _ _ hSs (fun hS => ?_)
     clear hK' K'
     refine wpAnyH_done (by kernel_rfl) ?_ _
     go_wp2_with fail
     go_roundw
     case rel => exact ⟨k + 1, (.slice (some ⟨gg, 0, none⟩) (k + 1) cc), by omega, by go_num, hRa.set 5 _, by rw [HSN.out, List.map_append]; exact ho2, hOa.far (p := ⟨gA, 5, none⟩) (Nat.ne_of_lt HGL.out) _, hSs, by show w8.heap.size ≤ _; rw [World.size_setCell]; exact hgea⟩
     case measure => simp [intOf]; omega
  ·obtain rfl : k = N := by omega
   obtain ⟨Au, cu, rfl, sv⟩ := SlI.of_own (xs := (wordsP (b.drop 10)).take k) hrow
   have ht1 : ¬ (k : Int) < mm := by omega
   have htk : (wordsP (b.drop 10)).take k = wordsP (b.drop 10) := List.take_of_length_le (by rw [wordsP_len, List.length_drop, HL.out]; omega)
   rw [htk] at sv
   obtain ⟨w9, rfl⟩ : ∃ W, W = wr := ⟨_, rfl⟩
   have hA9 := hAwr
   have hO9 := hOwr
   have hb9w := hbwr
   have sv9 := sv
   obtain ⟨o9_0, o9_1, o9_2, o9_3, o9_4, o9_5⟩ := six_cells hO9
   obtain ⟨a9_0, a9_1, a9_2, a9_3, a9_4, a9_5⟩ := six_cells hA9
   have fo9 := hO9.frozen
   have fa9 := hA9.frozen
   have zO9 := hO9.lt
   have zA9 := hA9.lt
   go_wp2_with ((with_reducible refine at_loadT 59 4 ?_); refine wpList_load_rowG rfl 59 (.tmp 4) rfl gA rfl 59 _ _ hA9 hu rfl hsz ?_)
   obtain ⟨wz, hwz, hbz, hZ, hoff⟩ := six hb9w hO9 (Nat.le_refl _) (.int .i64 fn) (.int .i64 ad) (.int .i64 nn) (.int .i64 tt) (.slice none 0 0) (.slice Au k cu)
   obtain ⟨z0, z1, z2, z3, z4, z5⟩ := six_cells hZ
   rw [hwz]
   have HP : FPost w o (.returned (.tuple #[.agg #[.int .i64 fn, .int .i64 ad, .int .i64 nn, .int .i64 tt, .slice none 0 0, .slice Au k cu], .bool true])) wz := fpost (q := true) ho ⟨_, _, _, _, _, _, rfl, SlB.nil _ _, sv9.off hoff hO9 (by intro v hv x e; subst e; simp at hv)⟩ hbz
   clear hwz
   exact bodyPost_ret (v := .tuple #[.agg #[.int .i64 fn, .int .i64 ad, .int .i64 nn, .int .i64 tt, .slice none 0 0, .slice Au k cu], .bool true]) (by simp [results, Tryd.results128, go_sem, z0, z1, z2, z3, z4, z5]) rfl HP
theorem gs_23t (g off n c : Nat) (b : List Int) (w : World) (hB : SlI w w.heap.size .u8 (some ⟨g, off, none⟩) n c b) (hy8 : Byte8 b) (hn0 : 0 < n) (hn : n ≤ 1000) (fn : Int) (hfn : b.getD 0 0 = fn) (hnn3 : 0 ≤ atP b 3) (hnn4 : atP b 3 ≤ 65535) (had0 : 0 ≤ atP b 1) (t5 : (fn == 5) = false) (t6 : (fn == 6) = false) (t15 : (fn == 15) = false) (t16 : (fn == 16) = false) (t23 : (fn == 23) = true) (h23a : atP b 5 < 0) (o : Option AskP) (ho : Hid (o = none)) : Calls Tryd.prog 128 #[.slice (some ⟨g, off, none⟩) n c] w (FPost w o) := gsG_23 g off n c b w hB hy8 hn0 hn fn hfn o (Or.inl ⟨hnn3, hnn4, had0, t5, t6, t15, t16, t23, h23a, ho⟩)
theorem gs_23m (g off n c : Nat) (b : List Int) (w : World) (hB : SlI w w.heap.size .u8 (some ⟨g, off, none⟩) n c b) (hy8 : Byte8 b) (hn0 : 0 < n) (hn : n ≤ 1000) (fn : Int) (hfn : b.getD 0 0 = fn) (hnn3 : 0 ≤ atP b 3) (hnn4 : atP b 3 ≤ 65535) (had0 : 0 ≤ atP b 1) (t5 : (fn == 5) = false) (t6 : (fn == 6) = false) (t15 : (fn == 15) = false) (t16 : (fn == 16) = false) (t23 : (fn == 23) = true) (h23a : 0 ≤ atP b 5) (h23c : atP b 7 < 0) (o : Option AskP) (ho : Hid (o = none)) : Calls Tryd.prog 128 #[.slice (some ⟨g, off, none⟩) n c] w (FPost w o) := gsG_23 g off n c b w hB hy8 hn0 hn fn hfn o (Or.inr (Or.inl ⟨hnn3, hnn4, had0, t5, t6, t15, t16, t23, h23a, h23c, ho⟩))
theorem gs_23l (g off n c : Nat) (b : List Int) (w : World) (hB : SlI w w.heap.size .u8 (some ⟨g, off, none⟩) n c b) (hy8 : Byte8 b) (hn0 : 0 < n) (hn : n ≤ 1000) (fn : Int) (hfn : b.getD 0 0 = fn) (hnn3 : 0 ≤ atP b 3) (hnn4 : atP b 3 ≤ 65535) (had0 : 0 ≤ atP b 1) (t5 : (fn == 5) = false) (t6 : (fn == 6) = false) (t15 : (fn == 15) = false) (t16 : (fn == 16) = false) (t23 : (fn == 23) = true) (h23a : 0 ≤ atP b 5) (h23b : atP b 5 ≤ 65535) (h23c : 0 ≤ atP b 7) (h23d : atP b 7 ≤ 65535) (h6 : n ≤ 9) (o : Option AskP) (ho : Hid (o = none)) : Calls Tryd.prog 128 #[.slice (some ⟨g, off, none⟩) n c] w (FPost w o) := gsG_23 g off n c b w hB hy8 hn0 hn fn hfn o (Or.inr (Or.inr (Or.inl ⟨hnn3, hnn4, had0, t5, t6, t15, t16, t23, h23a, h23b, h23c, h23d, h6, ho⟩)))
theorem gs_23x (g off n c : Nat) (b : List Int) (w : World) (hB : SlI w w.heap.size .u8 (some ⟨g, off, none⟩) n c b) (hy8 : Byte8 b) (hn0 : 0 < n) (hn : n ≤ 1000) (fn : Int) (hfn : b.getD 0 0 = fn) (hnn3 : 0 ≤ atP b 3) (hnn4 : atP b 3 ≤ 65535) (had0 : 0 ≤ atP b 1) (t5 : (fn == 5) = false) (t6 : (fn == 6) = false) (t15 : (fn == 15) = false) (t16 : (fn == 16) = false) (t23 : (fn == 23) = true) (h23a : 0 ≤ atP b 5) (h23b : atP b 5 ≤ 65535) (h23c : 0 ≤ atP b 7) (h23d : atP b 7 ≤ 65535) (h6 : 10 ≤ n) (tx : (b.getD 9 0 != 2 * atP b 7) = true) (o : Option AskP) (ho : Hid (o = none)) : Calls Tryd.prog 128 #[.slice (some ⟨g, off, none⟩) n c] w (FPost w o) := gsG_23 g off n c b w hB hy8 hn0 hn fn hfn o (Or.inr (Or.inr (Or.inr (Or.inl ⟨hnn3, hnn4, had0, t5, t6, t15, t16, t23, h23a, h23b, h23c, h23d, h6, tx, ho⟩))))
theorem gs_23y (g off n c : Nat) (b : List Int) (w : World) (hB : SlI w w.heap.size .u8 (some ⟨g, off, none⟩) n c b) (hy8 : Byte8 b) (hn0 : 0 < n) (hn : n ≤ 1000) (fn : Int) (hfn : b.getD 0 0 = fn) (hnn3 : 0 ≤ atP b 3) (hnn4 : atP b 3 ≤ 65535) (had0 : 0 ≤ atP b 1) (t5 : (fn == 5) = false) (t6 : (fn == 6) = false) (t15 : (fn == 15) = false) (t16 : (fn == 16) = false) (t23 : (fn == 23) = true) (h23a : 0 ≤ atP b 5) (h23b : atP b 5 ≤ 65535) (h23c : 0 ≤ atP b 7) (h23d : atP b 7 ≤ 65535) (h6 : 10 ≤ n) (tx : (b.getD 9 0 != 2 * atP b 7) = false) (ty : ((n : Int) != 10 + 2 * atP b 7) = true) (o : Option AskP) (ho : Hid (o = none)) : Calls Tryd.prog 128 #[.slice (some ⟨g, off, none⟩) n c] w (FPost w o) := gsG_23 g off n c b w hB hy8 hn0 hn fn hfn o (Or.inr (Or.inr (Or.inr (Or.inr (Or.inl ⟨hnn3, hnn4, had0, t5, t6, t15, t16, t23, h23a, h23b, h23c, h23d, h6, tx, ty, ho⟩)))))
theorem gs_23g (g off n c : Nat) (b : List Int) (w : World) (hB : SlI w w.heap.size .u8 (some ⟨g, off, none⟩) n c b) (hy8 : Byte8 b) (hn0 : 0 < n) (hn : n ≤ 1000) (fn : Int) (hfn : b.getD 0 0 = fn) (hnn3 : 0 ≤ atP b 3) (hnn4 : atP b 3 ≤ 65535) (had0 : 0 ≤ atP b 1) (t5 : (fn == 5) = false) (t6 : (fn == 6) = false) (t15 : (fn == 15) = false) (t16 : (fn == 16) = false) (t23 : (fn == 23) = true) (h23a : 0 ≤ atP b 5) (h23b : atP b 5 ≤ 65535) (h23c : 0 ≤ atP b 7) (h23d : atP b 7 ≤ 65535) (h6 : 10 ≤ n) (tx : (b.getD 9 0 != 2 * atP b 7) = false) (ty : ((n : Int) != 10 + 2 * atP b 7) = false) (N : Nat) (hN : (N : Int) = atP b 7) (o : Option AskP) (ho : Hid (o = some ⟨fn, atP b 1, atP b 3, atP b 5, [], wordsP (b.drop 10)⟩)) : Calls Tryd.prog 128 #[.slice (some ⟨g, off, none⟩) n c] w (FPost w o) := gsG_23 g off n c b w hB hy8 hn0 hn fn hfn o (Or.inr (Or.inr (Or.inr (Or.inr (Or.inr ⟨hnn3, hnn4, had0, t5, t6, t15, t16, t23, h23a, h23b, h23c, h23d, h6, tx, ty, N, hN, ho⟩)))))
end Go.Proofs.YtcipleanckeoaaaDoor
