/- kilowattref19.Read is readP. -/
import Derived.Test.YtcipleanckeoaaaDoorZTk
import Derived.Test.YtcipleanckeoaaaDoorZPduGsJ
import Derived.Test.YtcipleanckeoaaaDoorZPduRead
import Derived.Test.YtcipleanckeoaaaDoorZPduMay
namespace Go.Proofs.YtcipleanckeoaaaDoor
open Go.RowKit
set_option linter.unusedVariables false
set_option maxRecDepth 100000 in
set_option maxHeartbeats 2000000 in
theorem rf_0 (A : Option Addr) (n c : Nat) (w : World) (hn : n = 0) :
  Calls Tryd.prog 95 #[.slice A n c] w (ReadPost w (ask0, 0, 190)) := by
 subst hn
 obtain ⟨w1, hw1⟩ : ∃ w1, w.alloc (.cells #[.int .i64 0, .int .i64 0, .int .i64 0, .int .i64 0, .slice none 0 0, .slice none 0 0] 59) = w1 := ⟨_, rfl⟩
 have hb1 : Below w.heap.size w w1 := by rw [← hw1]; exact (Below.refl _ w).alloc (Nat.le_refl _) _
 have hO1 : Held w1 w.heap.size 59 #[.int .i64 0, .int .i64 0, .int .i64 0, .int .i64 0, .slice none 0 0, .slice none 0 0] := by rw [← hw1]; exact Held.new w _ _
 have HW1 := Lib.hid hw1
 clear hw1
 have hu := Tryd.underlying59
 have hsz : (Tryd.prog.info? 59).map (·.size) = some 6 := by kernel_rfl
 have hb1w := hb1
 go_in
 go_upto_region 1 with (fail)
 rw [HW1.out]
 obtain ⟨o1_0, o1_1, o1_2, o1_3, o1_4, o1_5⟩ := zC6 hO1
 have fo1 := hO1.frozen
 have zo1 := hO1.lt
 go_wp2_with fail
 obtain ⟨w2, hw2⟩ : ∃ W, ((((((w1.setCell ⟨w.heap.size, 0, none⟩ (.int .i64 0)).setCell ⟨w.heap.size, 1, none⟩ (.int .i64 0)).setCell ⟨w.heap.size, 2, none⟩ (.int .i64 0)).setCell ⟨w.heap.size, 3, none⟩ (.int .i64 0)).setCell ⟨w.heap.size, 4, none⟩ (.slice none 0 0)).setCell ⟨w.heap.size, 5, none⟩ (.slice none 0 0)) = W := ⟨_, rfl⟩
 have hO2 : Held w2 w.heap.size 59 #[.int .i64 0, .int .i64 0, .int .i64 0, .int .i64 0, .slice none 0 0, .slice none 0 0] := by rw [← hw2]; exact ((((((hO1.set 0 _).set 1 _).set 2 _).set 3 _).set 4 _).set 5 _)
 have hb2w : Below w.heap.size w w2 := by rw [← hw2]; exact ((((((hb1w.setCell (p := ⟨w.heap.size, 0, none⟩) (Nat.le_refl _) _).setCell (p := ⟨w.heap.size, 1, none⟩) (Nat.le_refl _) _).setCell (p := ⟨w.heap.size, 2, none⟩) (Nat.le_refl _) _).setCell (p := ⟨w.heap.size, 3, none⟩) (Nat.le_refl _) _).setCell (p := ⟨w.heap.size, 4, none⟩) (Nat.le_refl _) _).setCell (p := ⟨w.heap.size, 5, none⟩) (Nat.le_refl _) _)
 have hoff2 : OffB w1 w2 w.heap.size := by rw [← hw2]; exact ((((((OffB.refl _ w.heap.size).set 0 _).set 1 _).set 2 _).set 3 _).set 4 _).set 5 _
 rw [hw2]
 clear hw2
 obtain ⟨q2_0, q2_1, q2_2, q2_3, q2_4, q2_5⟩ := zC6 hO2
 have fq2 := hO2.frozen
 have zq2 := hO2.lt
 have HP : ReadPost w (ask0, 0, 190) (.returned (.tuple #[.agg #[.int .i64 0, .int .i64 0, .int .i64 0, .int .i64 0, .slice none 0 0, .slice none 0 0], .int .i64 0, .int .i64 190])) w2 := ⟨_, rfl, ask0_at _, hb2w⟩
 exact bodyPost_ret (v := .tuple #[.agg #[.int .i64 0, .int .i64 0, .int .i64 0, .int .i64 0, .slice none 0 0, .slice none 0 0], .int .i64 0, .int .i64 190]) (by simp [results, Tryd.results95, go_sem, q2_0, q2_1, q2_2, q2_3, q2_4, q2_5]) rfl HP
set_option maxRecDepth 100000 in
set_option maxHeartbeats 2000000 in
theorem rf_l (A : Option Addr) (n c : Nat) (w : World) (hn : 253 < n) :
  Calls Tryd.prog 95 #[.slice A n c] w (ReadPost w (ask0, 0, 190)) := by
 have h1n : ((n : Int) == 0) = false := by rw [beq_eq_false_iff_ne]; omega
 have h1m : (n == 0) = false := by rw [beq_eq_false_iff_ne]; omega
 have h2n : (n : Int) > 253 := by omega
 have h2m : 253 < (n : Int) := by omega
 obtain ⟨w1, hw1⟩ : ∃ w1, w.alloc (.cells #[.int .i64 0, .int .i64 0, .int .i64 0, .int .i64 0, .slice none 0 0, .slice none 0 0] 59) = w1 := ⟨_, rfl⟩
 have hb1 : Below w.heap.size w w1 := by rw [← hw1]; exact (Below.refl _ w).alloc (Nat.le_refl _) _
 have hO1 : Held w1 w.heap.size 59 #[.int .i64 0, .int .i64 0, .int .i64 0, .int .i64 0, .slice none 0 0, .slice none 0 0] := by rw [← hw1]; exact Held.new w _ _
 have HW1 := Lib.hid hw1
 clear hw1
 have hu := Tryd.underlying59
 have hsz : (Tryd.prog.info? 59).map (·.size) = some 6 := by kernel_rfl
 have hb1w := hb1
 go_in
 go_upto_region 1 with (fail)
 rw [HW1.out]
 obtain ⟨o1_0, o1_1, o1_2, o1_3, o1_4, o1_5⟩ := zC6 hO1
 have fo1 := hO1.frozen
 have zo1 := hO1.lt
 go_wp2_with fail
 obtain ⟨w2, hw2⟩ : ∃ W, ((((((w1.setCell ⟨w.heap.size, 0, none⟩ (.int .i64 0)).setCell ⟨w.heap.size, 1, none⟩ (.int .i64 0)).setCell ⟨w.heap.size, 2, none⟩ (.int .i64 0)).setCell ⟨w.heap.size, 3, none⟩ (.int .i64 0)).setCell ⟨w.heap.size, 4, none⟩ (.slice none 0 0)).setCell ⟨w.heap.size, 5, none⟩ (.slice none 0 0)) = W := ⟨_, rfl⟩
 have hO2 : Held w2 w.heap.size 59 #[.int .i64 0, .int .i64 0, .int .i64 0, .int .i64 0, .slice none 0 0, .slice none 0 0] := by rw [← hw2]; exact ((((((hO1.set 0 _).set 1 _).set 2 _).set 3 _).set 4 _).set 5 _)
 have hb2w : Below w.heap.size w w2 := by rw [← hw2]; exact ((((((hb1w.setCell (p := ⟨w.heap.size, 0, none⟩) (Nat.le_refl _) _).setCell (p := ⟨w.heap.size, 1, none⟩) (Nat.le_refl _) _).setCell (p := ⟨w.heap.size, 2, none⟩) (Nat.le_refl _) _).setCell (p := ⟨w.heap.size, 3, none⟩) (Nat.le_refl _) _).setCell (p := ⟨w.heap.size, 4, none⟩) (Nat.le_refl _) _).setCell (p := ⟨w.heap.size, 5, none⟩) (Nat.le_refl _) _)
 have hoff2 : OffB w1 w2 w.heap.size := by rw [← hw2]; exact ((((((OffB.refl _ w.heap.size).set 0 _).set 1 _).set 2 _).set 3 _).set 4 _).set 5 _
 rw [hw2]
 clear hw2
 obtain ⟨q2_0, q2_1, q2_2, q2_3, q2_4, q2_5⟩ := zC6 hO2
 have fq2 := hO2.frozen
 have zq2 := hO2.lt
 have HP : ReadPost w (ask0, 0, 190) (.returned (.tuple #[.agg #[.int .i64 0, .int .i64 0, .int .i64 0, .int .i64 0, .slice none 0 0, .slice none 0 0], .int .i64 0, .int .i64 190])) w2 := ⟨_, rfl, ask0_at _, hb2w⟩
 exact bodyPost_ret (v := .tuple #[.agg #[.int .i64 0, .int .i64 0, .int .i64 0, .int .i64 0, .slice none 0 0, .slice none 0 0], .int .i64 0, .int .i64 190]) (by simp [results, Tryd.results95, go_sem, q2_0, q2_1, q2_2, q2_3, q2_4, q2_5]) rfl HP
set_option maxRecDepth 100000 in
set_option maxHeartbeats 2000000 in
theorem rf_none (g off n c : Nat) (fn : Int) (d : List Int) (w : World) (hB : SlI w w.heap.size .u8 (some ⟨g, off, none⟩) n c (fn :: d)) (hb8 : Byte8 (fn :: d)) (hn1 : 1 ≤ n) (hn2 : n ≤ 253) (hlim : limP fn = none) :
  Calls Tryd.prog 95 #[.slice (some ⟨g, off, none⟩) n c] w (ReadPost w (ask0, 1, 190)) := by
 obtain ⟨w1, hw1⟩ : ∃ w1, w.alloc (.cells #[.int .i64 0, .int .i64 0, .int .i64 0, .int .i64 0, .slice none 0 0, .slice none 0 0] 59) = w1 := ⟨_, rfl⟩
 have hb1 : Below w.heap.size w w1 := by rw [← hw1]; exact (Below.refl _ w).alloc (Nat.le_refl _) _
 have hO1 : Held w1 w.heap.size 59 #[.int .i64 0, .int .i64 0, .int .i64 0, .int .i64 0, .slice none 0 0, .slice none 0 0] := by rw [← hw1]; exact Held.new w _ _
 have HW1 := Lib.hid hw1
 clear hw1
 have hu := Tryd.underlying59
 have hsz : (Tryd.prog.info? 59).map (·.size) = some 6 := by kernel_rfl
 have hl := hB.1
 have hcap := hB.2.1
 have h1n : ((n : Int) == 0) = false := by rw [beq_eq_false_iff_ne]; omega
 have h1m : (n == 0) = false := by rw [beq_eq_false_iff_ne]; omega
 have h2n : decide ((n : Int) > 253) = false := decide_eq_false (by omega)
 have h2m : decide (253 < (n : Int)) = false := decide_eq_false (by omega)
 have h2k : ¬ (253 : Int) < (n : Int) := by omega
 have h0n : 0 < n := by omega
 have h0n' : (0 : Int) < (n : Int) := by omega
 have hfr : 0 ≤ fn ∧ fn < 256 := hb8 fn (by simp)
 have hwf : IntKind.i64.wrap fn = fn := IntWalk.i64_in fn (by omega)
 have HC0 : Hid (∀ X, Below w.heap.size w X → X.cell? ⟨g, off, none⟩ = some (.int .u8 fn)) := Lib.hid (fun X h => by
  obtain ⟨g', o', e, _, hc⟩ := (hB.up h).2.2.2.2 (by simp)
  injection e with e
  injection e with e1 e2
  subst e1 e2
  simpa using hc 0 fn rfl)
 have HKN := Lib.hid (fun (X : World) => known_any fn X)
 rw [hlim, show (none : Option (Int × Int × Int)).isSome = false from rfl] at HKN
 clear hlim hB hl
 go_in
 go_upto_region 1 with (fail)
 rw [HW1.out]
 have c01 := HC0.out w1 hb1
 have hb1w := hb1
 obtain ⟨o1_0, o1_1, o1_2, o1_3, o1_4, o1_5⟩ := zC6 hO1
 have fo1 := hO1.frozen
 have zo1 := hO1.lt
 go_wp2_with (go_at_call 127; (with_reducible refine (HKN.out _).mono ?_); rintro e w' ⟨rfl, rfl⟩)
 obtain ⟨w2, hw2⟩ : ∃ W, ((((((w1.setCell ⟨w.heap.size, 0, none⟩ (.int .i64 0)).setCell ⟨w.heap.size, 1, none⟩ (.int .i64 0)).setCell ⟨w.heap.size, 2, none⟩ (.int .i64 0)).setCell ⟨w.heap.size, 3, none⟩ (.int .i64 0)).setCell ⟨w.heap.size, 4, none⟩ (.slice none 0 0)).setCell ⟨w.heap.size, 5, none⟩ (.slice none 0 0)) = W := ⟨_, rfl⟩
 have hO2 : Held w2 w.heap.size 59 #[.int .i64 0, .int .i64 0, .int .i64 0, .int .i64 0, .slice none 0 0, .slice none 0 0] := by rw [← hw2]; exact ((((((hO1.set 0 _).set 1 _).set 2 _).set 3 _).set 4 _).set 5 _)
 have hb2w : Below w.heap.size w w2 := by rw [← hw2]; exact ((((((hb1w.setCell (p := ⟨w.heap.size, 0, none⟩) (Nat.le_refl _) _).setCell (p := ⟨w.heap.size, 1, none⟩) (Nat.le_refl _) _).setCell (p := ⟨w.heap.size, 2, none⟩) (Nat.le_refl _) _).setCell (p := ⟨w.heap.size, 3, none⟩) (Nat.le_refl _) _).setCell (p := ⟨w.heap.size, 4, none⟩) (Nat.le_refl _) _).setCell (p := ⟨w.heap.size, 5, none⟩) (Nat.le_refl _) _)
 have hoff2 : OffB w1 w2 w.heap.size := by rw [← hw2]; exact ((((((OffB.refl _ w.heap.size).set 0 _).set 1 _).set 2 _).set 3 _).set 4 _).set 5 _
 rw [hw2]
 clear hw2
 obtain ⟨q2_0, q2_1, q2_2, q2_3, q2_4, q2_5⟩ := zC6 hO2
 have fq2 := hO2.frozen
 have zq2 := hO2.lt
 have HP : ReadPost w (ask0, 1, 190) (.returned (.tuple #[.agg #[.int .i64 0, .int .i64 0, .int .i64 0, .int .i64 0, .slice none 0 0, .slice none 0 0], .int .i64 1, .int .i64 190])) w2 := ⟨_, rfl, ask0_at _, hb2w⟩
 exact bodyPost_ret (v := .tuple #[.agg #[.int .i64 0, .int .i64 0, .int .i64 0, .int .i64 0, .slice none 0 0, .slice none 0 0], .int .i64 1, .int .i64 190]) (by simp [results, Tryd.results95, go_sem, q2_0, q2_1, q2_2, q2_3, q2_4, q2_5]) rfl HP
set_option maxRecDepth 100000 in
set_option maxHeartbeats 2000000 in
theorem rf_bad (g off n c : Nat) (fn : Int) (d : List Int) (w : World) (hB : SlI w w.heap.size .u8 (some ⟨g, off, none⟩) n c (fn :: d)) (hb8 : Byte8 (fn :: d)) (hn1 : 1 ≤ n) (hn2 : n ≤ 253) (r bt rg : Int) (hlim : limP fn = some (r, bt, rg)) (hgs : ∀ X, Below w.heap.size w X → Calls Tryd.prog 128 #[.slice (some ⟨g, off, none⟩) n c] X (FPost X none)) :
  Calls Tryd.prog 95 #[.slice (some ⟨g, off, none⟩) n c] w (ReadPost w (ask0, 3, 190)) := by
 obtain ⟨w1, hw1⟩ : ∃ w1, w.alloc (.cells #[.int .i64 0, .int .i64 0, .int .i64 0, .int .i64 0, .slice none 0 0, .slice none 0 0] 59) = w1 := ⟨_, rfl⟩
 have hb1 : Below w.heap.size w w1 := by rw [← hw1]; exact (Below.refl _ w).alloc (Nat.le_refl _) _
 have hO1 : Held w1 w.heap.size 59 #[.int .i64 0, .int .i64 0, .int .i64 0, .int .i64 0, .slice none 0 0, .slice none 0 0] := by rw [← hw1]; exact Held.new w _ _
 have HW1 := Lib.hid hw1
 clear hw1
 have hu := Tryd.underlying59
 have hsz : (Tryd.prog.info? 59).map (·.size) = some 6 := by kernel_rfl
 have hl := hB.1
 have hcap := hB.2.1
 have h1n : ((n : Int) == 0) = false := by rw [beq_eq_false_iff_ne]; omega
 have h1m : (n == 0) = false := by rw [beq_eq_false_iff_ne]; omega
 have h2n : decide ((n : Int) > 253) = false := decide_eq_false (by omega)
 have h2m : decide (253 < (n : Int)) = false := decide_eq_false (by omega)
 have h2k : ¬ (253 : Int) < (n : Int) := by omega
 have h0n : 0 < n := by omega
 have h0n' : (0 : Int) < (n : Int) := by omega
 have hfr : 0 ≤ fn ∧ fn < 256 := hb8 fn (by simp)
 have hwf : IntKind.i64.wrap fn = fn := IntWalk.i64_in fn (by omega)
 have HC0 : Hid (∀ X, Below w.heap.size w X → X.cell? ⟨g, off, none⟩ = some (.int .u8 fn)) := Lib.hid (fun X h => by
  obtain ⟨g', o', e, _, hc⟩ := (hB.up h).2.2.2.2 (by simp)
  injection e with e
  injection e with e1 e2
  subst e1 e2
  simpa using hc 0 fn rfl)
 have HKN := Lib.hid (fun (X : World) => known_any fn X)
 rw [hlim, show (some (r, bt, rg) : Option (Int × Int × Int)).isSome = true from rfl] at HKN
 have HG : Hid (∀ X, Below w.heap.size w X → Calls Tryd.prog 128 #[.slice (some ⟨g, off, none⟩) n c] X fun e w' => ∃ pf pa pc pt Ab nb cb Ar nr cr, e = .returned (.tuple #[.agg #[.int .i64 pf, .int .i64 pa, .int .i64 pc, .int .i64 pt, .slice Ab nb cb, .slice Ar nr cr], .bool false]) ∧ Below X.heap.size X w') := Lib.hid (fun X h => by
  have h1 := hgs X h
  refine h1.mono ?_
  intro e w' h2
  obtain ⟨v, a, rfl, ⟨Ab, nb, cb, Ar, nr, cr, rfl, sb, sr⟩, hb⟩ := h2
  exact ⟨_, _, _, _, Ab, nb, cb, Ar, nr, cr, rfl, hb⟩)
 clear hgs hB hl
 go_in
 go_upto_region 1 with (fail)
 rw [HW1.out]
 have c01 := HC0.out w1 hb1
 have hb1w := hb1
 obtain ⟨o1_0, o1_1, o1_2, o1_3, o1_4, o1_5⟩ := zC6 hO1
 have fo1 := hO1.frozen
 have zo1 := hO1.lt
 go_wp2_with (go_at_call 127; (with_reducible refine (HKN.out _).mono ?_); rintro e w' ⟨rfl, rfl⟩)
 refine (HG.out w1 hb1).mono ?_
 rintro e w2 ⟨pf, pa, pc, pt, Ab, nb, cb, Ar, nr, cr, rfl, hb2⟩
 have hb2w := hb1.trans (hb2.mono hb1.size)
 have hO2 := hO1.below hb2 hO1.lt
 obtain ⟨w3, hw3⟩ : ∃ W, w2.alloc (.cells #[.int .i64 pf, .int .i64 pa, .int .i64 pc, .int .i64 pt, .slice Ab nb cb, .slice Ar nr cr] 59) = W := ⟨_, rfl⟩
 have hb3 : Below w2.heap.size w2 w3 := by rw [← hw3]; exact (Below.refl _ _).alloc (Nat.le_refl _) _
 have hb3w := hb2w.trans (hb3.mono hb2w.size)
 have hO3 := hO2.below hb3 hO2.lt
 have hA3 : Held w3 w2.heap.size 59 #[.int .i64 pf, .int .i64 pa, .int .i64 pc, .int .i64 pt, .slice Ab nb cb, .slice Ar nr cr] := by rw [← hw3]; exact Held.new _ _ _
 go_upto_region 6 with (fail)
 clear hw3
 obtain ⟨gA, hgA⟩ : ∃ x, w2.heap.size = x := ⟨_, rfl⟩
 rw [hgA] at hA3
 rw [hgA]
 have HLA : Hid (w.heap.size < gA) := Lib.hid (by have := hO2.lt; omega)
 clear hgA
 obtain ⟨o3_0, o3_1, o3_2, o3_3, o3_4, o3_5⟩ := zC6 hO3
 have fo3 := hO3.frozen
 have zo3 := hO3.lt
 clear hlim
 go_wp2_with fail
 obtain ⟨w4, hw4⟩ : ∃ W, ((((((w3.setCell ⟨w.heap.size, 0, none⟩ (.int .i64 0)).setCell ⟨w.heap.size, 1, none⟩ (.int .i64 0)).setCell ⟨w.heap.size, 2, none⟩ (.int .i64 0)).setCell ⟨w.heap.size, 3, none⟩ (.int .i64 0)).setCell ⟨w.heap.size, 4, none⟩ (.slice none 0 0)).setCell ⟨w.heap.size, 5, none⟩ (.slice none 0 0)) = W := ⟨_, rfl⟩
 have hO4 : Held w4 w.heap.size 59 #[.int .i64 0, .int .i64 0, .int .i64 0, .int .i64 0, .slice none 0 0, .slice none 0 0] := by rw [← hw4]; exact ((((((hO3.set 0 _).set 1 _).set 2 _).set 3 _).set 4 _).set 5 _)
 have hb4w : Below w.heap.size w w4 := by rw [← hw4]; exact ((((((hb3w.setCell (p := ⟨w.heap.size, 0, none⟩) (Nat.le_refl _) _).setCell (p := ⟨w.heap.size, 1, none⟩) (Nat.le_refl _) _).setCell (p := ⟨w.heap.size, 2, none⟩) (Nat.le_refl _) _).setCell (p := ⟨w.heap.size, 3, none⟩) (Nat.le_refl _) _).setCell (p := ⟨w.heap.size, 4, none⟩) (Nat.le_refl _) _).setCell (p := ⟨w.heap.size, 5, none⟩) (Nat.le_refl _) _)
 have hoff4 : OffB w3 w4 w.heap.size := by rw [← hw4]; exact ((((((OffB.refl _ w.heap.size).set 0 _).set 1 _).set 2 _).set 3 _).set 4 _).set 5 _
 rw [hw4]
 clear hw4
 obtain ⟨q4_0, q4_1, q4_2, q4_3, q4_4, q4_5⟩ := zC6 hO4
 have fq4 := hO4.frozen
 have zq4 := hO4.lt
 have HP : ReadPost w (ask0, 3, 190) (.returned (.tuple #[.agg #[.int .i64 0, .int .i64 0, .int .i64 0, .int .i64 0, .slice none 0 0, .slice none 0 0], .int .i64 3, .int .i64 190])) w4 := ⟨_, rfl, ask0_at _, hb4w⟩
 exact bodyPost_ret (v := .tuple #[.agg #[.int .i64 0, .int .i64 0, .int .i64 0, .int .i64 0, .slice none 0 0, .slice none 0 0], .int .i64 3, .int .i64 190]) (by simp [results, Tryd.results95, go_sem, q4_0, q4_1, q4_2, q4_3, q4_4, q4_5]) rfl HP
set_option maxRecDepth 100000 in
set_option maxHeartbeats 2000000 in
theorem rf_lim (g off n c : Nat) (fn : Int) (d : List Int) (w : World) (hB : SlI w w.heap.size .u8 (some ⟨g, off, none⟩) n c (fn :: d)) (hb8 : Byte8 (fn :: d)) (hn1 : 1 ≤ n) (hn2 : n ≤ 253) (r bt rg : Int) (hlim : limP fn = some (r, bt, rg)) (pa pc pt : Int) (bits : List Bool) (regs : List Int) (hgs : ∀ X, Below w.heap.size w X → Calls Tryd.prog 128 #[.slice (some ⟨g, off, none⟩) n c] X (FPost X (some (⟨fn, pa, pc, pt, bits, regs⟩ : AskP)))) (hml : limitsP (⟨fn, pa, pc, pt, bits, regs⟩ : AskP) = false) :
  Calls Tryd.prog 95 #[.slice (some ⟨g, off, none⟩) n c] w (ReadPost w (ask0, 3, 190)) := by
 obtain ⟨w1, hw1⟩ : ∃ w1, w.alloc (.cells #[.int .i64 0, .int .i64 0, .int .i64 0, .int .i64 0, .slice none 0 0, .slice none 0 0] 59) = w1 := ⟨_, rfl⟩
 have hb1 : Below w.heap.size w w1 := by rw [← hw1]; exact (Below.refl _ w).alloc (Nat.le_refl _) _
 have hO1 : Held w1 w.heap.size 59 #[.int .i64 0, .int .i64 0, .int .i64 0, .int .i64 0, .slice none 0 0, .slice none 0 0] := by rw [← hw1]; exact Held.new w _ _
 have HW1 := Lib.hid hw1
 clear hw1
 have hu := Tryd.underlying59
 have hsz : (Tryd.prog.info? 59).map (·.size) = some 6 := by kernel_rfl
 have hl := hB.1
 have hcap := hB.2.1
 have h1n : ((n : Int) == 0) = false := by rw [beq_eq_false_iff_ne]; omega
 have h1m : (n == 0) = false := by rw [beq_eq_false_iff_ne]; omega
 have h2n : decide ((n : Int) > 253) = false := decide_eq_false (by omega)
 have h2m : decide (253 < (n : Int)) = false := decide_eq_false (by omega)
 have h2k : ¬ (253 : Int) < (n : Int) := by omega
 have h0n : 0 < n := by omega
 have h0n' : (0 : Int) < (n : Int) := by omega
 have hfr : 0 ≤ fn ∧ fn < 256 := hb8 fn (by simp)
 have hwf : IntKind.i64.wrap fn = fn := IntWalk.i64_in fn (by omega)
 have HC0 : Hid (∀ X, Below w.heap.size w X → X.cell? ⟨g, off, none⟩ = some (.int .u8 fn)) := Lib.hid (fun X h => by
  obtain ⟨g', o', e, _, hc⟩ := (hB.up h).2.2.2.2 (by simp)
  injection e with e
  injection e with e1 e2
  subst e1 e2
  simpa using hc 0 fn rfl)
 have HKN := Lib.hid (fun (X : World) => known_any fn X)
 rw [hlim, show (some (r, bt, rg) : Option (Int × Int × Int)).isSome = true from rfl] at HKN
 have HG : Hid (∀ X, Below w.heap.size w X → Calls Tryd.prog 128 #[.slice (some ⟨g, off, none⟩) n c] X fun e w' => ∃ Ab nb cb Ar nr cr, e = .returned (.tuple #[.agg #[.int .i64 fn, .int .i64 pa, .int .i64 pc, .int .i64 pt, .slice Ab nb cb, .slice Ar nr cr], .bool true]) ∧ SlB w' w'.heap.size Ab nb cb bits ∧ SlI w' w'.heap.size .u16 Ar nr cr regs ∧ Below X.heap.size X w') := Lib.hid (fun X h => by
  have h1 := hgs X h
  refine h1.mono ?_
  intro e w' h2
  obtain ⟨v, a, rfl, ⟨Ab, nb, cb, Ar, nr, cr, rfl, sb, sr⟩, hb⟩ := h2
  exact ⟨Ab, nb, cb, Ar, nr, cr, rfl, sb, sr, hb⟩)
 clear hgs hB hl
 go_in
 go_upto_region 1 with (fail)
 rw [HW1.out]
 have c01 := HC0.out w1 hb1
 have hb1w := hb1
 obtain ⟨o1_0, o1_1, o1_2, o1_3, o1_4, o1_5⟩ := zC6 hO1
 have fo1 := hO1.frozen
 have zo1 := hO1.lt
 go_wp2_with (go_at_call 127; (with_reducible refine (HKN.out _).mono ?_); rintro e w' ⟨rfl, rfl⟩)
 refine (HG.out w1 hb1).mono ?_
 rintro e w2 ⟨Ab, nb, cb, Ar, nr, cr, rfl, sb2, sr2, hb2⟩
 have hb2w := hb1.trans (hb2.mono hb1.size)
 have hO2 := hO1.below hb2 hO1.lt
 obtain ⟨w3, hw3⟩ : ∃ W, w2.alloc (.cells #[.int .i64 fn, .int .i64 pa, .int .i64 pc, .int .i64 pt, .slice Ab nb cb, .slice Ar nr cr] 59) = W := ⟨_, rfl⟩
 have hb3 : Below w2.heap.size w2 w3 := by rw [← hw3]; exact (Below.refl _ _).alloc (Nat.le_refl _) _
 have hb3w := hb2w.trans (hb3.mono hb2w.size)
 have hO3 := hO2.below hb3 hO2.lt
 have hA3 : Held w3 w2.heap.size 59 #[.int .i64 fn, .int .i64 pa, .int .i64 pc, .int .i64 pt, .slice Ab nb cb, .slice Ar nr cr] := by rw [← hw3]; exact Held.new _ _ _
 go_upto_region 6 with (fail)
 clear hw3
 obtain ⟨gA, hgA⟩ : ∃ x, w2.heap.size = x := ⟨_, rfl⟩
 rw [hgA] at hA3
 rw [hgA]
 have HLA : Hid (w.heap.size < gA) := Lib.hid (by have := hO2.lt; omega)
 clear hgA
 obtain ⟨o3_0, o3_1, o3_2, o3_3, o3_4, o3_5⟩ := zC6 hO3
 have fo3 := hO3.frozen
 have zo3 := hO3.lt
 have HLM : Hid (∀ X, Calls Tryd.prog 129 #[.agg #[.int .i64 fn, .int .i64 pa, .int .i64 pc, .int .i64 pt, .slice Ab nb cb, .slice Ar nr cr]] X fun e w' => e = .returned (.bool false) ∧ Below X.heap.size X w') := Lib.hid (fun X => by
  have h1 := limits_any fn pa pc pt Ab nb cb Ar nr cr X r bt rg hlim
  have h2 : (fitP pc r && fitP (nb : Int) bt && fitP (nr : Int) rg) = limitsP (⟨fn, pa, pc, pt, bits, regs⟩ : AskP) := by
   have e : limitsP (⟨fn, pa, pc, pt, bits, regs⟩ : AskP) = (match limP fn with | none => false | some (r, b, g) => fitP pc r && fitP bits.length b && fitP regs.length g) := rfl
   rw [e, hlim, ← sb2.1, ← sr2.1]
  rw [h2, hml] at h1
  exact h1)
 clear hlim hml
 go_wp2_with (first | ((with_reducible refine at_loadT 59 5 ?_); refine wpList_load_rowG rfl 59 (.tmp 5) rfl gA rfl 59 _ _ hA3 hu rfl hsz ?_) | (go_at_call 129; (with_reducible refine (HLM.out _).mono ?_); rintro e w4 ⟨rfl, hb4⟩; have hb4w := hb3w.trans (hb4.mono hb3w.size); have hO4 := hO3.below hb4 hO3.lt; have hA4 := hA3.below hb4 hA3.lt; have o4_0 : w4.cell? ⟨w.heap.size, 0, none⟩ = some (.int .i64 0) := hO4.cell 0; have o4_1 : w4.cell? ⟨w.heap.size, 1, none⟩ = some (.int .i64 0) := hO4.cell 1; have o4_2 : w4.cell? ⟨w.heap.size, 2, none⟩ = some (.int .i64 0) := hO4.cell 2; have o4_3 : w4.cell? ⟨w.heap.size, 3, none⟩ = some (.int .i64 0) := hO4.cell 3; have o4_4 : w4.cell? ⟨w.heap.size, 4, none⟩ = some (.slice none 0 0) := hO4.cell 4; have o4_5 : w4.cell? ⟨w.heap.size, 5, none⟩ = some (.slice none 0 0) := hO4.cell 5; have fo4 := hO4.frozen; have zo4 := hO4.lt))
 obtain ⟨w5, hw5⟩ : ∃ W, ((((((w4.setCell ⟨w.heap.size, 0, none⟩ (.int .i64 0)).setCell ⟨w.heap.size, 1, none⟩ (.int .i64 0)).setCell ⟨w.heap.size, 2, none⟩ (.int .i64 0)).setCell ⟨w.heap.size, 3, none⟩ (.int .i64 0)).setCell ⟨w.heap.size, 4, none⟩ (.slice none 0 0)).setCell ⟨w.heap.size, 5, none⟩ (.slice none 0 0)) = W := ⟨_, rfl⟩
 have hO5 : Held w5 w.heap.size 59 #[.int .i64 0, .int .i64 0, .int .i64 0, .int .i64 0, .slice none 0 0, .slice none 0 0] := by rw [← hw5]; exact ((((((hO4.set 0 _).set 1 _).set 2 _).set 3 _).set 4 _).set 5 _)
 have hb5w : Below w.heap.size w w5 := by rw [← hw5]; exact ((((((hb4w.setCell (p := ⟨w.heap.size, 0, none⟩) (Nat.le_refl _) _).setCell (p := ⟨w.heap.size, 1, none⟩) (Nat.le_refl _) _).setCell (p := ⟨w.heap.size, 2, none⟩) (Nat.le_refl _) _).setCell (p := ⟨w.heap.size, 3, none⟩) (Nat.le_refl _) _).setCell (p := ⟨w.heap.size, 4, none⟩) (Nat.le_refl _) _).setCell (p := ⟨w.heap.size, 5, none⟩) (Nat.le_refl _) _)
 have hoff5 : OffB w4 w5 w.heap.size := by rw [← hw5]; exact ((((((OffB.refl _ w.heap.size).set 0 _).set 1 _).set 2 _).set 3 _).set 4 _).set 5 _
 rw [hw5]
 clear hw5
 obtain ⟨q5_0, q5_1, q5_2, q5_3, q5_4, q5_5⟩ := zC6 hO5
 have fq5 := hO5.frozen
 have zq5 := hO5.lt
 have HP : ReadPost w (ask0, 3, 190) (.returned (.tuple #[.agg #[.int .i64 0, .int .i64 0, .int .i64 0, .int .i64 0, .slice none 0 0, .slice none 0 0], .int .i64 3, .int .i64 190])) w5 := ⟨_, rfl, ask0_at _, hb5w⟩
 exact bodyPost_ret (v := .tuple #[.agg #[.int .i64 0, .int .i64 0, .int .i64 0, .int .i64 0, .slice none 0 0, .slice none 0 0], .int .i64 3, .int .i64 190]) (by simp [results, Tryd.results95, go_sem, q5_0, q5_1, q5_2, q5_3, q5_4, q5_5]) rfl HP
set_option maxRecDepth 100000 in
set_option maxHeartbeats 2000000 in
theorem rf_not (g off n c : Nat) (fn : Int) (d : List Int) (w : World) (hB : SlI w w.heap.size .u8 (some ⟨g, off, none⟩) n c (fn :: d)) (hb8 : Byte8 (fn :: d)) (hn1 : 1 ≤ n) (hn2 : n ≤ 253) (r bt rg : Int) (hlim : limP fn = some (r, bt, rg)) (pa pc pt : Int) (bits : List Bool) (regs : List Int) (hgs : ∀ X, Below w.heap.size w X → Calls Tryd.prog 128 #[.slice (some ⟨g, off, none⟩) n c] X (FPost X (some (⟨fn, pa, pc, pt, bits, regs⟩ : AskP)))) (hml : limitsP (⟨fn, pa, pc, pt, bits, regs⟩ : AskP) = true) (hmy : mayP (⟨fn, pa, pc, pt, bits, regs⟩ : AskP) = false) :
  Calls Tryd.prog 95 #[.slice (some ⟨g, off, none⟩) n c] w (ReadPost w (ask0, 2, 190)) := by
 obtain ⟨w1, hw1⟩ : ∃ w1, w.alloc (.cells #[.int .i64 0, .int .i64 0, .int .i64 0, .int .i64 0, .slice none 0 0, .slice none 0 0] 59) = w1 := ⟨_, rfl⟩
 have hb1 : Below w.heap.size w w1 := by rw [← hw1]; exact (Below.refl _ w).alloc (Nat.le_refl _) _
 have hO1 : Held w1 w.heap.size 59 #[.int .i64 0, .int .i64 0, .int .i64 0, .int .i64 0, .slice none 0 0, .slice none 0 0] := by rw [← hw1]; exact Held.new w _ _
 have HW1 := Lib.hid hw1
 clear hw1
 have hu := Tryd.underlying59
 have hsz : (Tryd.prog.info? 59).map (·.size) = some 6 := by kernel_rfl
 have hl := hB.1
 have hcap := hB.2.1
 have h1n : ((n : Int) == 0) = false := by rw [beq_eq_false_iff_ne]; omega
 have h1m : (n == 0) = false := by rw [beq_eq_false_iff_ne]; omega
 have h2n : decide ((n : Int) > 253) = false := decide_eq_false (by omega)
 have h2m : decide (253 < (n : Int)) = false := decide_eq_false (by omega)
 have h2k : ¬ (253 : Int) < (n : Int) := by omega
 have h0n : 0 < n := by omega
 have h0n' : (0 : Int) < (n : Int) := by omega
 have hfr : 0 ≤ fn ∧ fn < 256 := hb8 fn (by simp)
 have hwf : IntKind.i64.wrap fn = fn := IntWalk.i64_in fn (by omega)
 have HC0 : Hid (∀ X, Below w.heap.size w X → X.cell? ⟨g, off, none⟩ = some (.int .u8 fn)) := Lib.hid (fun X h => by
  obtain ⟨g', o', e, _, hc⟩ := (hB.up h).2.2.2.2 (by simp)
  injection e with e
  injection e with e1 e2
  subst e1 e2
  simpa using hc 0 fn rfl)
 have HKN := Lib.hid (fun (X : World) => known_any fn X)
 rw [hlim, show (some (r, bt, rg) : Option (Int × Int × Int)).isSome = true from rfl] at HKN
 have HG : Hid (∀ X, Below w.heap.size w X → Calls Tryd.prog 128 #[.slice (some ⟨g, off, none⟩) n c] X fun e w' => ∃ Ab nb cb Ar nr cr, e = .returned (.tuple #[.agg #[.int .i64 fn, .int .i64 pa, .int .i64 pc, .int .i64 pt, .slice Ab nb cb, .slice Ar nr cr], .bool true]) ∧ SlB w' w'.heap.size Ab nb cb bits ∧ SlI w' w'.heap.size .u16 Ar nr cr regs ∧ Below X.heap.size X w') := Lib.hid (fun X h => by
  have h1 := hgs X h
  refine h1.mono ?_
  intro e w' h2
  obtain ⟨v, a, rfl, ⟨Ab, nb, cb, Ar, nr, cr, rfl, sb, sr⟩, hb⟩ := h2
  exact ⟨Ab, nb, cb, Ar, nr, cr, rfl, sb, sr, hb⟩)
 clear hgs hB hl
 go_in
 go_upto_region 1 with (fail)
 rw [HW1.out]
 have c01 := HC0.out w1 hb1
 have hb1w := hb1
 obtain ⟨o1_0, o1_1, o1_2, o1_3, o1_4, o1_5⟩ := zC6 hO1
 have fo1 := hO1.frozen
 have zo1 := hO1.lt
 go_wp2_with (go_at_call 127; (with_reducible refine (HKN.out _).mono ?_); rintro e w' ⟨rfl, rfl⟩)
 refine (HG.out w1 hb1).mono ?_
 rintro e w2 ⟨Ab, nb, cb, Ar, nr, cr, rfl, sb2, sr2, hb2⟩
 have hb2w := hb1.trans (hb2.mono hb1.size)
 have hO2 := hO1.below hb2 hO1.lt
 obtain ⟨w3, hw3⟩ : ∃ W, w2.alloc (.cells #[.int .i64 fn, .int .i64 pa, .int .i64 pc, .int .i64 pt, .slice Ab nb cb, .slice Ar nr cr] 59) = W := ⟨_, rfl⟩
 have hb3 : Below w2.heap.size w2 w3 := by rw [← hw3]; exact (Below.refl _ _).alloc (Nat.le_refl _) _
 have hb3w := hb2w.trans (hb3.mono hb2w.size)
 have hO3 := hO2.below hb3 hO2.lt
 have hA3 : Held w3 w2.heap.size 59 #[.int .i64 fn, .int .i64 pa, .int .i64 pc, .int .i64 pt, .slice Ab nb cb, .slice Ar nr cr] := by rw [← hw3]; exact Held.new _ _ _
 go_upto_region 6 with (fail)
 clear hw3
 obtain ⟨gA, hgA⟩ : ∃ x, w2.heap.size = x := ⟨_, rfl⟩
 rw [hgA] at hA3
 rw [hgA]
 have HLA : Hid (w.heap.size < gA) := Lib.hid (by have := hO2.lt; omega)
 clear hgA
 obtain ⟨o3_0, o3_1, o3_2, o3_3, o3_4, o3_5⟩ := zC6 hO3
 have fo3 := hO3.frozen
 have zo3 := hO3.lt
 have HLM : Hid (∀ X, Calls Tryd.prog 129 #[.agg #[.int .i64 fn, .int .i64 pa, .int .i64 pc, .int .i64 pt, .slice Ab nb cb, .slice Ar nr cr]] X fun e w' => e = .returned (.bool true) ∧ Below X.heap.size X w') := Lib.hid (fun X => by
  have h1 := limits_any fn pa pc pt Ab nb cb Ar nr cr X r bt rg hlim
  have h2 : (fitP pc r && fitP (nb : Int) bt && fitP (nr : Int) rg) = limitsP (⟨fn, pa, pc, pt, bits, regs⟩ : AskP) := by
   have e : limitsP (⟨fn, pa, pc, pt, bits, regs⟩ : AskP) = (match limP fn with | none => false | some (r, b, g) => fitP pc r && fitP bits.length b && fitP regs.length g) := rfl
   rw [e, hlim, ← sb2.1, ← sr2.1]
  rw [h2, hml] at h1
  exact h1)
 clear hlim hml
 have sb3 := (sb2.up hb3)
 have sr3 := (sr2.up hb3)
 have HMY : Hid (∀ X, Below w3.heap.size w3 X → Calls Tryd.prog 115 #[.agg #[.int .i64 fn, .int .i64 pa, .int .i64 pc, .int .i64 pt, .slice Ab nb cb, .slice Ar nr cr]] X fun e w' => e = .returned (.bool false) ∧ Below X.heap.size X w') := Lib.hid (fun X h => by
  have h1 := may_any (.agg #[.int .i64 fn, .int .i64 pa, .int .i64 pc, .int .i64 pt, .slice Ab nb cb, .slice Ar nr cr]) (⟨fn, pa, pc, pt, bits, regs⟩ : AskP) X ⟨Ab, nb, cb, Ar, nr, cr, rfl, sb3.up h, sr3.up h⟩
  rw [hmy] at h1
  exact h1)
 clear hmy
 go_upto_region 8 with (first | ((with_reducible refine at_loadT 59 5 ?_); refine wpList_load_rowG rfl 59 (.tmp 5) rfl gA rfl 59 _ _ hA3 hu rfl hsz ?_) | (go_at_call 129; (with_reducible refine (HLM.out _).mono ?_); rintro e w4 ⟨rfl, hb4⟩; have hb4w := hb3w.trans (hb4.mono hb3w.size); have hO4 := hO3.below hb4 hO3.lt; have hA4 := hA3.below hb4 hA3.lt; have o4_0 : w4.cell? ⟨w.heap.size, 0, none⟩ = some (.int .i64 0) := hO4.cell 0; have o4_1 : w4.cell? ⟨w.heap.size, 1, none⟩ = some (.int .i64 0) := hO4.cell 1; have o4_2 : w4.cell? ⟨w.heap.size, 2, none⟩ = some (.int .i64 0) := hO4.cell 2; have o4_3 : w4.cell? ⟨w.heap.size, 3, none⟩ = some (.int .i64 0) := hO4.cell 3; have o4_4 : w4.cell? ⟨w.heap.size, 4, none⟩ = some (.slice none 0 0) := hO4.cell 4; have o4_5 : w4.cell? ⟨w.heap.size, 5, none⟩ = some (.slice none 0 0) := hO4.cell 5; have fo4 := hO4.frozen; have zo4 := hO4.lt))
 go_wp2_with ((with_reducible refine at_loadT 59 5 ?_); refine wpList_load_rowG rfl 59 (.tmp 5) rfl gA rfl 59 _ _ hA4 hu rfl hsz ?_)
 refine (HMY.out w4 hb4).mono ?_
 rintro e w5 ⟨rfl, hb5⟩
 have hb5w := hb4w.trans (hb5.mono hb4w.size)
 have hO5 := hO4.below hb5 hO4.lt
 have hA5 := hA4.below hb5 hA4.lt
 have o5_0 : w5.cell? ⟨w.heap.size, 0, none⟩ = some (.int .i64 0) := hO5.cell 0
 have o5_1 : w5.cell? ⟨w.heap.size, 1, none⟩ = some (.int .i64 0) := hO5.cell 1
 have o5_2 : w5.cell? ⟨w.heap.size, 2, none⟩ = some (.int .i64 0) := hO5.cell 2
 have o5_3 : w5.cell? ⟨w.heap.size, 3, none⟩ = some (.int .i64 0) := hO5.cell 3
 have o5_4 : w5.cell? ⟨w.heap.size, 4, none⟩ = some (.slice none 0 0) := hO5.cell 4
 have o5_5 : w5.cell? ⟨w.heap.size, 5, none⟩ = some (.slice none 0 0) := hO5.cell 5
 have fo5 := hO5.frozen
 have zo5 := hO5.lt
 go_wp2_with fail
 obtain ⟨w6, hw6⟩ : ∃ W, ((((((w5.setCell ⟨w.heap.size, 0, none⟩ (.int .i64 0)).setCell ⟨w.heap.size, 1, none⟩ (.int .i64 0)).setCell ⟨w.heap.size, 2, none⟩ (.int .i64 0)).setCell ⟨w.heap.size, 3, none⟩ (.int .i64 0)).setCell ⟨w.heap.size, 4, none⟩ (.slice none 0 0)).setCell ⟨w.heap.size, 5, none⟩ (.slice none 0 0)) = W := ⟨_, rfl⟩
 have hO6 : Held w6 w.heap.size 59 #[.int .i64 0, .int .i64 0, .int .i64 0, .int .i64 0, .slice none 0 0, .slice none 0 0] := by rw [← hw6]; exact ((((((hO5.set 0 _).set 1 _).set 2 _).set 3 _).set 4 _).set 5 _)
 have hb6w : Below w.heap.size w w6 := by rw [← hw6]; exact ((((((hb5w.setCell (p := ⟨w.heap.size, 0, none⟩) (Nat.le_refl _) _).setCell (p := ⟨w.heap.size, 1, none⟩) (Nat.le_refl _) _).setCell (p := ⟨w.heap.size, 2, none⟩) (Nat.le_refl _) _).setCell (p := ⟨w.heap.size, 3, none⟩) (Nat.le_refl _) _).setCell (p := ⟨w.heap.size, 4, none⟩) (Nat.le_refl _) _).setCell (p := ⟨w.heap.size, 5, none⟩) (Nat.le_refl _) _)
 have hoff6 : OffB w5 w6 w.heap.size := by rw [← hw6]; exact ((((((OffB.refl _ w.heap.size).set 0 _).set 1 _).set 2 _).set 3 _).set 4 _).set 5 _
 rw [hw6]
 clear hw6
 obtain ⟨q6_0, q6_1, q6_2, q6_3, q6_4, q6_5⟩ := zC6 hO6
 have fq6 := hO6.frozen
 have zq6 := hO6.lt
 have HP : ReadPost w (ask0, 2, 190) (.returned (.tuple #[.agg #[.int .i64 0, .int .i64 0, .int .i64 0, .int .i64 0, .slice none 0 0, .slice none 0 0], .int .i64 2, .int .i64 190])) w6 := ⟨_, rfl, ask0_at _, hb6w⟩
 exact bodyPost_ret (v := .tuple #[.agg #[.int .i64 0, .int .i64 0, .int .i64 0, .int .i64 0, .slice none 0 0, .slice none 0 0], .int .i64 2, .int .i64 190]) (by simp [results, Tryd.results95, go_sem, q6_0, q6_1, q6_2, q6_3, q6_4, q6_5]) rfl HP
set_option maxRecDepth 100000 in
set_option maxHeartbeats 2000000 in
theorem rf_yes (g off n c : Nat) (fn : Int) (d : List Int) (w : World) (hB : SlI w w.heap.size .u8 (some ⟨g, off, none⟩) n c (fn :: d)) (hb8 : Byte8 (fn :: d)) (hn1 : 1 ≤ n) (hn2 : n ≤ 253) (r bt rg : Int) (hlim : limP fn = some (r, bt, rg)) (pa pc pt : Int) (bits : List Bool) (regs : List Int) (hgs : ∀ X, Below w.heap.size w X → Calls Tryd.prog 128 #[.slice (some ⟨g, off, none⟩) n c] X (FPost X (some (⟨fn, pa, pc, pt, bits, regs⟩ : AskP)))) (hml : limitsP (⟨fn, pa, pc, pt, bits, regs⟩ : AskP) = true) (hmy : mayP (⟨fn, pa, pc, pt, bits, regs⟩ : AskP) = true) :
  Calls Tryd.prog 95 #[.slice (some ⟨g, off, none⟩) n c] w (ReadPost w ((⟨fn, pa, pc, pt, bits, regs⟩ : AskP), 0, 0)) := by
 obtain ⟨w1, hw1⟩ : ∃ w1, w.alloc (.cells #[.int .i64 0, .int .i64 0, .int .i64 0, .int .i64 0, .slice none 0 0, .slice none 0 0] 59) = w1 := ⟨_, rfl⟩
 have hb1 : Below w.heap.size w w1 := by rw [← hw1]; exact (Below.refl _ w).alloc (Nat.le_refl _) _
 have hO1 : Held w1 w.heap.size 59 #[.int .i64 0, .int .i64 0, .int .i64 0, .int .i64 0, .slice none 0 0, .slice none 0 0] := by rw [← hw1]; exact Held.new w _ _
 have HW1 := Lib.hid hw1
 clear hw1
 have hu := Tryd.underlying59
 have hsz : (Tryd.prog.info? 59).map (·.size) = some 6 := by kernel_rfl
 have hl := hB.1
 have hcap := hB.2.1
 have h1n : ((n : Int) == 0) = false := by rw [beq_eq_false_iff_ne]; omega
 have h1m : (n == 0) = false := by rw [beq_eq_false_iff_ne]; omega
 have h2n : decide ((n : Int) > 253) = false := decide_eq_false (by omega)
 have h2m : decide (253 < (n : Int)) = false := decide_eq_false (by omega)
 have h2k : ¬ (253 : Int) < (n : Int) := by omega
 have h0n : 0 < n := by omega
 have h0n' : (0 : Int) < (n : Int) := by omega
 have hfr : 0 ≤ fn ∧ fn < 256 := hb8 fn (by simp)
 have hwf : IntKind.i64.wrap fn = fn := IntWalk.i64_in fn (by omega)
 have HC0 : Hid (∀ X, Below w.heap.size w X → X.cell? ⟨g, off, none⟩ = some (.int .u8 fn)) := Lib.hid (fun X h => by
  obtain ⟨g', o', e, _, hc⟩ := (hB.up h).2.2.2.2 (by simp)
  injection e with e
  injection e with e1 e2
  subst e1 e2
  simpa using hc 0 fn rfl)
 have HKN := Lib.hid (fun (X : World) => known_any fn X)
 rw [hlim, show (some (r, bt, rg) : Option (Int × Int × Int)).isSome = true from rfl] at HKN
 have HG : Hid (∀ X, Below w.heap.size w X → Calls Tryd.prog 128 #[.slice (some ⟨g, off, none⟩) n c] X fun e w' => ∃ Ab nb cb Ar nr cr, e = .returned (.tuple #[.agg #[.int .i64 fn, .int .i64 pa, .int .i64 pc, .int .i64 pt, .slice Ab nb cb, .slice Ar nr cr], .bool true]) ∧ SlB w' w'.heap.size Ab nb cb bits ∧ SlI w' w'.heap.size .u16 Ar nr cr regs ∧ Below X.heap.size X w') := Lib.hid (fun X h => by
  have h1 := hgs X h
  refine h1.mono ?_
  intro e w' h2
  obtain ⟨v, a, rfl, ⟨Ab, nb, cb, Ar, nr, cr, rfl, sb, sr⟩, hb⟩ := h2
  exact ⟨Ab, nb, cb, Ar, nr, cr, rfl, sb, sr, hb⟩)
 clear hgs hB hl
 go_in
 go_upto_region 1 with (fail)
 rw [HW1.out]
 have c01 := HC0.out w1 hb1
 have hb1w := hb1
 obtain ⟨o1_0, o1_1, o1_2, o1_3, o1_4, o1_5⟩ := zC6 hO1
 have fo1 := hO1.frozen
 have zo1 := hO1.lt
 go_wp2_with (go_at_call 127; (with_reducible refine (HKN.out _).mono ?_); rintro e w' ⟨rfl, rfl⟩)
 refine (HG.out w1 hb1).mono ?_
 rintro e w2 ⟨Ab, nb, cb, Ar, nr, cr, rfl, sb2, sr2, hb2⟩
 have hb2w := hb1.trans (hb2.mono hb1.size)
 have hO2 := hO1.below hb2 hO1.lt
 obtain ⟨w3, hw3⟩ : ∃ W, w2.alloc (.cells #[.int .i64 fn, .int .i64 pa, .int .i64 pc, .int .i64 pt, .slice Ab nb cb, .slice Ar nr cr] 59) = W := ⟨_, rfl⟩
 have hb3 : Below w2.heap.size w2 w3 := by rw [← hw3]; exact (Below.refl _ _).alloc (Nat.le_refl _) _
 have hb3w := hb2w.trans (hb3.mono hb2w.size)
 have hO3 := hO2.below hb3 hO2.lt
 have hA3 : Held w3 w2.heap.size 59 #[.int .i64 fn, .int .i64 pa, .int .i64 pc, .int .i64 pt, .slice Ab nb cb, .slice Ar nr cr] := by rw [← hw3]; exact Held.new _ _ _
 go_upto_region 6 with (fail)
 clear hw3
 obtain ⟨gA, hgA⟩ : ∃ x, w2.heap.size = x := ⟨_, rfl⟩
 rw [hgA] at hA3
 rw [hgA]
 have HLA : Hid (w.heap.size < gA) := Lib.hid (by have := hO2.lt; omega)
 clear hgA
 obtain ⟨o3_0, o3_1, o3_2, o3_3, o3_4, o3_5⟩ := zC6 hO3
 have fo3 := hO3.frozen
 have zo3 := hO3.lt
 have HLM : Hid (∀ X, Calls Tryd.prog 129 #[.agg #[.int .i64 fn, .int .i64 pa, .int .i64 pc, .int .i64 pt, .slice Ab nb cb, .slice Ar nr cr]] X fun e w' => e = .returned (.bool true) ∧ Below X.heap.size X w') := Lib.hid (fun X => by
  have h1 := limits_any fn pa pc pt Ab nb cb Ar nr cr X r bt rg hlim
  have h2 : (fitP pc r && fitP (nb : Int) bt && fitP (nr : Int) rg) = limitsP (⟨fn, pa, pc, pt, bits, regs⟩ : AskP) := by
   have e : limitsP (⟨fn, pa, pc, pt, bits, regs⟩ : AskP) = (match limP fn with | none => false | some (r, b, g) => fitP pc r && fitP bits.length b && fitP regs.length g) := rfl
   rw [e, hlim, ← sb2.1, ← sr2.1]
  rw [h2, hml] at h1
  exact h1)
 clear hlim hml
 have sb3 := (sb2.up hb3)
 have sr3 := (sr2.up hb3)
 have HMY : Hid (∀ X, Below w3.heap.size w3 X → Calls Tryd.prog 115 #[.agg #[.int .i64 fn, .int .i64 pa, .int .i64 pc, .int .i64 pt, .slice Ab nb cb, .slice Ar nr cr]] X fun e w' => e = .returned (.bool true) ∧ Below X.heap.size X w') := Lib.hid (fun X h => by
  have h1 := may_any (.agg #[.int .i64 fn, .int .i64 pa, .int .i64 pc, .int .i64 pt, .slice Ab nb cb, .slice Ar nr cr]) (⟨fn, pa, pc, pt, bits, regs⟩ : AskP) X ⟨Ab, nb, cb, Ar, nr, cr, rfl, sb3.up h, sr3.up h⟩
  rw [hmy] at h1
  exact h1)
 clear hmy
 go_upto_region 8 with (first | ((with_reducible refine at_loadT 59 5 ?_); refine wpList_load_rowG rfl 59 (.tmp 5) rfl gA rfl 59 _ _ hA3 hu rfl hsz ?_) | (go_at_call 129; (with_reducible refine (HLM.out _).mono ?_); rintro e w4 ⟨rfl, hb4⟩; have hb4w := hb3w.trans (hb4.mono hb3w.size); have hO4 := hO3.below hb4 hO3.lt; have hA4 := hA3.below hb4 hA3.lt; have o4_0 : w4.cell? ⟨w.heap.size, 0, none⟩ = some (.int .i64 0) := hO4.cell 0; have o4_1 : w4.cell? ⟨w.heap.size, 1, none⟩ = some (.int .i64 0) := hO4.cell 1; have o4_2 : w4.cell? ⟨w.heap.size, 2, none⟩ = some (.int .i64 0) := hO4.cell 2; have o4_3 : w4.cell? ⟨w.heap.size, 3, none⟩ = some (.int .i64 0) := hO4.cell 3; have o4_4 : w4.cell? ⟨w.heap.size, 4, none⟩ = some (.slice none 0 0) := hO4.cell 4; have o4_5 : w4.cell? ⟨w.heap.size, 5, none⟩ = some (.slice none 0 0) := hO4.cell 5; have fo4 := hO4.frozen; have zo4 := hO4.lt))
 go_wp2_with ((with_reducible refine at_loadT 59 5 ?_); refine wpList_load_rowG rfl 59 (.tmp 5) rfl gA rfl 59 _ _ hA4 hu rfl hsz ?_)
 refine (HMY.out w4 hb4).mono ?_
 rintro e w5 ⟨rfl, hb5⟩
 have hb5w := hb4w.trans (hb5.mono hb4w.size)
 have hO5 := hO4.below hb5 hO4.lt
 have hA5 := hA4.below hb5 hA4.lt
 have o5_0 : w5.cell? ⟨w.heap.size, 0, none⟩ = some (.int .i64 0) := hO5.cell 0
 have o5_1 : w5.cell? ⟨w.heap.size, 1, none⟩ = some (.int .i64 0) := hO5.cell 1
 have o5_2 : w5.cell? ⟨w.heap.size, 2, none⟩ = some (.int .i64 0) := hO5.cell 2
 have o5_3 : w5.cell? ⟨w.heap.size, 3, none⟩ = some (.int .i64 0) := hO5.cell 3
 have o5_4 : w5.cell? ⟨w.heap.size, 4, none⟩ = some (.slice none 0 0) := hO5.cell 4
 have o5_5 : w5.cell? ⟨w.heap.size, 5, none⟩ = some (.slice none 0 0) := hO5.cell 5
 have fo5 := hO5.frozen
 have zo5 := hO5.lt
 go_wp2_with ((with_reducible refine at_loadT 59 5 ?_); refine wpList_load_rowG rfl 59 (.tmp 5) rfl gA rfl 59 _ _ hA5 hu rfl hsz ?_)
 obtain ⟨w6, hw6⟩ : ∃ W, ((((((w5.setCell ⟨w.heap.size, 0, none⟩ (.int .i64 fn)).setCell ⟨w.heap.size, 1, none⟩ (.int .i64 pa)).setCell ⟨w.heap.size, 2, none⟩ (.int .i64 pc)).setCell ⟨w.heap.size, 3, none⟩ (.int .i64 pt)).setCell ⟨w.heap.size, 4, none⟩ (.slice Ab nb cb)).setCell ⟨w.heap.size, 5, none⟩ (.slice Ar nr cr)) = W := ⟨_, rfl⟩
 have hO6 : Held w6 w.heap.size 59 #[.int .i64 fn, .int .i64 pa, .int .i64 pc, .int .i64 pt, .slice Ab nb cb, .slice Ar nr cr] := by rw [← hw6]; exact ((((((hO5.set 0 _).set 1 _).set 2 _).set 3 _).set 4 _).set 5 _)
 have hb6w : Below w.heap.size w w6 := by rw [← hw6]; exact ((((((hb5w.setCell (p := ⟨w.heap.size, 0, none⟩) (Nat.le_refl _) _).setCell (p := ⟨w.heap.size, 1, none⟩) (Nat.le_refl _) _).setCell (p := ⟨w.heap.size, 2, none⟩) (Nat.le_refl _) _).setCell (p := ⟨w.heap.size, 3, none⟩) (Nat.le_refl _) _).setCell (p := ⟨w.heap.size, 4, none⟩) (Nat.le_refl _) _).setCell (p := ⟨w.heap.size, 5, none⟩) (Nat.le_refl _) _)
 have hoff6 : OffB w5 w6 w.heap.size := by rw [← hw6]; exact ((((((OffB.refl _ w.heap.size).set 0 _).set 1 _).set 2 _).set 3 _).set 4 _).set 5 _
 rw [hw6]
 clear hw6
 have sb6 := ((sb3.up hb4).up hb5).off hoff6 hO5 (by intro v hv x e; subst e; simp at hv)
 have sr6 := ((sr3.up hb4).up hb5).off hoff6 hO5 (by intro v hv x e; subst e; simp at hv)
 obtain ⟨q6_0, q6_1, q6_2, q6_3, q6_4, q6_5⟩ := zC6 hO6
 have fq6 := hO6.frozen
 have zq6 := hO6.lt
 have HP : ReadPost w ((⟨fn, pa, pc, pt, bits, regs⟩ : AskP), 0, 0) (.returned (.tuple #[.agg #[.int .i64 fn, .int .i64 pa, .int .i64 pc, .int .i64 pt, .slice Ab nb cb, .slice Ar nr cr], .int .i64 0, .int .i64 0])) w6 := ⟨_, rfl, ⟨Ab, nb, cb, Ar, nr, cr, rfl, sb6, sr6⟩, hb6w⟩
 exact bodyPost_ret (v := .tuple #[.agg #[.int .i64 fn, .int .i64 pa, .int .i64 pc, .int .i64 pt, .slice Ab nb cb, .slice Ar nr cr], .int .i64 0, .int .i64 0]) (by simp [results, Tryd.results95, go_sem, q6_0, q6_1, q6_2, q6_3, q6_4, q6_5]) rfl HP
theorem read_ref (A : Option Addr) (n c : Nat) (b : List Int) (w : World) (hB : SlI w w.heap.size .u8 A n c b) (hb8 : Byte8 b) :
  Calls Tryd.prog 95 #[.slice A n c] w (ReadPost w (readP b)) := by
 have hl := hB.1
 by_cases h0 : n = 0
 ·have e : readP b = (ask0, 0, 190) := by unfold readP; rw [if_pos (Or.inl (by omega))]
  rw [e]
  exact rf_0 A n c w h0
 by_cases h253 : 253 < n
 ·have e : readP b = (ask0, 0, 190) := by unfold readP; rw [if_pos (Or.inr (by omega))]
  rw [e]
  exact rf_l A n c w h253
 obtain ⟨g, off, rfl, hg⟩ := hB.some_ (by omega)
 obtain ⟨fn, d, rfl⟩ : ∃ x l, b = x :: l := by
  cases b with
  | nil => simp at hl; omega
  | cons x l => exact ⟨x, l, rfl⟩
 have e0 : readP (fn :: d) = match limP fn with
  | none => (ask0, 1, 190)
  | some _ => match parseP (fn :: d) with
   | none => (ask0, 3, 190)
   | some a => if mayP a then (a, 0, 0) else (ask0, 2, 190) := by
  unfold readP
  rw [if_neg (by omega)]
  rfl
 rw [e0]
 cases hlim : limP fn with
 | none => exact rf_none g off n c fn d w hB hb8 (by omega) (by omega) hlim
 | some t =>
  obtain ⟨r, bt, rg⟩ := t
  obtain ⟨o, ⟨ho, hf⟩, HG⟩ := guess_ref fn d g off n c w hB hb8 (by omega) r bt rg hlim
  cases o with
  | none =>
   have hp : parseP (fn :: d) = none := ho.symm
   rw [hp]
   exact rf_bad g off n c fn d w hB hb8 (by omega) (by omega) r bt rg hlim HG
  | some p =>
   have hpf := hf p rfl
   obtain ⟨pf, pa, pc, pt, bits, regs⟩ := p
   simp only at hpf
   subst hpf
   cases hml : limitsP ⟨pf, pa, pc, pt, bits, regs⟩ with
   | false =>
    have hp : parseP (pf :: d) = none := by rw [← ho]; simp [filt, hml]
    rw [hp]
    exact rf_lim g off n c pf d w hB hb8 (by omega) (by omega) r bt rg hlim pa pc pt bits regs HG hml
   | true =>
    have hp : parseP (pf :: d) = some ⟨pf, pa, pc, pt, bits, regs⟩ := by rw [← ho]; simp [filt, hml]
    rw [hp]
    cases hmy : mayP ⟨pf, pa, pc, pt, bits, regs⟩ with
    | false => simpa [hmy] using rf_not g off n c pf d w hB hb8 (by omega) (by omega) r bt rg hlim pa pc pt bits regs HG hml hmy
    | true => simpa [hmy] using rf_yes g off n c pf d w hB hb8 (by omega) (by omega) r bt rg hlim pa pc pt bits regs HG hml hmy
end Go.Proofs.YtcipleanckeoaaaDoor
