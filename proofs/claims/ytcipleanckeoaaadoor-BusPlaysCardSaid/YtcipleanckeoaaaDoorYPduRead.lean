/- pdu.Read is the document's. -/
import Derived.Test.YtcipleanckeoaaaDoorYTk
import Derived.Test.YtcipleanckeoaaaDoorYPduFieldsJ
import Derived.Test.YtcipleanckeoaaaDoorYPduCheck
import Derived.Test.YtcipleanckeoaaaDoorYPduBase
import Derived.Deep.Cut
set_option maxRecDepth 100000
set_option maxHeartbeats 40000000
namespace Go.Proofs.YtcipleanckeoaaaDoor
open Go.RowKit
set_option linter.unusedVariables false
def ReadPost (w : World) (r : AskP × Int × Int) (e : Ending) (w' : World) : Prop := ∃ v, e = .returned (.tuple #[v, .int .i64 r.2.1, .int .i64 r.2.2]) ∧ AskAt w' v r.1 ∧ Below w.heap.size w w'
theorem ask0_at (w : World) : AskAt w (.agg #[.int .i64 0, .int .i64 0, .int .i64 0, .int .i64 0, .slice none 0 0, .slice none 0 0]) ask0 := ⟨none, 0, 0, none, 0, 0, rfl, SlB.nil _ _, SlI.nil _ _ _⟩
theorem SlI.drop_if {w : World} {B : Nat} {k : IntKind} {g off n c : Nat} {xs : List Int} (h : SlI w B k (some ⟨g, off, none⟩) n c xs) (m : Nat) (hm : m ≤ n) : SlI w B k (if c = m then some ⟨g, off, none⟩ else some ⟨g, off + m, none⟩) (n - m) (c - m) (xs.drop m) := by
 by_cases hc : c = m
 ·rw [if_pos hc]
  have h1 := h.1
  have h2 := h.2.1
  have hx : xs.drop m = [] := List.drop_eq_nil_of_le (by omega)
  rw [hx]
  exact ⟨by simp; omega, by omega, by have := h.2.2.1; omega, fun h => absurd h (by simp), RdI.nil⟩
 ·rw [if_neg hc]
  exact h.drop m hm
theorem rd_0 (A : Option Addr) (n c : Nat) (w : World) (hn : n = 0) :
  Calls Tryd.prog 93 #[.slice A n c] w (ReadPost w (ask0, 0, 190)) := by
 subst hn
 obtain ⟨w1, hw1⟩ : ∃ w1, w.alloc (.cells #[.int .i64 0, .int .i64 0, .int .i64 0, .int .i64 0, .slice none 0 0, .slice none 0 0] 59) = w1 := ⟨_, rfl⟩
 have hb1 := zB1 hw1
 have hO1 := zH1 hw1
 have HW1 := Lib.hid hw1
 clear hw1
 have hu := Tryd.underlying59
 have hsz := zSz
 have hb1w := hb1
 go_in
 go_upto_region 1 with fail
 rw [HW1.out]
 obtain ⟨o1_0, o1_1, o1_2, o1_3, o1_4, o1_5⟩ := zC6 hO1
 have fo1 := hO1.frozen
 have zo1 := hO1.lt
 go_wp2_with fail
 obtain ⟨w2, hw2⟩ : ∃ W, ((((((w1.setCell ⟨w.heap.size, 0, none⟩ (.int .i64 0)).setCell ⟨w.heap.size, 1, none⟩ (.int .i64 0)).setCell ⟨w.heap.size, 2, none⟩ (.int .i64 0)).setCell ⟨w.heap.size, 3, none⟩ (.int .i64 0)).setCell ⟨w.heap.size, 4, none⟩ (.slice none 0 0)).setCell ⟨w.heap.size, 5, none⟩ (.slice none 0 0)) = W := ⟨_, rfl⟩
 have hO2 : Held w2 w.heap.size 59 #[.int .i64 0, .int .i64 0, .int .i64 0, .int .i64 0, .slice none 0 0, .slice none 0 0] := by rw [← hw2]; exact ((((((hO1.set 0 _).set 1 _).set 2 _).set 3 _).set 4 _).set 5 _)
 have hb2w : Below w.heap.size w w2 := by rw [← hw2]; exact ((((((hb1w.setCell (p := ⟨w.heap.size, 0, none⟩) (Nat.le_refl _) _).setCell (p := ⟨w.heap.size, 1, none⟩) (Nat.le_refl _) _).setCell (p := ⟨w.heap.size, 2, none⟩) (Nat.le_refl _) _).setCell (p := ⟨w.heap.size, 3, none⟩) (Nat.le_refl _) _).setCell (p := ⟨w.heap.size, 4, none⟩) (Nat.le_refl _) _).setCell (p := ⟨w.heap.size, 5, none⟩) (Nat.le_refl _) _)
 have hoff2 : OffB w1 w2 w.heap.size := by rw [← hw2]; exact ((((((OffB.refl _ w.heap.size).set 0 _).set 1 _).set 2 _).set 3 _).set 4 _).set 5 _
 rw [hw2]
 clear hw2
 obtain ⟨q2_0, q2_1, q2_2, q2_3, q2_4, q2_5⟩ := zC6 hO2
 have fq2 := hO2.frozen
 have zq2 := hO2.lt
 have HP : ReadPost w (ask0, 0, 190) (.returned (.tuple #[.agg #[.int .i64 0, .int .i64 0, .int .i64 0, .int .i64 0, .slice none 0 0, .slice none 0 0], .int .i64 0, .int .i64 190])) w2 := ⟨_, rfl, ask0_at _, hb2w⟩
 exact bodyPost_ret (v := .tuple #[.agg #[.int .i64 0, .int .i64 0, .int .i64 0, .int .i64 0, .slice none 0 0, .slice none 0 0], .int .i64 0, .int .i64 190]) (by simp [results, Tryd.results93, go_sem, q2_0, q2_1, q2_2, q2_3, q2_4, q2_5]) rfl HP
theorem rd_l (A : Option Addr) (n c : Nat) (w : World) (hn : 253 < n) :
  Calls Tryd.prog 93 #[.slice A n c] w (ReadPost w (ask0, 0, 190)) := by
 have h1n : ¬ (n : Int) < 1 := by omega
 have h2n : (n : Int) > 253 := by omega
 obtain ⟨w1, hw1⟩ : ∃ w1, w.alloc (.cells #[.int .i64 0, .int .i64 0, .int .i64 0, .int .i64 0, .slice none 0 0, .slice none 0 0] 59) = w1 := ⟨_, rfl⟩
 have hb1 := zB1 hw1
 have hO1 := zH1 hw1
 have HW1 := Lib.hid hw1
 clear hw1
 have hu := Tryd.underlying59
 have hsz := zSz
 have hb1w := hb1
 go_in
 go_upto_region 1 with fail
 rw [HW1.out]
 obtain ⟨o1_0, o1_1, o1_2, o1_3, o1_4, o1_5⟩ := zC6 hO1
 have fo1 := hO1.frozen
 have zo1 := hO1.lt
 go_wp2_with fail
 obtain ⟨w2, hw2⟩ : ∃ W, ((((((w1.setCell ⟨w.heap.size, 0, none⟩ (.int .i64 0)).setCell ⟨w.heap.size, 1, none⟩ (.int .i64 0)).setCell ⟨w.heap.size, 2, none⟩ (.int .i64 0)).setCell ⟨w.heap.size, 3, none⟩ (.int .i64 0)).setCell ⟨w.heap.size, 4, none⟩ (.slice none 0 0)).setCell ⟨w.heap.size, 5, none⟩ (.slice none 0 0)) = W := ⟨_, rfl⟩
 have hO2 : Held w2 w.heap.size 59 #[.int .i64 0, .int .i64 0, .int .i64 0, .int .i64 0, .slice none 0 0, .slice none 0 0] := by rw [← hw2]; exact ((((((hO1.set 0 _).set 1 _).set 2 _).set 3 _).set 4 _).set 5 _)
 have hb2w : Below w.heap.size w w2 := by rw [← hw2]; exact ((((((hb1w.setCell (p := ⟨w.heap.size, 0, none⟩) (Nat.le_refl _) _).setCell (p := ⟨w.heap.size, 1, none⟩) (Nat.le_refl _) _).setCell (p := ⟨w.heap.size, 2, none⟩) (Nat.le_refl _) _).setCell (p := ⟨w.heap.size, 3, none⟩) (Nat.le_refl _) _).setCell (p := ⟨w.heap.size, 4, none⟩) (Nat.le_refl _) _).setCell (p := ⟨w.heap.size, 5, none⟩) (Nat.le_refl _) _)
 have hoff2 : OffB w1 w2 w.heap.size := by rw [← hw2]; exact ((((((OffB.refl _ w.heap.size).set 0 _).set 1 _).set 2 _).set 3 _).set 4 _).set 5 _
 rw [hw2]
 clear hw2
 obtain ⟨q2_0, q2_1, q2_2, q2_3, q2_4, q2_5⟩ := zC6 hO2
 have fq2 := hO2.frozen
 have zq2 := hO2.lt
 have HP : ReadPost w (ask0, 0, 190) (.returned (.tuple #[.agg #[.int .i64 0, .int .i64 0, .int .i64 0, .int .i64 0, .slice none 0 0, .slice none 0 0], .int .i64 0, .int .i64 190])) w2 := ⟨_, rfl, ask0_at _, hb2w⟩
 exact bodyPost_ret (v := .tuple #[.agg #[.int .i64 0, .int .i64 0, .int .i64 0, .int .i64 0, .slice none 0 0, .slice none 0 0], .int .i64 0, .int .i64 190]) (by simp [results, Tryd.results93, go_sem, q2_0, q2_1, q2_2, q2_3, q2_4, q2_5]) rfl HP
theorem rd_none (g off n c : Nat) (b : List Int) (w : World) (hT : LimT w) (hB : SlI w w.heap.size .u8 (some ⟨g, off, none⟩) n c b) (hb8 : Byte8 b) (hn1 : 1 ≤ n) (hn2 : n ≤ 253) (fn : Int) (h0 : b[0]? = some fn) (hlim : limP fn = none) :
  Calls Tryd.prog 93 #[.slice (some ⟨g, off, none⟩) n c] w (ReadPost w (ask0, 1, 190)) := by
 obtain ⟨w1, hw1⟩ : ∃ w1, w.alloc (.cells #[.int .i64 0, .int .i64 0, .int .i64 0, .int .i64 0, .slice none 0 0, .slice none 0 0] 59) = w1 := ⟨_, rfl⟩
 have hb1 := zB1 hw1
 have hO1 := zH1 hw1
 have HW1 := Lib.hid hw1
 clear hw1
 have hu := Tryd.underlying59
 have hsz := zSz
 have hl := hB.1
 have hcap := hB.2.1
 have h1n : ¬ (n : Int) < 1 := by omega
 have h2n : ¬ (n : Int) > 253 := by omega
 have h0n : 0 < n := by omega
 have h0n' : (0 : Int) < (n : Int) := by omega
 have h1n' : (1 : Int) ≤ (n : Int) := by omega
 have hnc : (n : Int) ≤ (c : Int) := by omega
 have hfr : 0 ≤ fn ∧ fn < 256 := hb8 fn (List.mem_of_getElem? h0)
 have hwf : IntKind.i64.wrap fn = fn := IntWalk.i64_in fn (by omega)
 have HC0 : Hid (∀ X, Below w.heap.size w X → X.cell? ⟨g, off, none⟩ = some (.int .u8 fn)) := Lib.hid (fun X h => by
  obtain ⟨g', o', e, _, hc⟩ := (hB.up h).2.2.2.2 (by omega)
  injection e with e
  injection e with e1 e2
  subst e1 e2
  simpa using hc 0 fn h0)
 have HT := Lib.hid (fun (X : World) (h : Below w.heap.size w X) => hT.up h)
 clear hT
 have HOF : Hid (∀ X, Below w.heap.size w X → Calls Tryd.prog 98 #[.int .i64 fn] X fun e w' => e = .returned (.tuple #[.agg #[.int .i64 0, .int .i64 0, .int .i64 0, .int .i64 0], .bool false]) ∧ Below X.heap.size X w') := Lib.hid (fun X h => by
  have h1 := of_own fn X (HT.out X h)
  unfold ofV at h1
  rw [hlim] at h1
  exact h1)
 clear hlim
 go_in
 go_upto_region 1 with fail
 rw [HW1.out]
 have c01 := HC0.out w1 hb1
 go_upto_region 4 with (go_at_call 98; (with_reducible refine (HOF.out w1 hb1).mono ?_); rintro e w2 ⟨rfl, hb2⟩)
 have hb2w := hb1.trans (hb2.mono hb1.size)
 have hO2 := hO1.below hb2 hO1.lt
 obtain ⟨w3, hw3⟩ : ∃ w3, w2.alloc (.cells #[.int .i64 0, .int .i64 0, .int .i64 0, .int .i64 0] 167) = w3 := ⟨_, rfl⟩
 have hb3 := zB1 hw3
 have hb3w := hb2w.trans (hb3.mono hb2w.size)
 have hO3 := hO2.below hb3 hO2.lt
 have hL3 := zH1 hw3
 have hLO : Hid (w.heap.size ≠ w2.heap.size) := Lib.hid (by have := hO2.lt; omega)
 rw [hw3]
 clear hw3
 obtain ⟨gl, hgl⟩ : ∃ x, w2.heap.size = x := ⟨_, rfl⟩
 rw [hgl] at hL3 hLO
 rw [hgl]
 clear hgl hb3
 obtain ⟨o3_0, o3_1, o3_2, o3_3, o3_4, o3_5⟩ := zC6 hO3
 have fo3 := hO3.frozen
 have zo3 := hO3.lt
 go_wp2_with fail
 obtain ⟨w4, hw4⟩ : ∃ W, ((((((w3.setCell ⟨w.heap.size, 0, none⟩ (.int .i64 0)).setCell ⟨w.heap.size, 1, none⟩ (.int .i64 0)).setCell ⟨w.heap.size, 2, none⟩ (.int .i64 0)).setCell ⟨w.heap.size, 3, none⟩ (.int .i64 0)).setCell ⟨w.heap.size, 4, none⟩ (.slice none 0 0)).setCell ⟨w.heap.size, 5, none⟩ (.slice none 0 0)) = W := ⟨_, rfl⟩
 have hO4 : Held w4 w.heap.size 59 #[.int .i64 0, .int .i64 0, .int .i64 0, .int .i64 0, .slice none 0 0, .slice none 0 0] := by rw [← hw4]; exact ((((((hO3.set 0 _).set 1 _).set 2 _).set 3 _).set 4 _).set 5 _)
 have hb4w : Below w.heap.size w w4 := by rw [← hw4]; exact ((((((hb3w.setCell (p := ⟨w.heap.size, 0, none⟩) (Nat.le_refl _) _).setCell (p := ⟨w.heap.size, 1, none⟩) (Nat.le_refl _) _).setCell (p := ⟨w.heap.size, 2, none⟩) (Nat.le_refl _) _).setCell (p := ⟨w.heap.size, 3, none⟩) (Nat.le_refl _) _).setCell (p := ⟨w.heap.size, 4, none⟩) (Nat.le_refl _) _).setCell (p := ⟨w.heap.size, 5, none⟩) (Nat.le_refl _) _)
 have hoff4 : OffB w3 w4 w.heap.size := by rw [← hw4]; exact ((((((OffB.refl _ w.heap.size).set 0 _).set 1 _).set 2 _).set 3 _).set 4 _).set 5 _
 rw [hw4]
 clear hw4
 obtain ⟨q4_0, q4_1, q4_2, q4_3, q4_4, q4_5⟩ := zC6 hO4
 have fq4 := hO4.frozen
 have zq4 := hO4.lt
 have HP : ReadPost w (ask0, 1, 190) (.returned (.tuple #[.agg #[.int .i64 0, .int .i64 0, .int .i64 0, .int .i64 0, .slice none 0 0, .slice none 0 0], .int .i64 1, .int .i64 190])) w4 := ⟨_, rfl, ask0_at _, hb4w⟩
 exact bodyPost_ret (v := .tuple #[.agg #[.int .i64 0, .int .i64 0, .int .i64 0, .int .i64 0, .slice none 0 0, .slice none 0 0], .int .i64 1, .int .i64 190]) (by simp [results, Tryd.results93, go_sem, q4_0, q4_1, q4_2, q4_3, q4_4, q4_5]) rfl HP
theorem rd_bad (g off n c : Nat) (b : List Int) (w : World) (hT : LimT w) (hB : SlI w w.heap.size .u8 (some ⟨g, off, none⟩) n c b) (hb8 : Byte8 b) (hn1 : 1 ≤ n) (hn2 : n ≤ 253) (fn rd bt rg : Int) (h0 : b[0]? = some fn) (hlim : limP fn = some (rd, bt, rg)) (hp : parseP b = none) :
  Calls Tryd.prog 93 #[.slice (some ⟨g, off, none⟩) n c] w (ReadPost w (ask0, 3, 190)) := by
 have hlim0 := hlim
 obtain ⟨w1, hw1⟩ : ∃ w1, w.alloc (.cells #[.int .i64 0, .int .i64 0, .int .i64 0, .int .i64 0, .slice none 0 0, .slice none 0 0] 59) = w1 := ⟨_, rfl⟩
 have hb1 := zB1 hw1
 have hO1 := zH1 hw1
 have HW1 := Lib.hid hw1
 clear hw1
 have hu := Tryd.underlying59
 have hsz := zSz
 have hl := hB.1
 have hcap := hB.2.1
 have h1n : ¬ (n : Int) < 1 := by omega
 have h2n : ¬ (n : Int) > 253 := by omega
 have h0n : 0 < n := by omega
 have h0n' : (0 : Int) < (n : Int) := by omega
 have h1n' : (1 : Int) ≤ (n : Int) := by omega
 have hnc : (n : Int) ≤ (c : Int) := by omega
 have hfr : 0 ≤ fn ∧ fn < 256 := hb8 fn (List.mem_of_getElem? h0)
 have hwf : IntKind.i64.wrap fn = fn := IntWalk.i64_in fn (by omega)
 have HC0 : Hid (∀ X, Below w.heap.size w X → X.cell? ⟨g, off, none⟩ = some (.int .u8 fn)) := Lib.hid (fun X h => by
  obtain ⟨g', o', e, _, hc⟩ := (hB.up h).2.2.2.2 (by omega)
  injection e with e
  injection e with e1 e2
  subst e1 e2
  simpa using hc 0 fn h0)
 have HT := Lib.hid (fun (X : World) (h : Below w.heap.size w X) => hT.up h)
 clear hT
 have HOF : Hid (∀ X, Below w.heap.size w X → Calls Tryd.prog 98 #[.int .i64 fn] X fun e w' => e = .returned (.tuple #[.agg #[.int .i64 fn, .int .i64 rd, .int .i64 bt, .int .i64 rg], .bool true]) ∧ Below X.heap.size X w') := Lib.hid (fun X h => by
  have h1 := of_own fn X (HT.out X h)
  unfold ofV at h1
  rw [hlim] at h1
  exact h1)
 clear hlim
 obtain ⟨AD, hAD⟩ : ∃ X, (if c = 1 then some (⟨g, off, none⟩ : Addr) else some ⟨g, off + 1, none⟩) = X := ⟨_, rfl⟩
 have hbd : b = fn :: b.drop 1 := by
  cases b with
  | nil => simp at h0
  | cons x d => simp at h0; rw [h0]; rfl
 have HF : Hid (∀ X, Below w.heap.size w X → Calls Tryd.prog 122 #[.agg #[.int .i64 fn, .int .i64 rd, .int .i64 bt, .int .i64 rg], .slice AD (n - 1) (c - 1)] X fun e w' => ∃ pf pa pc pt Ab nb cb Ar nr cr, e = .returned (.tuple #[.agg #[.int .i64 pf, .int .i64 pa, .int .i64 pc, .int .i64 pt, .slice Ab nb cb, .slice Ar nr cr], .bool false]) ∧ Below X.heap.size X w') := Lib.hid (fun X h => by
  have h1 := fields_any fn rd bt rg hlim0 AD (n - 1) (c - 1) (b.drop 1) X (by rw [← hAD]; exact (hB.up h).drop_if 1 hn1) (fun x hx => hb8 x (List.mem_of_mem_drop hx)) (by omega)
  rw [← hbd, hp] at h1
  refine h1.mono ?_
  intro e w' h2
  obtain ⟨v, a, rfl, ⟨Ab, nb, cb, Ar, nr, cr, rfl, sb, sr⟩, hb⟩ := h2
  exact ⟨_, _, _, _, Ab, nb, cb, Ar, nr, cr, rfl, hb⟩)
 clear hbd
 go_in
 go_upto_region 1 with fail
 rw [HW1.out]
 have c01 := HC0.out w1 hb1
 go_upto_region 4 with (go_at_call 98; (with_reducible refine (HOF.out w1 hb1).mono ?_); rintro e w2 ⟨rfl, hb2⟩)
 have hb2w := hb1.trans (hb2.mono hb1.size)
 have hO2 := hO1.below hb2 hO1.lt
 obtain ⟨w3, hw3⟩ : ∃ w3, w2.alloc (.cells #[.int .i64 fn, .int .i64 rd, .int .i64 bt, .int .i64 rg] 167) = w3 := ⟨_, rfl⟩
 have hb3 := zB1 hw3
 have hb3w := hb2w.trans (hb3.mono hb2w.size)
 have hO3 := hO2.below hb3 hO2.lt
 have hL3 := zH1 hw3
 have hLO : Hid (w.heap.size ≠ w2.heap.size) := Lib.hid (by have := hO2.lt; omega)
 rw [hw3]
 clear hw3
 obtain ⟨gl, hgl⟩ : ∃ x, w2.heap.size = x := ⟨_, rfl⟩
 rw [hgl] at hL3 hLO
 rw [hgl]
 clear hgl hb3
 clear hlim0
 go_upto_region 6 with fail
 obtain ⟨w4, hw4⟩ : ∃ W : World, w3.drew = W := ⟨_, rfl⟩
 have hb4 := zB3 hw4
 have hb4w := hb3w.trans (hb4.mono hb3w.size)
 have hO4 := hO3.below hb4 hO3.lt
 have hL4 := hL3.below hb4 hL3.lt
 refine wp_region_held (S := (fun X => Below w.heap.size w X ∧ Held X gl 167 #[.int .i64 fn, .int .i64 rd, .int .i64 bt, .int .i64 rg])) (by kernel_rfl) ?_
 change wpAnyH _ _ _ _ _ _ _ _ w3.drew
 rw [hw4]
 clear hw4
 have hS : (fun X => Below w.heap.size w X ∧ Held X gl 167 #[.int .i64 fn, .int .i64 rd, .int .i64 bt, .int .i64 rg]) w4 := ⟨hb4w, hL4⟩
 refine zU 0 rfl hS ?_ (hy := fun W hH => by
  obtain ⟨hbW, hLW⟩ := hH
  have l0 : W.cell? ⟨gl, 0, none⟩ = some (.int .i64 fn) := hLW.cell 0
  have l1 : W.cell? ⟨gl, 1, none⟩ = some (.int .i64 rd) := hLW.cell 1
  have l2 : W.cell? ⟨gl, 2, none⟩ = some (.int .i64 bt) := hLW.cell 2
  have l3 : W.cell? ⟨gl, 3, none⟩ = some (.int .i64 rg) := hLW.cell 3
  clear hLW hbW
  go_simp
  with_reducible rfl)
 refine zU 1 rfl hS ?_ (hy := fun W hH => by
  obtain ⟨hbW, hLW⟩ := hH
  have l0 : W.cell? ⟨gl, 0, none⟩ = some (.int .i64 fn) := hLW.cell 0
  have l1 : W.cell? ⟨gl, 1, none⟩ = some (.int .i64 rd) := hLW.cell 1
  have l2 : W.cell? ⟨gl, 2, none⟩ = some (.int .i64 bt) := hLW.cell 2
  have l3 : W.cell? ⟨gl, 3, none⟩ = some (.int .i64 rg) := hLW.cell 3
  clear hLW hbW
  go_simp
  with_reducible rfl)
 refine zU 2 rfl hS ?_ (hy := fun W hH => by
  obtain ⟨hbW, hLW⟩ := hH
  have l0 : W.cell? ⟨gl, 0, none⟩ = some (.int .i64 fn) := hLW.cell 0
  have l1 : W.cell? ⟨gl, 1, none⟩ = some (.int .i64 rd) := hLW.cell 1
  have l2 : W.cell? ⟨gl, 2, none⟩ = some (.int .i64 bt) := hLW.cell 2
  have l3 : W.cell? ⟨gl, 3, none⟩ = some (.int .i64 rg) := hLW.cell 3
  clear hLW hbW
  go_simp
  with_reducible rfl)
 refine zR 3 rfl (fun K' hK' => ?_)
 go_simp
 refine (HF.out w4 hb4w).mono ?_
 rintro e w5 ⟨pf, pa, pc, pt, Ab, nb, cb, Ar, nr, cr, rfl, hb5⟩
 have hb5w := hb4w.trans (hb5.mono hb4w.size)
 have hO5 := hO4.below hb5 hO4.lt
 obtain ⟨o5_0, o5_1, o5_2, o5_3, o5_4, o5_5⟩ := zC6 hO5
 have fo5 := hO5.frozen
 have zo5 := hO5.lt
 go_simp
 refine hK'.out _ _ ⟨hS.1.trans (hb5.mono hS.1.size), hS.2.below hb5 hS.2.lt⟩ (fun hS => ?_)
 clear hK' K'
 refine zU 4 rfl hS ?_ (hy := fun W hH => by
  obtain ⟨hbW, hLW⟩ := hH
  have l0 : W.cell? ⟨gl, 0, none⟩ = some (.int .i64 fn) := hLW.cell 0
  have l1 : W.cell? ⟨gl, 1, none⟩ = some (.int .i64 rd) := hLW.cell 1
  have l2 : W.cell? ⟨gl, 2, none⟩ = some (.int .i64 bt) := hLW.cell 2
  have l3 : W.cell? ⟨gl, 3, none⟩ = some (.int .i64 rg) := hLW.cell 3
  clear hLW hbW
  go_simp
  with_reducible rfl)
 refine zU 5 rfl hS ?_ (hy := fun W hH => by
  obtain ⟨hbW, hLW⟩ := hH
  have l0 : W.cell? ⟨gl, 0, none⟩ = some (.int .i64 fn) := hLW.cell 0
  have l1 : W.cell? ⟨gl, 1, none⟩ = some (.int .i64 rd) := hLW.cell 1
  have l2 : W.cell? ⟨gl, 2, none⟩ = some (.int .i64 bt) := hLW.cell 2
  have l3 : W.cell? ⟨gl, 3, none⟩ = some (.int .i64 rg) := hLW.cell 3
  clear hLW hbW
  go_simp
  with_reducible rfl)
 refine zU 6 rfl hS ?_ (hy := fun W hH => by
  obtain ⟨hbW, hLW⟩ := hH
  have l0 : W.cell? ⟨gl, 0, none⟩ = some (.int .i64 fn) := hLW.cell 0
  have l1 : W.cell? ⟨gl, 1, none⟩ = some (.int .i64 rd) := hLW.cell 1
  have l2 : W.cell? ⟨gl, 2, none⟩ = some (.int .i64 bt) := hLW.cell 2
  have l3 : W.cell? ⟨gl, 3, none⟩ = some (.int .i64 rg) := hLW.cell 3
  clear hLW hbW
  go_simp
  with_reducible rfl)
 refine zR 7 rfl (fun K' hK' => ?_)
 go_simp
 refine hK'.out _ _ ⟨((((((hS.1.setCell (p := ⟨w.heap.size, 0, none⟩) (Nat.le_refl _) _).setCell (p := ⟨w.heap.size, 1, none⟩) (Nat.le_refl _) _).setCell (p := ⟨w.heap.size, 2, none⟩) (Nat.le_refl _) _).setCell (p := ⟨w.heap.size, 3, none⟩) (Nat.le_refl _) _).setCell (p := ⟨w.heap.size, 4, none⟩) (Nat.le_refl _) _).setCell (p := ⟨w.heap.size, 5, none⟩) (Nat.le_refl _) _), ((((((hS.2.far (p := ⟨w.heap.size, 0, none⟩) (fun e => hLO.out e.symm) _).far (p := ⟨w.heap.size, 1, none⟩) (fun e => hLO.out e.symm) _).far (p := ⟨w.heap.size, 2, none⟩) (fun e => hLO.out e.symm) _).far (p := ⟨w.heap.size, 3, none⟩) (fun e => hLO.out e.symm) _).far (p := ⟨w.heap.size, 4, none⟩) (fun e => hLO.out e.symm) _).far (p := ⟨w.heap.size, 5, none⟩) (fun e => hLO.out e.symm) _)⟩ (fun hS => ?_)
 clear hK' K'
 refine zU 8 rfl hS ?_ (hy := fun W hH => by
  obtain ⟨hbW, hLW⟩ := hH
  have l0 : W.cell? ⟨gl, 0, none⟩ = some (.int .i64 fn) := hLW.cell 0
  have l1 : W.cell? ⟨gl, 1, none⟩ = some (.int .i64 rd) := hLW.cell 1
  have l2 : W.cell? ⟨gl, 2, none⟩ = some (.int .i64 bt) := hLW.cell 2
  have l3 : W.cell? ⟨gl, 3, none⟩ = some (.int .i64 rg) := hLW.cell 3
  clear hLW hbW
  go_simp
  with_reducible rfl)
 refine wpAnyH_done (by kernel_rfl) ?_ _
 obtain ⟨w6, hw6⟩ : ∃ W, ((((((w5.setCell ⟨w.heap.size, 0, none⟩ (.int .i64 pf)).setCell ⟨w.heap.size, 1, none⟩ (.int .i64 pa)).setCell ⟨w.heap.size, 2, none⟩ (.int .i64 pc)).setCell ⟨w.heap.size, 3, none⟩ (.int .i64 pt)).setCell ⟨w.heap.size, 4, none⟩ (.slice Ab nb cb)).setCell ⟨w.heap.size, 5, none⟩ (.slice Ar nr cr)) = W := ⟨_, rfl⟩
 have hO6 : Held w6 w.heap.size 59 #[.int .i64 pf, .int .i64 pa, .int .i64 pc, .int .i64 pt, .slice Ab nb cb, .slice Ar nr cr] := by rw [← hw6]; exact ((((((hO5.set 0 _).set 1 _).set 2 _).set 3 _).set 4 _).set 5 _)
 have hb6w : Below w.heap.size w w6 := by rw [← hw6]; exact ((((((hb5w.setCell (p := ⟨w.heap.size, 0, none⟩) (Nat.le_refl _) _).setCell (p := ⟨w.heap.size, 1, none⟩) (Nat.le_refl _) _).setCell (p := ⟨w.heap.size, 2, none⟩) (Nat.le_refl _) _).setCell (p := ⟨w.heap.size, 3, none⟩) (Nat.le_refl _) _).setCell (p := ⟨w.heap.size, 4, none⟩) (Nat.le_refl _) _).setCell (p := ⟨w.heap.size, 5, none⟩) (Nat.le_refl _) _)
 have hoff6 : OffB w5 w6 w.heap.size := by rw [← hw6]; exact ((((((OffB.refl _ w.heap.size).set 0 _).set 1 _).set 2 _).set 3 _).set 4 _).set 5 _
 rw [hw6]
 clear hw6
 obtain ⟨o6_0, o6_1, o6_2, o6_3, o6_4, o6_5⟩ := zC6 hO6
 have fo6 := hO6.frozen
 have zo6 := hO6.lt
 go_wp2_with fail
 obtain ⟨w7, hw7⟩ : ∃ W, ((((((w6.setCell ⟨w.heap.size, 0, none⟩ (.int .i64 0)).setCell ⟨w.heap.size, 1, none⟩ (.int .i64 0)).setCell ⟨w.heap.size, 2, none⟩ (.int .i64 0)).setCell ⟨w.heap.size, 3, none⟩ (.int .i64 0)).setCell ⟨w.heap.size, 4, none⟩ (.slice none 0 0)).setCell ⟨w.heap.size, 5, none⟩ (.slice none 0 0)) = W := ⟨_, rfl⟩
 have hO7 : Held w7 w.heap.size 59 #[.int .i64 0, .int .i64 0, .int .i64 0, .int .i64 0, .slice none 0 0, .slice none 0 0] := by rw [← hw7]; exact ((((((hO6.set 0 _).set 1 _).set 2 _).set 3 _).set 4 _).set 5 _)
 have hb7w : Below w.heap.size w w7 := by rw [← hw7]; exact ((((((hb6w.setCell (p := ⟨w.heap.size, 0, none⟩) (Nat.le_refl _) _).setCell (p := ⟨w.heap.size, 1, none⟩) (Nat.le_refl _) _).setCell (p := ⟨w.heap.size, 2, none⟩) (Nat.le_refl _) _).setCell (p := ⟨w.heap.size, 3, none⟩) (Nat.le_refl _) _).setCell (p := ⟨w.heap.size, 4, none⟩) (Nat.le_refl _) _).setCell (p := ⟨w.heap.size, 5, none⟩) (Nat.le_refl _) _)
 have hoff7 : OffB w6 w7 w.heap.size := by rw [← hw7]; exact ((((((OffB.refl _ w.heap.size).set 0 _).set 1 _).set 2 _).set 3 _).set 4 _).set 5 _
 rw [hw7]
 clear hw7
 obtain ⟨q7_0, q7_1, q7_2, q7_3, q7_4, q7_5⟩ := zC6 hO7
 have fq7 := hO7.frozen
 have zq7 := hO7.lt
 have HP : ReadPost w (ask0, 3, 190) (.returned (.tuple #[.agg #[.int .i64 0, .int .i64 0, .int .i64 0, .int .i64 0, .slice none 0 0, .slice none 0 0], .int .i64 3, .int .i64 190])) w7 := ⟨_, rfl, ask0_at _, hb7w⟩
 exact bodyPost_ret (v := .tuple #[.agg #[.int .i64 0, .int .i64 0, .int .i64 0, .int .i64 0, .slice none 0 0, .slice none 0 0], .int .i64 3, .int .i64 190]) (by simp [results, Tryd.results93, go_sem, q7_0, q7_1, q7_2, q7_3, q7_4, q7_5]) rfl HP
theorem rd_not (g off n c : Nat) (b : List Int) (w : World) (hT : LimT w) (hB : SlI w w.heap.size .u8 (some ⟨g, off, none⟩) n c b) (hb8 : Byte8 b) (hn1 : 1 ≤ n) (hn2 : n ≤ 253) (fn rd bt rg : Int) (h0 : b[0]? = some fn) (hlim : limP fn = some (rd, bt, rg)) (pf pa pc pt : Int) (bits : List Bool) (regs : List Int) (hp : parseP b = some (⟨pf, pa, pc, pt, bits, regs⟩ : AskP)) (hm : mayP (⟨pf, pa, pc, pt, bits, regs⟩ : AskP) = false) :
  Calls Tryd.prog 93 #[.slice (some ⟨g, off, none⟩) n c] w (ReadPost w (ask0, 2, 190)) := by
 have hlim0 := hlim
 obtain ⟨w1, hw1⟩ : ∃ w1, w.alloc (.cells #[.int .i64 0, .int .i64 0, .int .i64 0, .int .i64 0, .slice none 0 0, .slice none 0 0] 59) = w1 := ⟨_, rfl⟩
 have hb1 := zB1 hw1
 have hO1 := zH1 hw1
 have HW1 := Lib.hid hw1
 clear hw1
 have hu := Tryd.underlying59
 have hsz := zSz
 have hl := hB.1
 have hcap := hB.2.1
 have h1n : ¬ (n : Int) < 1 := by omega
 have h2n : ¬ (n : Int) > 253 := by omega
 have h0n : 0 < n := by omega
 have h0n' : (0 : Int) < (n : Int) := by omega
 have h1n' : (1 : Int) ≤ (n : Int) := by omega
 have hnc : (n : Int) ≤ (c : Int) := by omega
 have hfr : 0 ≤ fn ∧ fn < 256 := hb8 fn (List.mem_of_getElem? h0)
 have hwf : IntKind.i64.wrap fn = fn := IntWalk.i64_in fn (by omega)
 have HC0 : Hid (∀ X, Below w.heap.size w X → X.cell? ⟨g, off, none⟩ = some (.int .u8 fn)) := Lib.hid (fun X h => by
  obtain ⟨g', o', e, _, hc⟩ := (hB.up h).2.2.2.2 (by omega)
  injection e with e
  injection e with e1 e2
  subst e1 e2
  simpa using hc 0 fn h0)
 have HT := Lib.hid (fun (X : World) (h : Below w.heap.size w X) => hT.up h)
 clear hT
 have HOF : Hid (∀ X, Below w.heap.size w X → Calls Tryd.prog 98 #[.int .i64 fn] X fun e w' => e = .returned (.tuple #[.agg #[.int .i64 fn, .int .i64 rd, .int .i64 bt, .int .i64 rg], .bool true]) ∧ Below X.heap.size X w') := Lib.hid (fun X h => by
  have h1 := of_own fn X (HT.out X h)
  unfold ofV at h1
  rw [hlim] at h1
  exact h1)
 clear hlim
 obtain ⟨AD, hAD⟩ : ∃ X, (if c = 1 then some (⟨g, off, none⟩ : Addr) else some ⟨g, off + 1, none⟩) = X := ⟨_, rfl⟩
 have hbd : b = fn :: b.drop 1 := by
  cases b with
  | nil => simp at h0
  | cons x d => simp at h0; rw [h0]; rfl
 have HF : Hid (∀ X, Below w.heap.size w X → Calls Tryd.prog 122 #[.agg #[.int .i64 fn, .int .i64 rd, .int .i64 bt, .int .i64 rg], .slice AD (n - 1) (c - 1)] X fun e w' => ∃ Ab nb cb Ar nr cr, e = .returned (.tuple #[.agg #[.int .i64 pf, .int .i64 pa, .int .i64 pc, .int .i64 pt, .slice Ab nb cb, .slice Ar nr cr], .bool true]) ∧ SlB w' w'.heap.size Ab nb cb bits ∧ SlI w' w'.heap.size .u16 Ar nr cr regs ∧ Below X.heap.size X w') := Lib.hid (fun X h => by
  have h1 := fields_any fn rd bt rg hlim0 AD (n - 1) (c - 1) (b.drop 1) X (by rw [← hAD]; exact (hB.up h).drop_if 1 hn1) (fun x hx => hb8 x (List.mem_of_mem_drop hx)) (by omega)
  rw [← hbd, hp] at h1
  refine h1.mono ?_
  intro e w' h2
  obtain ⟨v, a, rfl, ⟨Ab, nb, cb, Ar, nr, cr, rfl, sb, sr⟩, hb⟩ := h2
  exact ⟨Ab, nb, cb, Ar, nr, cr, rfl, sb, sr, hb⟩)
 clear hbd
 go_in
 go_upto_region 1 with fail
 rw [HW1.out]
 have c01 := HC0.out w1 hb1
 go_upto_region 4 with (go_at_call 98; (with_reducible refine (HOF.out w1 hb1).mono ?_); rintro e w2 ⟨rfl, hb2⟩)
 have hb2w := hb1.trans (hb2.mono hb1.size)
 have hO2 := hO1.below hb2 hO1.lt
 obtain ⟨w3, hw3⟩ : ∃ w3, w2.alloc (.cells #[.int .i64 fn, .int .i64 rd, .int .i64 bt, .int .i64 rg] 167) = w3 := ⟨_, rfl⟩
 have hb3 := zB1 hw3
 have hb3w := hb2w.trans (hb3.mono hb2w.size)
 have hO3 := hO2.below hb3 hO2.lt
 have hL3 := zH1 hw3
 have hLO : Hid (w.heap.size ≠ w2.heap.size) := Lib.hid (by have := hO2.lt; omega)
 rw [hw3]
 clear hw3
 obtain ⟨gl, hgl⟩ : ∃ x, w2.heap.size = x := ⟨_, rfl⟩
 rw [hgl] at hL3 hLO
 rw [hgl]
 clear hgl hb3
 clear hlim0
 go_upto_region 6 with fail
 obtain ⟨w4, hw4⟩ : ∃ W : World, w3.drew = W := ⟨_, rfl⟩
 have hb4 := zB3 hw4
 have hb4w := hb3w.trans (hb4.mono hb3w.size)
 have hO4 := hO3.below hb4 hO3.lt
 have hL4 := hL3.below hb4 hL3.lt
 refine wp_region_held (S := (fun X => Below w.heap.size w X ∧ Held X gl 167 #[.int .i64 fn, .int .i64 rd, .int .i64 bt, .int .i64 rg])) (by kernel_rfl) ?_
 change wpAnyH _ _ _ _ _ _ _ _ w3.drew
 rw [hw4]
 clear hw4
 have hS : (fun X => Below w.heap.size w X ∧ Held X gl 167 #[.int .i64 fn, .int .i64 rd, .int .i64 bt, .int .i64 rg]) w4 := ⟨hb4w, hL4⟩
 refine zU 0 rfl hS ?_ (hy := fun W hH => by
  obtain ⟨hbW, hLW⟩ := hH
  have l0 : W.cell? ⟨gl, 0, none⟩ = some (.int .i64 fn) := hLW.cell 0
  have l1 : W.cell? ⟨gl, 1, none⟩ = some (.int .i64 rd) := hLW.cell 1
  have l2 : W.cell? ⟨gl, 2, none⟩ = some (.int .i64 bt) := hLW.cell 2
  have l3 : W.cell? ⟨gl, 3, none⟩ = some (.int .i64 rg) := hLW.cell 3
  clear hLW hbW
  go_simp
  with_reducible rfl)
 refine zU 1 rfl hS ?_ (hy := fun W hH => by
  obtain ⟨hbW, hLW⟩ := hH
  have l0 : W.cell? ⟨gl, 0, none⟩ = some (.int .i64 fn) := hLW.cell 0
  have l1 : W.cell? ⟨gl, 1, none⟩ = some (.int .i64 rd) := hLW.cell 1
  have l2 : W.cell? ⟨gl, 2, none⟩ = some (.int .i64 bt) := hLW.cell 2
  have l3 : W.cell? ⟨gl, 3, none⟩ = some (.int .i64 rg) := hLW.cell 3
  clear hLW hbW
  go_simp
  with_reducible rfl)
 refine zU 2 rfl hS ?_ (hy := fun W hH => by
  obtain ⟨hbW, hLW⟩ := hH
  have l0 : W.cell? ⟨gl, 0, none⟩ = some (.int .i64 fn) := hLW.cell 0
  have l1 : W.cell? ⟨gl, 1, none⟩ = some (.int .i64 rd) := hLW.cell 1
  have l2 : W.cell? ⟨gl, 2, none⟩ = some (.int .i64 bt) := hLW.cell 2
  have l3 : W.cell? ⟨gl, 3, none⟩ = some (.int .i64 rg) := hLW.cell 3
  clear hLW hbW
  go_simp
  with_reducible rfl)
 refine zR 3 rfl (fun K' hK' => ?_)
 go_simp
 refine (HF.out w4 hb4w).mono ?_
 rintro e w5 ⟨Ab, nb, cb, Ar, nr, cr, rfl, sb5, sr5, hb5⟩
 have hb5w := hb4w.trans (hb5.mono hb4w.size)
 have hO5 := hO4.below hb5 hO4.lt
 obtain ⟨o5_0, o5_1, o5_2, o5_3, o5_4, o5_5⟩ := zC6 hO5
 have fo5 := hO5.frozen
 have zo5 := hO5.lt
 go_simp
 refine hK'.out _ _ ⟨hS.1.trans (hb5.mono hS.1.size), hS.2.below hb5 hS.2.lt⟩ (fun hS => ?_)
 clear hK' K'
 refine zU 4 rfl hS ?_ (hy := fun W hH => by
  obtain ⟨hbW, hLW⟩ := hH
  have l0 : W.cell? ⟨gl, 0, none⟩ = some (.int .i64 fn) := hLW.cell 0
  have l1 : W.cell? ⟨gl, 1, none⟩ = some (.int .i64 rd) := hLW.cell 1
  have l2 : W.cell? ⟨gl, 2, none⟩ = some (.int .i64 bt) := hLW.cell 2
  have l3 : W.cell? ⟨gl, 3, none⟩ = some (.int .i64 rg) := hLW.cell 3
  clear hLW hbW
  go_simp
  with_reducible rfl)
 refine zU 5 rfl hS ?_ (hy := fun W hH => by
  obtain ⟨hbW, hLW⟩ := hH
  have l0 : W.cell? ⟨gl, 0, none⟩ = some (.int .i64 fn) := hLW.cell 0
  have l1 : W.cell? ⟨gl, 1, none⟩ = some (.int .i64 rd) := hLW.cell 1
  have l2 : W.cell? ⟨gl, 2, none⟩ = some (.int .i64 bt) := hLW.cell 2
  have l3 : W.cell? ⟨gl, 3, none⟩ = some (.int .i64 rg) := hLW.cell 3
  clear hLW hbW
  go_simp
  with_reducible rfl)
 refine zU 6 rfl hS ?_ (hy := fun W hH => by
  obtain ⟨hbW, hLW⟩ := hH
  have l0 : W.cell? ⟨gl, 0, none⟩ = some (.int .i64 fn) := hLW.cell 0
  have l1 : W.cell? ⟨gl, 1, none⟩ = some (.int .i64 rd) := hLW.cell 1
  have l2 : W.cell? ⟨gl, 2, none⟩ = some (.int .i64 bt) := hLW.cell 2
  have l3 : W.cell? ⟨gl, 3, none⟩ = some (.int .i64 rg) := hLW.cell 3
  clear hLW hbW
  go_simp
  with_reducible rfl)
 refine zR 7 rfl (fun K' hK' => ?_)
 go_simp
 refine hK'.out _ _ ⟨((((((hS.1.setCell (p := ⟨w.heap.size, 0, none⟩) (Nat.le_refl _) _).setCell (p := ⟨w.heap.size, 1, none⟩) (Nat.le_refl _) _).setCell (p := ⟨w.heap.size, 2, none⟩) (Nat.le_refl _) _).setCell (p := ⟨w.heap.size, 3, none⟩) (Nat.le_refl _) _).setCell (p := ⟨w.heap.size, 4, none⟩) (Nat.le_refl _) _).setCell (p := ⟨w.heap.size, 5, none⟩) (Nat.le_refl _) _), ((((((hS.2.far (p := ⟨w.heap.size, 0, none⟩) (fun e => hLO.out e.symm) _).far (p := ⟨w.heap.size, 1, none⟩) (fun e => hLO.out e.symm) _).far (p := ⟨w.heap.size, 2, none⟩) (fun e => hLO.out e.symm) _).far (p := ⟨w.heap.size, 3, none⟩) (fun e => hLO.out e.symm) _).far (p := ⟨w.heap.size, 4, none⟩) (fun e => hLO.out e.symm) _).far (p := ⟨w.heap.size, 5, none⟩) (fun e => hLO.out e.symm) _)⟩ (fun hS => ?_)
 clear hK' K'
 refine zU 8 rfl hS ?_ (hy := fun W hH => by
  obtain ⟨hbW, hLW⟩ := hH
  have l0 : W.cell? ⟨gl, 0, none⟩ = some (.int .i64 fn) := hLW.cell 0
  have l1 : W.cell? ⟨gl, 1, none⟩ = some (.int .i64 rd) := hLW.cell 1
  have l2 : W.cell? ⟨gl, 2, none⟩ = some (.int .i64 bt) := hLW.cell 2
  have l3 : W.cell? ⟨gl, 3, none⟩ = some (.int .i64 rg) := hLW.cell 3
  clear hLW hbW
  go_simp
  with_reducible rfl)
 refine wpAnyH_done (by kernel_rfl) ?_ _
 obtain ⟨w6, hw6⟩ : ∃ W, ((((((w5.setCell ⟨w.heap.size, 0, none⟩ (.int .i64 pf)).setCell ⟨w.heap.size, 1, none⟩ (.int .i64 pa)).setCell ⟨w.heap.size, 2, none⟩ (.int .i64 pc)).setCell ⟨w.heap.size, 3, none⟩ (.int .i64 pt)).setCell ⟨w.heap.size, 4, none⟩ (.slice Ab nb cb)).setCell ⟨w.heap.size, 5, none⟩ (.slice Ar nr cr)) = W := ⟨_, rfl⟩
 have hO6 : Held w6 w.heap.size 59 #[.int .i64 pf, .int .i64 pa, .int .i64 pc, .int .i64 pt, .slice Ab nb cb, .slice Ar nr cr] := by rw [← hw6]; exact ((((((hO5.set 0 _).set 1 _).set 2 _).set 3 _).set 4 _).set 5 _)
 have hb6w : Below w.heap.size w w6 := by rw [← hw6]; exact ((((((hb5w.setCell (p := ⟨w.heap.size, 0, none⟩) (Nat.le_refl _) _).setCell (p := ⟨w.heap.size, 1, none⟩) (Nat.le_refl _) _).setCell (p := ⟨w.heap.size, 2, none⟩) (Nat.le_refl _) _).setCell (p := ⟨w.heap.size, 3, none⟩) (Nat.le_refl _) _).setCell (p := ⟨w.heap.size, 4, none⟩) (Nat.le_refl _) _).setCell (p := ⟨w.heap.size, 5, none⟩) (Nat.le_refl _) _)
 have hoff6 : OffB w5 w6 w.heap.size := by rw [← hw6]; exact ((((((OffB.refl _ w.heap.size).set 0 _).set 1 _).set 2 _).set 3 _).set 4 _).set 5 _
 rw [hw6]
 clear hw6
 obtain ⟨o6_0, o6_1, o6_2, o6_3, o6_4, o6_5⟩ := zC6 hO6
 have fo6 := hO6.frozen
 have zo6 := hO6.lt
 have sb6 := sb5.off hoff6 hO5 (by intro v hv x e; subst e; simp at hv)
 have sr6 := sr5.off hoff6 hO5 (by intro v hv x e; subst e; simp at hv)
 have HK : Hid (Calls Tryd.prog 61 #[.agg #[.int .i64 pf, .int .i64 pa, .int .i64 pc, .int .i64 pt, .slice Ab nb cb, .slice Ar nr cr]] w6 (CheckPost w6 false)) := Lib.hid (by
  have h1 := check_own (.agg #[.int .i64 pf, .int .i64 pa, .int .i64 pc, .int .i64 pt, .slice Ab nb cb, .slice Ar nr cr]) (⟨pf, pa, pc, pt, bits, regs⟩ : AskP) w6 (HT.out w6 hb6w) ⟨Ab, nb, cb, Ar, nr, cr, rfl, sb6, sr6⟩
  rw [hm] at h1
  exact h1)
 clear hm
 go_wp2_with (first | ((with_reducible refine at_loadT 59 2 ?_); refine wpList_load_rowG rfl 59 (.tmp 2) rfl w.heap.size rfl 59 _ _ hO6 hu rfl hsz ?_) | (go_at_call 61; (with_reducible refine HK.out.mono ?_); rintro e w7 ⟨rfl, hb7⟩; have hb7w := hb6w.trans (hb7.mono hb6w.size); have hO7 := hO6.below hb7 hO6.lt; have o7_0 : w7.cell? ⟨w.heap.size, 0, none⟩ = some (.int .i64 pf) := hO7.cell 0; have o7_1 : w7.cell? ⟨w.heap.size, 1, none⟩ = some (.int .i64 pa) := hO7.cell 1; have o7_2 : w7.cell? ⟨w.heap.size, 2, none⟩ = some (.int .i64 pc) := hO7.cell 2; have o7_3 : w7.cell? ⟨w.heap.size, 3, none⟩ = some (.int .i64 pt) := hO7.cell 3; have o7_4 : w7.cell? ⟨w.heap.size, 4, none⟩ = some (.slice Ab nb cb) := hO7.cell 4; have o7_5 : w7.cell? ⟨w.heap.size, 5, none⟩ = some (.slice Ar nr cr) := hO7.cell 5; have fo7 := hO7.frozen; have zo7 := hO7.lt))
 obtain ⟨w8, hw8⟩ : ∃ W, ((((((w7.setCell ⟨w.heap.size, 0, none⟩ (.int .i64 0)).setCell ⟨w.heap.size, 1, none⟩ (.int .i64 0)).setCell ⟨w.heap.size, 2, none⟩ (.int .i64 0)).setCell ⟨w.heap.size, 3, none⟩ (.int .i64 0)).setCell ⟨w.heap.size, 4, none⟩ (.slice none 0 0)).setCell ⟨w.heap.size, 5, none⟩ (.slice none 0 0)) = W := ⟨_, rfl⟩
 have hO8 : Held w8 w.heap.size 59 #[.int .i64 0, .int .i64 0, .int .i64 0, .int .i64 0, .slice none 0 0, .slice none 0 0] := by rw [← hw8]; exact ((((((hO7.set 0 _).set 1 _).set 2 _).set 3 _).set 4 _).set 5 _)
 have hb8w : Below w.heap.size w w8 := by rw [← hw8]; exact ((((((hb7w.setCell (p := ⟨w.heap.size, 0, none⟩) (Nat.le_refl _) _).setCell (p := ⟨w.heap.size, 1, none⟩) (Nat.le_refl _) _).setCell (p := ⟨w.heap.size, 2, none⟩) (Nat.le_refl _) _).setCell (p := ⟨w.heap.size, 3, none⟩) (Nat.le_refl _) _).setCell (p := ⟨w.heap.size, 4, none⟩) (Nat.le_refl _) _).setCell (p := ⟨w.heap.size, 5, none⟩) (Nat.le_refl _) _)
 have hoff8 : OffB w7 w8 w.heap.size := by rw [← hw8]; exact ((((((OffB.refl _ w.heap.size).set 0 _).set 1 _).set 2 _).set 3 _).set 4 _).set 5 _
 rw [hw8]
 clear hw8
 obtain ⟨q8_0, q8_1, q8_2, q8_3, q8_4, q8_5⟩ := zC6 hO8
 have fq8 := hO8.frozen
 have zq8 := hO8.lt
 have HP : ReadPost w (ask0, 2, 190) (.returned (.tuple #[.agg #[.int .i64 0, .int .i64 0, .int .i64 0, .int .i64 0, .slice none 0 0, .slice none 0 0], .int .i64 2, .int .i64 190])) w8 := ⟨_, rfl, ask0_at _, hb8w⟩
 exact bodyPost_ret (v := .tuple #[.agg #[.int .i64 0, .int .i64 0, .int .i64 0, .int .i64 0, .slice none 0 0, .slice none 0 0], .int .i64 2, .int .i64 190]) (by simp [results, Tryd.results93, go_sem, q8_0, q8_1, q8_2, q8_3, q8_4, q8_5]) rfl HP
theorem rd_yes (g off n c : Nat) (b : List Int) (w : World) (hT : LimT w) (hB : SlI w w.heap.size .u8 (some ⟨g, off, none⟩) n c b) (hb8 : Byte8 b) (hn1 : 1 ≤ n) (hn2 : n ≤ 253) (fn rd bt rg : Int) (h0 : b[0]? = some fn) (hlim : limP fn = some (rd, bt, rg)) (pf pa pc pt : Int) (bits : List Bool) (regs : List Int) (hp : parseP b = some (⟨pf, pa, pc, pt, bits, regs⟩ : AskP)) (hm : mayP (⟨pf, pa, pc, pt, bits, regs⟩ : AskP) = true) :
  Calls Tryd.prog 93 #[.slice (some ⟨g, off, none⟩) n c] w (ReadPost w ((⟨pf, pa, pc, pt, bits, regs⟩ : AskP), 0, 0)) := by
 have hlim0 := hlim
 obtain ⟨w1, hw1⟩ : ∃ w1, w.alloc (.cells #[.int .i64 0, .int .i64 0, .int .i64 0, .int .i64 0, .slice none 0 0, .slice none 0 0] 59) = w1 := ⟨_, rfl⟩
 have hb1 := zB1 hw1
 have hO1 := zH1 hw1
 have HW1 := Lib.hid hw1
 clear hw1
 have hu := Tryd.underlying59
 have hsz := zSz
 have hl := hB.1
 have hcap := hB.2.1
 have h1n : ¬ (n : Int) < 1 := by omega
 have h2n : ¬ (n : Int) > 253 := by omega
 have h0n : 0 < n := by omega
 have h0n' : (0 : Int) < (n : Int) := by omega
 have h1n' : (1 : Int) ≤ (n : Int) := by omega
 have hnc : (n : Int) ≤ (c : Int) := by omega
 have hfr : 0 ≤ fn ∧ fn < 256 := hb8 fn (List.mem_of_getElem? h0)
 have hwf : IntKind.i64.wrap fn = fn := IntWalk.i64_in fn (by omega)
 have HC0 : Hid (∀ X, Below w.heap.size w X → X.cell? ⟨g, off, none⟩ = some (.int .u8 fn)) := Lib.hid (fun X h => by
  obtain ⟨g', o', e, _, hc⟩ := (hB.up h).2.2.2.2 (by omega)
  injection e with e
  injection e with e1 e2
  subst e1 e2
  simpa using hc 0 fn h0)
 have HT := Lib.hid (fun (X : World) (h : Below w.heap.size w X) => hT.up h)
 clear hT
 have HOF : Hid (∀ X, Below w.heap.size w X → Calls Tryd.prog 98 #[.int .i64 fn] X fun e w' => e = .returned (.tuple #[.agg #[.int .i64 fn, .int .i64 rd, .int .i64 bt, .int .i64 rg], .bool true]) ∧ Below X.heap.size X w') := Lib.hid (fun X h => by
  have h1 := of_own fn X (HT.out X h)
  unfold ofV at h1
  rw [hlim] at h1
  exact h1)
 clear hlim
 obtain ⟨AD, hAD⟩ : ∃ X, (if c = 1 then some (⟨g, off, none⟩ : Addr) else some ⟨g, off + 1, none⟩) = X := ⟨_, rfl⟩
 have hbd : b = fn :: b.drop 1 := by
  cases b with
  | nil => simp at h0
  | cons x d => simp at h0; rw [h0]; rfl
 have HF : Hid (∀ X, Below w.heap.size w X → Calls Tryd.prog 122 #[.agg #[.int .i64 fn, .int .i64 rd, .int .i64 bt, .int .i64 rg], .slice AD (n - 1) (c - 1)] X fun e w' => ∃ Ab nb cb Ar nr cr, e = .returned (.tuple #[.agg #[.int .i64 pf, .int .i64 pa, .int .i64 pc, .int .i64 pt, .slice Ab nb cb, .slice Ar nr cr], .bool true]) ∧ SlB w' w'.heap.size Ab nb cb bits ∧ SlI w' w'.heap.size .u16 Ar nr cr regs ∧ Below X.heap.size X w') := Lib.hid (fun X h => by
  have h1 := fields_any fn rd bt rg hlim0 AD (n - 1) (c - 1) (b.drop 1) X (by rw [← hAD]; exact (hB.up h).drop_if 1 hn1) (fun x hx => hb8 x (List.mem_of_mem_drop hx)) (by omega)
  rw [← hbd, hp] at h1
  refine h1.mono ?_
  intro e w' h2
  obtain ⟨v, a, rfl, ⟨Ab, nb, cb, Ar, nr, cr, rfl, sb, sr⟩, hb⟩ := h2
  exact ⟨Ab, nb, cb, Ar, nr, cr, rfl, sb, sr, hb⟩)
 clear hbd
 go_in
 go_upto_region 1 with fail
 rw [HW1.out]
 have c01 := HC0.out w1 hb1
 go_upto_region 4 with (go_at_call 98; (with_reducible refine (HOF.out w1 hb1).mono ?_); rintro e w2 ⟨rfl, hb2⟩)
 have hb2w := hb1.trans (hb2.mono hb1.size)
 have hO2 := hO1.below hb2 hO1.lt
 obtain ⟨w3, hw3⟩ : ∃ w3, w2.alloc (.cells #[.int .i64 fn, .int .i64 rd, .int .i64 bt, .int .i64 rg] 167) = w3 := ⟨_, rfl⟩
 have hb3 := zB1 hw3
 have hb3w := hb2w.trans (hb3.mono hb2w.size)
 have hO3 := hO2.below hb3 hO2.lt
 have hL3 := zH1 hw3
 have hLO : Hid (w.heap.size ≠ w2.heap.size) := Lib.hid (by have := hO2.lt; omega)
 rw [hw3]
 clear hw3
 obtain ⟨gl, hgl⟩ : ∃ x, w2.heap.size = x := ⟨_, rfl⟩
 rw [hgl] at hL3 hLO
 rw [hgl]
 clear hgl hb3
 clear hlim0
 go_upto_region 6 with fail
 obtain ⟨w4, hw4⟩ : ∃ W : World, w3.drew = W := ⟨_, rfl⟩
 have hb4 := zB3 hw4
 have hb4w := hb3w.trans (hb4.mono hb3w.size)
 have hO4 := hO3.below hb4 hO3.lt
 have hL4 := hL3.below hb4 hL3.lt
 refine wp_region_held (S := (fun X => Below w.heap.size w X ∧ Held X gl 167 #[.int .i64 fn, .int .i64 rd, .int .i64 bt, .int .i64 rg])) (by kernel_rfl) ?_
 change wpAnyH _ _ _ _ _ _ _ _ w3.drew
 rw [hw4]
 clear hw4
 have hS : (fun X => Below w.heap.size w X ∧ Held X gl 167 #[.int .i64 fn, .int .i64 rd, .int .i64 bt, .int .i64 rg]) w4 := ⟨hb4w, hL4⟩
 refine zU 0 rfl hS ?_ (hy := fun W hH => by
  obtain ⟨hbW, hLW⟩ := hH
  have l0 : W.cell? ⟨gl, 0, none⟩ = some (.int .i64 fn) := hLW.cell 0
  have l1 : W.cell? ⟨gl, 1, none⟩ = some (.int .i64 rd) := hLW.cell 1
  have l2 : W.cell? ⟨gl, 2, none⟩ = some (.int .i64 bt) := hLW.cell 2
  have l3 : W.cell? ⟨gl, 3, none⟩ = some (.int .i64 rg) := hLW.cell 3
  clear hLW hbW
  go_simp
  with_reducible rfl)
 refine zU 1 rfl hS ?_ (hy := fun W hH => by
  obtain ⟨hbW, hLW⟩ := hH
  have l0 : W.cell? ⟨gl, 0, none⟩ = some (.int .i64 fn) := hLW.cell 0
  have l1 : W.cell? ⟨gl, 1, none⟩ = some (.int .i64 rd) := hLW.cell 1
  have l2 : W.cell? ⟨gl, 2, none⟩ = some (.int .i64 bt) := hLW.cell 2
  have l3 : W.cell? ⟨gl, 3, none⟩ = some (.int .i64 rg) := hLW.cell 3
  clear hLW hbW
  go_simp
  with_reducible rfl)
 refine zU 2 rfl hS ?_ (hy := fun W hH => by
  obtain ⟨hbW, hLW⟩ := hH
  have l0 : W.cell? ⟨gl, 0, none⟩ = some (.int .i64 fn) := hLW.cell 0
  have l1 : W.cell? ⟨gl, 1, none⟩ = some (.int .i64 rd) := hLW.cell 1
  have l2 : W.cell? ⟨gl, 2, none⟩ = some (.int .i64 bt) := hLW.cell 2
  have l3 : W.cell? ⟨gl, 3, none⟩ = some (.int .i64 rg) := hLW.cell 3
  clear hLW hbW
  go_simp
  with_reducible rfl)
 refine zR 3 rfl (fun K' hK' => ?_)
 go_simp
 refine (HF.out w4 hb4w).mono ?_
 rintro e w5 ⟨Ab, nb, cb, Ar, nr, cr, rfl, sb5, sr5, hb5⟩
 have hb5w := hb4w.trans (hb5.mono hb4w.size)
 have hO5 := hO4.below hb5 hO4.lt
 obtain ⟨o5_0, o5_1, o5_2, o5_3, o5_4, o5_5⟩ := zC6 hO5
 have fo5 := hO5.frozen
 have zo5 := hO5.lt
 go_simp
 refine hK'.out _ _ ⟨hS.1.trans (hb5.mono hS.1.size), hS.2.below hb5 hS.2.lt⟩ (fun hS => ?_)
 clear hK' K'
 refine zU 4 rfl hS ?_ (hy := fun W hH => by
  obtain ⟨hbW, hLW⟩ := hH
  have l0 : W.cell? ⟨gl, 0, none⟩ = some (.int .i64 fn) := hLW.cell 0
  have l1 : W.cell? ⟨gl, 1, none⟩ = some (.int .i64 rd) := hLW.cell 1
  have l2 : W.cell? ⟨gl, 2, none⟩ = some (.int .i64 bt) := hLW.cell 2
  have l3 : W.cell? ⟨gl, 3, none⟩ = some (.int .i64 rg) := hLW.cell 3
  clear hLW hbW
  go_simp
  with_reducible rfl)
 refine zU 5 rfl hS ?_ (hy := fun W hH => by
  obtain ⟨hbW, hLW⟩ := hH
  have l0 : W.cell? ⟨gl, 0, none⟩ = some (.int .i64 fn) := hLW.cell 0
  have l1 : W.cell? ⟨gl, 1, none⟩ = some (.int .i64 rd) := hLW.cell 1
  have l2 : W.cell? ⟨gl, 2, none⟩ = some (.int .i64 bt) := hLW.cell 2
  have l3 : W.cell? ⟨gl, 3, none⟩ = some (.int .i64 rg) := hLW.cell 3
  clear hLW hbW
  go_simp
  with_reducible rfl)
 refine zU 6 rfl hS ?_ (hy := fun W hH => by
  obtain ⟨hbW, hLW⟩ := hH
  have l0 : W.cell? ⟨gl, 0, none⟩ = some (.int .i64 fn) := hLW.cell 0
  have l1 : W.cell? ⟨gl, 1, none⟩ = some (.int .i64 rd) := hLW.cell 1
  have l2 : W.cell? ⟨gl, 2, none⟩ = some (.int .i64 bt) := hLW.cell 2
  have l3 : W.cell? ⟨gl, 3, none⟩ = some (.int .i64 rg) := hLW.cell 3
  clear hLW hbW
  go_simp
  with_reducible rfl)
 refine zR 7 rfl (fun K' hK' => ?_)
 go_simp
 refine hK'.out _ _ ⟨((((((hS.1.setCell (p := ⟨w.heap.size, 0, none⟩) (Nat.le_refl _) _).setCell (p := ⟨w.heap.size, 1, none⟩) (Nat.le_refl _) _).setCell (p := ⟨w.heap.size, 2, none⟩) (Nat.le_refl _) _).setCell (p := ⟨w.heap.size, 3, none⟩) (Nat.le_refl _) _).setCell (p := ⟨w.heap.size, 4, none⟩) (Nat.le_refl _) _).setCell (p := ⟨w.heap.size, 5, none⟩) (Nat.le_refl _) _), ((((((hS.2.far (p := ⟨w.heap.size, 0, none⟩) (fun e => hLO.out e.symm) _).far (p := ⟨w.heap.size, 1, none⟩) (fun e => hLO.out e.symm) _).far (p := ⟨w.heap.size, 2, none⟩) (fun e => hLO.out e.symm) _).far (p := ⟨w.heap.size, 3, none⟩) (fun e => hLO.out e.symm) _).far (p := ⟨w.heap.size, 4, none⟩) (fun e => hLO.out e.symm) _).far (p := ⟨w.heap.size, 5, none⟩) (fun e => hLO.out e.symm) _)⟩ (fun hS => ?_)
 clear hK' K'
 refine zU 8 rfl hS ?_ (hy := fun W hH => by
  obtain ⟨hbW, hLW⟩ := hH
  have l0 : W.cell? ⟨gl, 0, none⟩ = some (.int .i64 fn) := hLW.cell 0
  have l1 : W.cell? ⟨gl, 1, none⟩ = some (.int .i64 rd) := hLW.cell 1
  have l2 : W.cell? ⟨gl, 2, none⟩ = some (.int .i64 bt) := hLW.cell 2
  have l3 : W.cell? ⟨gl, 3, none⟩ = some (.int .i64 rg) := hLW.cell 3
  clear hLW hbW
  go_simp
  with_reducible rfl)
 refine wpAnyH_done (by kernel_rfl) ?_ _
 obtain ⟨w6, hw6⟩ : ∃ W, ((((((w5.setCell ⟨w.heap.size, 0, none⟩ (.int .i64 pf)).setCell ⟨w.heap.size, 1, none⟩ (.int .i64 pa)).setCell ⟨w.heap.size, 2, none⟩ (.int .i64 pc)).setCell ⟨w.heap.size, 3, none⟩ (.int .i64 pt)).setCell ⟨w.heap.size, 4, none⟩ (.slice Ab nb cb)).setCell ⟨w.heap.size, 5, none⟩ (.slice Ar nr cr)) = W := ⟨_, rfl⟩
 have hO6 : Held w6 w.heap.size 59 #[.int .i64 pf, .int .i64 pa, .int .i64 pc, .int .i64 pt, .slice Ab nb cb, .slice Ar nr cr] := by rw [← hw6]; exact ((((((hO5.set 0 _).set 1 _).set 2 _).set 3 _).set 4 _).set 5 _)
 have hb6w : Below w.heap.size w w6 := by rw [← hw6]; exact ((((((hb5w.setCell (p := ⟨w.heap.size, 0, none⟩) (Nat.le_refl _) _).setCell (p := ⟨w.heap.size, 1, none⟩) (Nat.le_refl _) _).setCell (p := ⟨w.heap.size, 2, none⟩) (Nat.le_refl _) _).setCell (p := ⟨w.heap.size, 3, none⟩) (Nat.le_refl _) _).setCell (p := ⟨w.heap.size, 4, none⟩) (Nat.le_refl _) _).setCell (p := ⟨w.heap.size, 5, none⟩) (Nat.le_refl _) _)
 have hoff6 : OffB w5 w6 w.heap.size := by rw [← hw6]; exact ((((((OffB.refl _ w.heap.size).set 0 _).set 1 _).set 2 _).set 3 _).set 4 _).set 5 _
 rw [hw6]
 clear hw6
 obtain ⟨o6_0, o6_1, o6_2, o6_3, o6_4, o6_5⟩ := zC6 hO6
 have fo6 := hO6.frozen
 have zo6 := hO6.lt
 have sb6 := sb5.off hoff6 hO5 (by intro v hv x e; subst e; simp at hv)
 have sr6 := sr5.off hoff6 hO5 (by intro v hv x e; subst e; simp at hv)
 have HK : Hid (Calls Tryd.prog 61 #[.agg #[.int .i64 pf, .int .i64 pa, .int .i64 pc, .int .i64 pt, .slice Ab nb cb, .slice Ar nr cr]] w6 (CheckPost w6 true)) := Lib.hid (by
  have h1 := check_own (.agg #[.int .i64 pf, .int .i64 pa, .int .i64 pc, .int .i64 pt, .slice Ab nb cb, .slice Ar nr cr]) (⟨pf, pa, pc, pt, bits, regs⟩ : AskP) w6 (HT.out w6 hb6w) ⟨Ab, nb, cb, Ar, nr, cr, rfl, sb6, sr6⟩
  rw [hm] at h1
  exact h1)
 clear hm
 go_upto_region 11 with (first | ((with_reducible refine at_loadT 59 2 ?_); refine wpList_load_rowG rfl 59 (.tmp 2) rfl w.heap.size rfl 59 _ _ hO6 hu rfl hsz ?_) | (go_at_call 61; (with_reducible refine HK.out.mono ?_); rintro e w7 ⟨rfl, hb7⟩; have hb7w := hb6w.trans (hb7.mono hb6w.size); have hO7 := hO6.below hb7 hO6.lt; have o7_0 : w7.cell? ⟨w.heap.size, 0, none⟩ = some (.int .i64 pf) := hO7.cell 0; have o7_1 : w7.cell? ⟨w.heap.size, 1, none⟩ = some (.int .i64 pa) := hO7.cell 1; have o7_2 : w7.cell? ⟨w.heap.size, 2, none⟩ = some (.int .i64 pc) := hO7.cell 2; have o7_3 : w7.cell? ⟨w.heap.size, 3, none⟩ = some (.int .i64 pt) := hO7.cell 3; have o7_4 : w7.cell? ⟨w.heap.size, 4, none⟩ = some (.slice Ab nb cb) := hO7.cell 4; have o7_5 : w7.cell? ⟨w.heap.size, 5, none⟩ = some (.slice Ar nr cr) := hO7.cell 5; have fo7 := hO7.frozen; have zo7 := hO7.lt))
 go_wp2_with ((with_reducible refine at_loadT 59 2 ?_); refine wpList_load_rowG rfl 59 (.tmp 2) rfl w.heap.size rfl 59 _ _ hO7 hu rfl hsz ?_)
 obtain ⟨w8, hw8⟩ : ∃ W, ((((((w7.setCell ⟨w.heap.size, 0, none⟩ (.int .i64 pf)).setCell ⟨w.heap.size, 1, none⟩ (.int .i64 pa)).setCell ⟨w.heap.size, 2, none⟩ (.int .i64 pc)).setCell ⟨w.heap.size, 3, none⟩ (.int .i64 pt)).setCell ⟨w.heap.size, 4, none⟩ (.slice Ab nb cb)).setCell ⟨w.heap.size, 5, none⟩ (.slice Ar nr cr)) = W := ⟨_, rfl⟩
 have hO8 : Held w8 w.heap.size 59 #[.int .i64 pf, .int .i64 pa, .int .i64 pc, .int .i64 pt, .slice Ab nb cb, .slice Ar nr cr] := by rw [← hw8]; exact ((((((hO7.set 0 _).set 1 _).set 2 _).set 3 _).set 4 _).set 5 _)
 have hb8w : Below w.heap.size w w8 := by rw [← hw8]; exact ((((((hb7w.setCell (p := ⟨w.heap.size, 0, none⟩) (Nat.le_refl _) _).setCell (p := ⟨w.heap.size, 1, none⟩) (Nat.le_refl _) _).setCell (p := ⟨w.heap.size, 2, none⟩) (Nat.le_refl _) _).setCell (p := ⟨w.heap.size, 3, none⟩) (Nat.le_refl _) _).setCell (p := ⟨w.heap.size, 4, none⟩) (Nat.le_refl _) _).setCell (p := ⟨w.heap.size, 5, none⟩) (Nat.le_refl _) _)
 have hoff8 : OffB w7 w8 w.heap.size := by rw [← hw8]; exact ((((((OffB.refl _ w.heap.size).set 0 _).set 1 _).set 2 _).set 3 _).set 4 _).set 5 _
 rw [hw8]
 clear hw8
 have sb8 := (sb6.up hb7).off hoff8 hO7 (by intro v hv x e; subst e; simp at hv)
 have sr8 := (sr6.up hb7).off hoff8 hO7 (by intro v hv x e; subst e; simp at hv)
 obtain ⟨q8_0, q8_1, q8_2, q8_3, q8_4, q8_5⟩ := zC6 hO8
 have fq8 := hO8.frozen
 have zq8 := hO8.lt
 have HP : ReadPost w ((⟨pf, pa, pc, pt, bits, regs⟩ : AskP), 0, 0) (.returned (.tuple #[.agg #[.int .i64 pf, .int .i64 pa, .int .i64 pc, .int .i64 pt, .slice Ab nb cb, .slice Ar nr cr], .int .i64 0, .int .i64 0])) w8 := ⟨_, rfl, ⟨Ab, nb, cb, Ar, nr, cr, rfl, sb8, sr8⟩, hb8w⟩
 exact bodyPost_ret (v := .tuple #[.agg #[.int .i64 pf, .int .i64 pa, .int .i64 pc, .int .i64 pt, .slice Ab nb cb, .slice Ar nr cr], .int .i64 0, .int .i64 0]) (by simp [results, Tryd.results93, go_sem, q8_0, q8_1, q8_2, q8_3, q8_4, q8_5]) rfl HP
theorem read_own (A : Option Addr) (n c : Nat) (b : List Int) (w : World) (hT : LimT w) (hB : SlI w w.heap.size .u8 A n c b) (hb8 : Byte8 b) :
  Calls Tryd.prog 93 #[.slice A n c] w (ReadPost w (readP b)) := by
 have hl := hB.1
 by_cases h0 : n = 0
 ·have e : readP b = (ask0, 0, 190) := by unfold readP; rw [if_pos (Or.inl (by omega))]
  rw [e]
  exact rd_0 A n c w h0
 by_cases h253 : 253 < n
 ·have e : readP b = (ask0, 0, 190) := by unfold readP; rw [if_pos (Or.inr (by omega))]
  rw [e]
  exact rd_l A n c w h253
 obtain ⟨g, off, rfl, hg⟩ := hB.some_ (by omega)
 obtain ⟨fn, hfn⟩ : ∃ x, b[0]? = some x := ⟨_, List.getElem?_eq_getElem (by omega)⟩
 have hd : b.getD 0 0 = fn := by simp [List.getD, hfn]
 have e0 : readP b = match limP fn with
  | none => (ask0, 1, 190)
  | some _ => match parseP b with
   | none => (ask0, 3, 190)
   | some a => if mayP a then (a, 0, 0) else (ask0, 2, 190) := by
  unfold readP
  rw [if_neg (by omega), hd]
  rfl
 rw [e0]
 cases hlim : limP fn with
 | none => exact rd_none g off n c b w hT hB hb8 (by omega) (by omega) fn hfn hlim
 | some t =>
  obtain ⟨rd, bt, rg⟩ := t
  cases hp : parseP b with
  | none => exact rd_bad g off n c b w hT hB hb8 (by omega) (by omega) fn rd bt rg hfn hlim hp
  | some p =>
   obtain ⟨pf, pa, pc, pt, bits, regs⟩ := p
   cases hm : mayP ⟨pf, pa, pc, pt, bits, regs⟩ with
   | false => simpa [hm] using rd_not g off n c b w hT hB hb8 (by omega) (by omega) fn rd bt rg hfn hlim pf pa pc pt bits regs hp hm
   | true => simpa [hm] using rd_yes g off n c b w hT hB hb8 (by omega) (by omega) fn rd bt rg hfn hlim pf pa pc pt bits regs hp hm
end Go.Proofs.YtcipleanckeoaaaDoor
