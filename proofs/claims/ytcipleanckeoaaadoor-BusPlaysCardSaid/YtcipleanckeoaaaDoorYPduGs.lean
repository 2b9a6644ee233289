/- kilowattref19.guess: what the ways share; too short; the plain functions. -/
import Derived.Test.YtcipleanckeoaaaDoorYTk
import Derived.Test.YtcipleanckeoaaaDoorYPduFields
import Derived.Test.YtcipleanckeoaaaDoorYPduBase
import Derived.Deep.Cut
import Derived.IntWalk
import Derived.Test.YtcipleanckeoaaaDoorYPduFrom
import Derived.Test.YtcipleanckeoaaaDoorYCommon
set_option maxRecDepth 100000
set_option maxHeartbeats 40000000
namespace Go.Proofs.YtcipleanckeoaaaDoor
open Go.RowKit
def atP (b : List Int) (i : Nat) : Int := if i + 1 < b.length then wordP b i else -1
theorem at_any (A : Option Addr) (n c : Nat) (b : List Int) (i : Nat) (hi : i ≤ 1000000) (w : World) (h : SlI w w.heap.size .u8 A n c b) (hb8 : Byte8 b) :
  Calls Tryd.prog 151 #[.slice A n c, .int .i64 i] w fun e w' => e = .returned (.int .i64 (atP b i)) ∧ ∃ m, w' = w.drewN m := by
 by_cases hlt : i + 1 < n
 ·obtain ⟨g, off, x, rfl, _, hx, hc⟩ := h.2.2.2.2.at_ (i := i) (by rw [h.1]; omega)
  obtain ⟨g', off', y, e, _, hy, hc'⟩ := h.2.2.2.2.at_ (i := i + 1) (by rw [h.1]; omega)
  injection e with e
  injection e with e1 e2
  subst e1 e2
  obtain ⟨x0, x1⟩ := hb8 x (List.mem_of_getElem? hx)
  obtain ⟨y0, y1⟩ := hb8 y (List.mem_of_getElem? hy)
  have HV := Lib.hid (show atP b i = x * 256 + y by unfold atP; rw [if_pos (by rw [h.1]; exact hlt)]; simp [wordP, List.getD, hx, hy])
  have w1 : IntKind.i64.wrap x = x := by rw [IntKind.wrap_i64]; omega
  have w2 : IntKind.i64.wrap y = y := by rw [IntKind.wrap_i64]; omega
  have w3 : IntKind.i64.wrap (x * 256) = x * 256 := by rw [IntKind.wrap_i64]; omega
  have w4 : IntKind.i64.wrap (x * 256 + y) = x * 256 + y := by rw [IntKind.wrap_i64]; omega
  have w5 : IntKind.i64.wrap ((i : Int) + 1) = (i : Int) + 1 := by rw [IntKind.wrap_i64]; omega
  have z0 : 0 ≤ (i : Int) + 1 := by omega
  have z1 : ((i : Int) + 1).toNat = i + 1 := by omega
  have z2 : (i : Int) + 1 < (n : Int) := by omega
  have z3 : i < n := by omega
  clear h hx hy hb8
  go_in
  go_wp2
  go_quiet (fail)
  go_wp2
  go_ret
  exact ⟨reti HV.out.symm, _, rfl⟩
 ·have HV := Lib.hid (show atP b i = -1 by unfold atP; rw [if_neg (by rw [h.1]; exact hlt)])
  have z2 : ¬ (i : Int) + 1 < (n : Int) := by omega
  clear h
  go_in
  go_wp2
  go_ret
  exact ⟨reti HV.out.symm, 0, rfl⟩
set_option linter.unusedVariables false
theorem gs_words_take (b : List Int) (k : Nat) (h : k < (wordsP b).length) : (wordsP b).take (k + 1) = (wordsP b).take k ++ [wordP b (2 * k)] := by
 rw [List.take_succ_eq_append_getElem h]
 simp [wordsP]
theorem gs_at_drop (b : List Int) (F k : Nat) (h : F + 2 * k + 1 < b.length) : atP b (F + 2 * k) = wordP (b.drop F) (2 * k) := by
 unfold atP
 rw [if_pos h]
 simp only [wordP, List.getD, List.getElem?_drop, Nat.add_assoc]
theorem gs_wordP_in (b : List Int) (hb : Byte8 b) (i : Nat) (h : i + 1 < b.length) : 0 ≤ wordP b i ∧ wordP b i < 65536 := by
 have a1 := hb _ (List.getElem_mem (show i < b.length by omega))
 have a2 := hb _ (List.getElem_mem (show i + 1 < b.length by omega))
 have b1 : b.getD i 0 = b[i]'(by omega) := by simp [List.getD, show i < b.length by omega]
 have b2 : b.getD (i + 1) 0 = b[i + 1]'(by omega) := by simp [List.getD, h]
 unfold wordP
 rw [b1, b2]
 omega
theorem gs_own_off {w : World} {base : Nat} {e : TypeId} {size n B : Nat} {v : Value} {xs : List Value} (h : w.ownsRow base e size v n xs) (hB : B < base) (i : Nat) (u : Value) : (w.setCell ⟨B, i, none⟩ u).ownsRow base e size v n xs :=
 own_same h fun g hg => Below.heap_setCell w ⟨B, i, none⟩ u g (by have := (h.lt g hg).1; show g ≠ B; omega)
theorem gsG_A (g off n c : Nat) (b : List Int) (w : World) (hB : SlI w w.heap.size .u8 (some ⟨g, off, none⟩) n c b) (hy8 : Byte8 b) (hn0 : 0 < n) (hn : n ≤ 1000) (fn : Int) (hfn : b.getD 0 0 = fn) (o : Option AskP)
  (hc : ((atP b 1 < 0) ∧ (Hid (o = none))) ∨
   ((0 ≤ atP b 1) ∧ (atP b 3 < 0) ∧ (Hid (o = none))) ∨
   ((0 ≤ atP b 3) ∧ (atP b 3 ≤ 65535) ∧ (0 ≤ atP b 1) ∧ ((fn == 5) = false) ∧ ((fn == 6) = false) ∧ ((fn == 15) = false) ∧ ((fn == 16) = false) ∧ ((fn == 23) = false) ∧ ∃ q : Bool, (((n : Int) == 5) = q) ∧ (Hid (o = if q = true then some ⟨fn, atP b 1, atP b 3, 0, [], []⟩ else none))) ∨
   ((0 ≤ atP b 3) ∧ (atP b 3 ≤ 65535) ∧ (0 ≤ atP b 1) ∧ ((fn == 5) = false) ∧ ((fn == 6) = true) ∧ ((fn == 15) = false) ∧ ((fn == 16) = false) ∧ ((fn == 23) = false) ∧ ∃ q : Bool, (((n : Int) == 5) = q) ∧ (Hid (o = if q = true then some ⟨fn, atP b 1, 0, 0, [], [atP b 3]⟩ else none))) ∨
   ((0 ≤ atP b 3) ∧ (atP b 3 ≤ 65535) ∧ (0 ≤ atP b 1) ∧ ((fn == 5) = true) ∧ ((fn == 6) = false) ∧ ((fn == 15) = false) ∧ ((fn == 16) = false) ∧ ((fn == 23) = false) ∧ (((n : Int) == 5) = false) ∧ ∃ bb : Bool, ((atP b 3 == 65280) = bb) ∧ (Hid (o = if false = true then some ⟨fn, atP b 1, 0, 0, [bb], []⟩ else none))) ∨
   ((0 ≤ atP b 3) ∧ (atP b 3 ≤ 65535) ∧ (0 ≤ atP b 1) ∧ ((fn == 5) = true) ∧ ((fn == 6) = false) ∧ ((fn == 15) = false) ∧ ((fn == 16) = false) ∧ ((fn == 23) = false) ∧ (((n : Int) == 5) = true) ∧ ((atP b 3 == 65280) = true) ∧ (Hid (o = if true = true then some ⟨fn, atP b 1, 0, 0, [true], []⟩ else none))) ∨
   ((0 ≤ atP b 3) ∧ (atP b 3 ≤ 65535) ∧ (0 ≤ atP b 1) ∧ ((fn == 5) = true) ∧ ((fn == 6) = false) ∧ ((fn == 15) = false) ∧ ((fn == 16) = false) ∧ ((fn == 23) = false) ∧ (((n : Int) == 5) = true) ∧ ((atP b 3 == 65280) = false) ∧ ((atP b 3 == 0) = true) ∧ (Hid (o = if true = true then some ⟨fn, atP b 1, 0, 0, [false], []⟩ else none))) ∨
   ((0 ≤ atP b 3) ∧ (atP b 3 ≤ 65535) ∧ (0 ≤ atP b 1) ∧ ((fn == 5) = true) ∧ ((fn == 6) = false) ∧ ((fn == 15) = false) ∧ ((fn == 16) = false) ∧ ((fn == 23) = false) ∧ (((n : Int) == 5) = true) ∧ ((atP b 3 == 65280) = false) ∧ ((atP b 3 == 0) = false) ∧ (Hid (o = if false = true then some ⟨fn, atP b 1, 0, 0, [false], []⟩ else none)))) :
  Calls Tryd.prog 128 #[.slice (some ⟨g, off, none⟩) n c] w (FPost w o) := by
 have HCS := Lib.hid hc
 clear hc
 obtain ⟨w1, hw1⟩ : ∃ w1, w.alloc (.cells #[.int .i64 0, .int .i64 0, .int .i64 0, .int .i64 0, .slice none 0 0, .slice none 0 0] 59) = w1 := ⟨_, rfl⟩
 have hb1 := zB1 hw1
 have hO1 := zH1 hw1
 have HW1 := Lib.hid hw1
 clear hw1
 have hu := Tryd.underlying59
 have hsz := zSz
 have hl := hB.1
 have hcap := hB.2.1
 have hfr : 0 ≤ fn ∧ fn < 256 := by
  rw [← hfn, List.getD, List.getElem?_eq_getElem (by omega)]
  exact hy8 _ (List.getElem_mem _)
 have hwf : IntKind.i64.wrap fn = fn := IntWalk.i64_in fn (by omega)
 have hn0' : (0 : Int) < (n : Int) := by omega
 have HC : Hid (∀ X, Below w.heap.size w X → ∀ i, i < n → X.cell? ⟨g, off + i, none⟩ = some (.int .u8 (b.getD i 0))) := Lib.hid (fun X h i hi => by
  obtain ⟨g', o', e, _, hc⟩ := (hB.up h).2.2.2.2 (by omega)
  injection e with e
  injection e with e1 e2
  subst e1 e2
  exact hc i _ (by rw [List.getD, List.getElem?_eq_getElem (by omega)]; rfl))
 have HC0 : Hid (∀ X, Below w.heap.size w X → X.cell? ⟨g, off, none⟩ = some (.int .u8 fn)) := Lib.hid (fun X h => by rw [← hfn]; exact HC.out X h 0 hn0)
 have HAT := Lib.hid (fun (i : Nat) (hi : i ≤ 1000000) (X : World) (h : Below w.heap.size w X) => at_any (some ⟨g, off, none⟩) n c b i hi X (hB.up h) hy8)
 have HB := Lib.hid (fun (X : World) (h : Below w.heap.size w X) => hB.up h)
 have HL := Lib.hid hl
 have HCP := Lib.hid hcap
 clear hB hl hcap hfn
 obtain ⟨ad, had⟩ : ∃ x, atP b 1 = x := ⟨_, rfl⟩
 have HAT1 : Hid (∀ X, Below w.heap.size w X → Calls Tryd.prog 151 #[.slice (some ⟨g, off, none⟩) n c, .int .i64 1] X fun e w' => e = .returned (.int .i64 ad) ∧ ∃ m, w' = X.drewN m) := Lib.hid (fun X h => by rw [← had]; exact HAT.out 1 (by omega) X h)
 obtain ⟨nn, hnn⟩ : ∃ x, atP b 3 = x := ⟨_, rfl⟩
 have HAT3 : Hid (∀ X, Below w.heap.size w X → Calls Tryd.prog 151 #[.slice (some ⟨g, off, none⟩) n c, .int .i64 3] X fun e w' => e = .returned (.int .i64 nn) ∧ ∃ m, w' = X.drewN m) := Lib.hid (fun X h => by rw [← hnn]; exact HAT.out 3 (by omega) X h)
 have HAD := Lib.hid had
 have HNN0 := Lib.hid hnn
 clear had hnn
 go_in
 go_upto_region 1 with fail
 rw [HW1.out]
 obtain ⟨gA, hgA⟩ : ∃ x, w1.heap.size = x := ⟨_, rfl⟩
 have HGL : Hid (w.heap.size < gA) := Lib.hid (by have := hO1.lt; omega)
 go_cut [4] from 9 (fun s4 wx => s4 = .pointer (some ⟨gA, 0, none⟩) ∧ Below w.heap.size w wx ∧ Held wx gA 59 #[.int .i64 fn, .int .i64 ad, .int .i64 0, .int .i64 0, .slice none 0 0, .slice none 0 0] ∧ Held wx w.heap.size 59 #[.int .i64 0, .int .i64 0, .int .i64 0, .int .i64 0, .slice none 0 0, .slice none 0 0])
 case first =>
  obtain ⟨w2, hw2⟩ : ∃ W : World, w1.drew = W := ⟨_, rfl⟩
  have hS2 : Below w.heap.size w w2 := by rw [← hw2]; exact hb1.drew
  have hg2 : w2.heap.size = gA := by rw [← hw2]; exact hgA
  have hO2 : Held w2 w.heap.size 59 #[.int .i64 0, .int .i64 0, .int .i64 0, .int .i64 0, .slice none 0 0, .slice none 0 0] := by rw [← hw2]; exact hO1
  refine wp_region_held (S := fun X => Below w.heap.size w X ∧ Held X w.heap.size 59 #[.int .i64 0, .int .i64 0, .int .i64 0, .int .i64 0, .slice none 0 0, .slice none 0 0]) (by kernel_rfl) ?_
  change wpAnyH _ _ _ _ _ _ _ _ w1.drew
  rw [hw2]
  clear hw2
  have hS : Below w.heap.size w w2 ∧ Held w2 w.heap.size 59 #[.int .i64 0, .int .i64 0, .int .i64 0, .int .i64 0, .slice none 0 0, .slice none 0 0] := ⟨hS2, hO2⟩
  refine zU 0 rfl hS ?_
  refine zU 1 rfl hS ?_
  refine zU 2 rfl hS ?_ (hy := fun W hH => by
   have c0 := HC0.out W hH.1
   go_simp
   with_reducible rfl)
  refine zU 3 rfl hS ?_
  refine zU 4 rfl hS ?_
  refine wpAnyH_ready (rs := [5, 7]) (by kernel_rfl) (by simp) ?_
  refine AllReadyH.cons rfl (fun K' hK' => ?_) (AllReadyH.cons rfl (fun K' hK' => ?_) AllReadyH.nil)
  ·skip
   go_simp
   refine (HAT1.out _ hS.1).mono ?_
   rintro e w' ⟨rfl, mc, rfl⟩
   go_simp
   refine hK'.out _ _ ⟨below_drewN hS.1 _, hS.2⟩ (fun hS => ?_)
   clear hK' K'
   refine zU 6 rfl hS ?_
   refine zR 7 rfl (fun K' hK' => ?_)
   go_simp
   refine hK'.out _ _ ⟨hS.1.alloc hS.1.size _, hS.2.alloc _⟩ (fun hS => ?_)
   clear hK' K'
   refine zR 8 rfl (fun K' hK' => ?_)
   go_simp
   have hS8 : Below w.heap.size w ((w2.drewN mc).alloc (.cells #[.int .i64 fn, .int .i64 ad, .int .i64 0, .int .i64 0, .slice none 0 0, .slice none 0 0] 59)) := (below_drewN hS2 mc).alloc (by have := hS2.size; simpa using this) _
   have hO8 : Held ((w2.drewN mc).alloc (.cells #[.int .i64 fn, .int .i64 ad, .int .i64 0, .int .i64 0, .slice none 0 0, .slice none 0 0] 59)) w.heap.size 59 #[.int .i64 0, .int .i64 0, .int .i64 0, .int .i64 0, .slice none 0 0, .slice none 0 0] := Held.alloc (W := w2.drewN mc) hO2 _
   have hA8 : Held ((w2.drewN mc).alloc (.cells #[.int .i64 fn, .int .i64 ad, .int .i64 0, .int .i64 0, .slice none 0 0, .slice none 0 0] 59)) gA 59 #[.int .i64 fn, .int .i64 ad, .int .i64 0, .int .i64 0, .slice none 0 0, .slice none 0 0] := hg2 ▸ Held.new (w2.drewN mc) 59 #[.int .i64 fn, .int .i64 ad, .int .i64 0, .int .i64 0, .slice none 0 0, .slice none 0 0]
   refine hK'.out _ _ ⟨hS8, hO8⟩ (fun hS => ?_)
   clear hK' K'
   refine wpAnyH_done (by kernel_rfl) ?_ _
   go_wp2_with fail
   go_meet
   case rel => exact ⟨rfl, hS.1, hA8, hS.2⟩
  ·skip
   go_simp
   refine hK'.out _ _ ⟨hS.1.alloc hS.1.size _, hS.2.alloc _⟩ (fun hS => ?_)
   clear hK' K'
   refine zR 5 rfl (fun K' hK' => ?_)
   go_simp
   refine (HAT1.out _ hS.1).mono ?_
   rintro e w' ⟨rfl, mc, rfl⟩
   go_simp
   refine hK'.out _ _ ⟨below_drewN hS.1 _, hS.2⟩ (fun hS => ?_)
   clear hK' K'
   refine zU 6 rfl hS ?_
   refine zR 8 rfl (fun K' hK' => ?_)
   go_simp
   have hB8 : Below w.heap.size w ((w2.alloc (.cells #[.int .i64 0, .int .i64 0, .int .i64 0, .int .i64 0, .slice none 0 0, .slice none 0 0] 59)).drewN mc) := below_drewN (hS2.alloc hS2.size _) mc
   have hO8_ : Held ((w2.alloc (.cells #[.int .i64 0, .int .i64 0, .int .i64 0, .int .i64 0, .slice none 0 0, .slice none 0 0] 59)).drewN mc) w.heap.size 59 #[.int .i64 0, .int .i64 0, .int .i64 0, .int .i64 0, .slice none 0 0, .slice none 0 0] := hO2.alloc _
   have hA8_ : Held ((w2.alloc (.cells #[.int .i64 0, .int .i64 0, .int .i64 0, .int .i64 0, .slice none 0 0, .slice none 0 0] 59)).drewN mc) gA 59 #[.int .i64 0, .int .i64 0, .int .i64 0, .int .i64 0, .slice none 0 0, .slice none 0 0] := hg2 ▸ Held.new w2 59 #[.int .i64 0, .int .i64 0, .int .i64 0, .int .i64 0, .slice none 0 0, .slice none 0 0]
   have hgl : w.heap.size < gA := by have := hO2.lt; omega
   have hS8 : Below w.heap.size w ((((((((w2.alloc (.cells #[.int .i64 0, .int .i64 0, .int .i64 0, .int .i64 0, .slice none 0 0, .slice none 0 0] 59)).drewN mc).setCell ⟨gA, 0, none⟩ (.int .i64 fn)).setCell ⟨gA, 1, none⟩ (.int .i64 ad)).setCell ⟨gA, 2, none⟩ (.int .i64 0)).setCell ⟨gA, 3, none⟩ (.int .i64 0)).setCell ⟨gA, 4, none⟩ (.slice none 0 0)).setCell ⟨gA, 5, none⟩ (.slice none 0 0)) := ((((((hB8.setCell (p := ⟨gA, 0, none⟩) (Nat.le_of_lt hgl) _).setCell (p := ⟨gA, 1, none⟩) (Nat.le_of_lt hgl) _).setCell (p := ⟨gA, 2, none⟩) (Nat.le_of_lt hgl) _).setCell (p := ⟨gA, 3, none⟩) (Nat.le_of_lt hgl) _).setCell (p := ⟨gA, 4, none⟩) (Nat.le_of_lt hgl) _).setCell (p := ⟨gA, 5, none⟩) (Nat.le_of_lt hgl) _)
   have hO8 : Held ((((((((w2.alloc (.cells #[.int .i64 0, .int .i64 0, .int .i64 0, .int .i64 0, .slice none 0 0, .slice none 0 0] 59)).drewN mc).setCell ⟨gA, 0, none⟩ (.int .i64 fn)).setCell ⟨gA, 1, none⟩ (.int .i64 ad)).setCell ⟨gA, 2, none⟩ (.int .i64 0)).setCell ⟨gA, 3, none⟩ (.int .i64 0)).setCell ⟨gA, 4, none⟩ (.slice none 0 0)).setCell ⟨gA, 5, none⟩ (.slice none 0 0)) w.heap.size 59 #[.int .i64 0, .int .i64 0, .int .i64 0, .int .i64 0, .slice none 0 0, .slice none 0 0] := ((((((hO8_.far (p := ⟨gA, 0, none⟩) (Nat.ne_of_lt hgl) _).far (p := ⟨gA, 1, none⟩) (Nat.ne_of_lt hgl) _).far (p := ⟨gA, 2, none⟩) (Nat.ne_of_lt hgl) _).far (p := ⟨gA, 3, none⟩) (Nat.ne_of_lt hgl) _).far (p := ⟨gA, 4, none⟩) (Nat.ne_of_lt hgl) _).far (p := ⟨gA, 5, none⟩) (Nat.ne_of_lt hgl) _)
   have hA8 : Held ((((((((w2.alloc (.cells #[.int .i64 0, .int .i64 0, .int .i64 0, .int .i64 0, .slice none 0 0, .slice none 0 0] 59)).drewN mc).setCell ⟨gA, 0, none⟩ (.int .i64 fn)).setCell ⟨gA, 1, none⟩ (.int .i64 ad)).setCell ⟨gA, 2, none⟩ (.int .i64 0)).setCell ⟨gA, 3, none⟩ (.int .i64 0)).setCell ⟨gA, 4, none⟩ (.slice none 0 0)).setCell ⟨gA, 5, none⟩ (.slice none 0 0)) gA 59 #[.int .i64 fn, .int .i64 ad, .int .i64 0, .int .i64 0, .slice none 0 0, .slice none 0 0] := ((((((hA8_.set 0 _).set 1 _).set 2 _).set 3 _).set 4 _).set 5 _)
   refine hK'.out _ _ ⟨hS8, hO8⟩ (fun hS => ?_)
   clear hK' K'
   refine wpAnyH_done (by kernel_rfl) ?_ _
   go_wp2_with fail
   go_meet
   case rel => exact ⟨rfl, hS.1, hA8, hS.2⟩
 case rest =>
 obtain ⟨rfl, hb3w, hA3, hO3⟩ := hcut
 obtain ⟨w3, rfl⟩ : ∃ W, W = wc := ⟨_, rfl⟩
 clear hO1 hb1 HW1 hgA
 go_wp2_with fail
 refine (HAT3.out w3 hb3w).mono ?_
 rintro e w4 ⟨rfl, m4, hw4⟩
 have hb4 : Below w3.heap.size w3 w4 := by rw [hw4]; exact below_drewN (Below.refl _ _) _
 clear hw4
 have hb4w := hb3w.trans (hb4.mono hb3w.size)
 have hO4 := hO3.below hb4 hO3.lt
 have hA4 := hA3.below hb4 hA3.lt
 rcases HCS.out with ⟨h1, ho⟩ | ⟨h1, h2, ho⟩ | ⟨hnn3, hnn4, had0, t5, t6, t15, t16, t23, q, h5, ho⟩ | ⟨hnn3, hnn4, had0, t5, t6, t15, t16, t23, q, h5, ho⟩ | ⟨hnn3, hnn4, had0, t5, t6, t15, t16, t23, h5, bb, tb, ho⟩ | ⟨hnn3, hnn4, had0, t5, t6, t15, t16, t23, h5, tb, ho⟩ | ⟨hnn3, hnn4, had0, t5, t6, t15, t16, t23, h5, tb, tz, ho⟩ | ⟨hnn3, hnn4, had0, t5, t6, t15, t16, t23, h5, tb, tz, ho⟩
 ·clear HCS
  have had := HAD.out
  have hnn := HNN0.out
  rw [had] at h1
  have ta : decide (ad < 0) = true := decide_eq_true h1
  clear had hnn
  obtain ⟨o4_0, o4_1, o4_2, o4_3, o4_4, o4_5⟩ := six_cells hO4
  obtain ⟨a4_0, a4_1, a4_2, a4_3, a4_4, a4_5⟩ := six_cells hA4
  have fo4 := hO4.frozen
  have fa4 := hA4.frozen
  have zO4 := hO4.lt
  have zA4 := hA4.lt
  go_wp2_with ((with_reducible refine at_loadT 59 4 ?_); refine wpList_load_rowG rfl 59 (.tmp 4) rfl gA rfl 59 _ _ hA4 hu rfl hsz ?_)
  obtain ⟨wz, hwz, hbz, hZ, hoff⟩ := six hb4w hO4 (Nat.le_refl _) (.int .i64 fn) (.int .i64 ad) (.int .i64 0) (.int .i64 0) (.slice none 0 0) (.slice none 0 0)
  obtain ⟨z0, z1, z2, z3, z4, z5⟩ := six_cells hZ
  rw [hwz]
  have HP : FPost w o (.returned (.tuple #[.agg #[.int .i64 fn, .int .i64 ad, .int .i64 0, .int .i64 0, .slice none 0 0, .slice none 0 0], .bool false])) wz := fpost (p := ⟨fn, ad, 0, 0, [], []⟩) (q := false) ho ⟨_, _, _, _, _, _, rfl, SlB.nil _ _, SlI.nil _ _ _⟩ hbz
  clear hwz
  exact bodyPost_ret (v := .tuple #[.agg #[.int .i64 fn, .int .i64 ad, .int .i64 0, .int .i64 0, .slice none 0 0, .slice none 0 0], .bool false]) (by simp [results, Tryd.results128, go_sem, z0, z1, z2, z3, z4, z5]) rfl HP
 ·clear HCS
  have had := HAD.out
  have hnn := HNN0.out
  rw [had] at h1
  rw [hnn] at h2
  have ta : decide (ad < 0) = false := decide_eq_false (by omega)
  have tn : decide (nn < 0) = true := decide_eq_true h2
  clear had hnn
  obtain ⟨o4_0, o4_1, o4_2, o4_3, o4_4, o4_5⟩ := six_cells hO4
  obtain ⟨a4_0, a4_1, a4_2, a4_3, a4_4, a4_5⟩ := six_cells hA4
  have fo4 := hO4.frozen
  have fa4 := hA4.frozen
  have zO4 := hO4.lt
  have zA4 := hA4.lt
  go_wp2_with ((with_reducible refine at_loadT 59 4 ?_); refine wpList_load_rowG rfl 59 (.tmp 4) rfl gA rfl 59 _ _ hA4 hu rfl hsz ?_)
  obtain ⟨wz, hwz, hbz, hZ, hoff⟩ := six hb4w hO4 (Nat.le_refl _) (.int .i64 fn) (.int .i64 ad) (.int .i64 0) (.int .i64 0) (.slice none 0 0) (.slice none 0 0)
  obtain ⟨z0, z1, z2, z3, z4, z5⟩ := six_cells hZ
  rw [hwz]
  have HP : FPost w o (.returned (.tuple #[.agg #[.int .i64 fn, .int .i64 ad, .int .i64 0, .int .i64 0, .slice none 0 0, .slice none 0 0], .bool false])) wz := fpost (p := ⟨fn, ad, 0, 0, [], []⟩) (q := false) ho ⟨_, _, _, _, _, _, rfl, SlB.nil _ _, SlI.nil _ _ _⟩ hbz
  clear hwz
  exact bodyPost_ret (v := .tuple #[.agg #[.int .i64 fn, .int .i64 ad, .int .i64 0, .int .i64 0, .slice none 0 0, .slice none 0 0], .bool false]) (by simp [results, Tryd.results128, go_sem, z0, z1, z2, z3, z4, z5]) rfl HP
 ·clear HCS
  have had := HAD.out
  have hnn := HNN0.out
  rw [hnn] at hnn3 hnn4
  rw [had] at had0
  have ta : decide (ad < 0) = false := decide_eq_false (by omega)
  have tn : decide (nn < 0) = false := decide_eq_false (by omega)
  rw [had, hnn] at ho
  clear had hnn
  obtain ⟨o4_0, o4_1, o4_2, o4_3, o4_4, o4_5⟩ := six_cells hO4
  obtain ⟨a4_0, a4_1, a4_2, a4_3, a4_4, a4_5⟩ := six_cells hA4
  have fo4 := hO4.frozen
  have fa4 := hA4.frozen
  have zO4 := hO4.lt
  have zA4 := hA4.lt
  go_upto_region 36 with fail
  obtain ⟨w5, hw5⟩ : ∃ W, w4.setCell ⟨gA, 2, none⟩ (.int .i64 nn) = W := ⟨_, rfl⟩
  have hb5w : Below w.heap.size w w5 := by rw [← hw5]; exact hb4w.setCell (p := ⟨gA, 2, none⟩) (Nat.le_of_lt HGL.out) _
  have hO5 : Held w5 w.heap.size 59 #[.int .i64 0, .int .i64 0, .int .i64 0, .int .i64 0, .slice none 0 0, .slice none 0 0] := by rw [← hw5]; exact hO4.far (p := ⟨gA, 2, none⟩) (Nat.ne_of_lt HGL.out) _
  have hA5 : Held w5 gA 59 #[.int .i64 fn, .int .i64 ad, .int .i64 nn, .int .i64 0, .slice none 0 0, .slice none 0 0] := by rw [← hw5]; exact hA4.set 2 _
  rw [hw5]
  clear hw5
  obtain ⟨o5_0, o5_1, o5_2, o5_3, o5_4, o5_5⟩ := six_cells hO5
  obtain ⟨a5_0, a5_1, a5_2, a5_3, a5_4, a5_5⟩ := six_cells hA5
  have fo5 := hO5.frozen
  have fa5 := hA5.frozen
  have zO5 := hO5.lt
  have zA5 := hA5.lt
  go_wp2_with ((with_reducible refine at_loadT 59 4 ?_); refine wpList_load_rowG rfl 59 (.tmp 4) rfl gA rfl 59 _ _ hA5 hu rfl hsz ?_)
  obtain ⟨wz, hwz, hbz, hZ, hoff⟩ := six hb5w hO5 (Nat.le_refl _) (.int .i64 fn) (.int .i64 ad) (.int .i64 nn) (.int .i64 0) (.slice none 0 0) (.slice none 0 0)
  obtain ⟨z0, z1, z2, z3, z4, z5⟩ := six_cells hZ
  rw [hwz]
  have HP : FPost w o (.returned (.tuple #[.agg #[.int .i64 fn, .int .i64 ad, .int .i64 nn, .int .i64 0, .slice none 0 0, .slice none 0 0], .bool q])) wz := fpost ho ⟨_, _, _, _, _, _, rfl, SlB.nil _ _, SlI.nil _ _ _⟩ hbz
  clear hwz
  exact bodyPost_ret (v := .tuple #[.agg #[.int .i64 fn, .int .i64 ad, .int .i64 nn, .int .i64 0, .slice none 0 0, .slice none 0 0], .bool q]) (by simp [results, Tryd.results128, go_sem, z0, z1, z2, z3, z4, z5]) rfl HP
 ·clear HCS
  have had := HAD.out
  have hnn := HNN0.out
  rw [hnn] at hnn3 hnn4
  rw [had] at had0
  have ta : decide (ad < 0) = false := decide_eq_false (by omega)
  have tn : decide (nn < 0) = false := decide_eq_false (by omega)
  rw [had, hnn] at ho
  clear had hnn
  have hwu : IntKind.u16.wrap nn = nn := IntWalk.u16_in nn ⟨hnn3, hnn4⟩
  obtain ⟨o4_0, o4_1, o4_2, o4_3, o4_4, o4_5⟩ := six_cells hO4
  obtain ⟨a4_0, a4_1, a4_2, a4_3, a4_4, a4_5⟩ := six_cells hA4
  have fo4 := hO4.frozen
  have fa4 := hA4.frozen
  have zO4 := hO4.lt
  have zA4 := hA4.lt
  go_upto_region 12 with fail
  obtain ⟨gr, hgr⟩ : ∃ g, w4.heap.size = g := ⟨_, rfl⟩
  rw [hgr]
  obtain ⟨w5, hw5⟩ : ∃ W, w4.setCell ⟨gA, 5, none⟩ (.slice (some ⟨gr, 0, none⟩) 1 1) = W := ⟨_, rfl⟩
  have hb5w : Below w.heap.size w w5 := by rw [← hw5]; exact hb4w.setCell (p := ⟨gA, 5, none⟩) (Nat.le_of_lt HGL.out) _
  have hO5 : Held w5 w.heap.size 59 #[.int .i64 0, .int .i64 0, .int .i64 0, .int .i64 0, .slice none 0 0, .slice none 0 0] := by rw [← hw5]; exact hO4.far (p := ⟨gA, 5, none⟩) (Nat.ne_of_lt HGL.out) _
  have hA5 : Held w5 gA 59 #[.int .i64 fn, .int .i64 ad, .int .i64 0, .int .i64 0, .slice none 0 0, .slice (some ⟨gr, 0, none⟩) 1 1] := by rw [← hw5]; exact hA4.set 5 _
  have hgr5 : Hid (w5.heap.size = gr) := Lib.hid (by rw [← hw5, ← hgr]; simp [World.setCell])
  rw [hw5]
  clear hw5 hgr
  obtain ⟨w6, hw6⟩ : ∃ W, w5.alloc (.cells #[.int .u16 nn] 45) = W := ⟨_, rfl⟩
  have hb6 := zB1 hw6
  have hb6w := hb5w.trans (hb6.mono hb5w.size)
  have hO6 := hO5.below hb6 hO5.lt
  have hA6 := hA5.below hb6 hA5.lt
  have sr6 : SlI w6 w6.heap.size .u16 (some ⟨gr, 0, none⟩) 1 1 [nn] := by rw [← hw6]; exact SlI.lit_at hgr5.out rfl rfl (by omega)
  rw [hw6]
  clear hw6
  obtain ⟨o6_0, o6_1, o6_2, o6_3, o6_4, o6_5⟩ := six_cells hO6
  obtain ⟨a6_0, a6_1, a6_2, a6_3, a6_4, a6_5⟩ := six_cells hA6
  have fo6 := hO6.frozen
  have fa6 := hA6.frozen
  have zO6 := hO6.lt
  have zA6 := hA6.lt
  go_wp2_with ((with_reducible refine at_loadT 59 4 ?_); refine wpList_load_rowG rfl 59 (.tmp 4) rfl gA rfl 59 _ _ hA6 hu rfl hsz ?_)
  obtain ⟨wz, hwz, hbz, hZ, hoff⟩ := six hb6w hO6 (Nat.le_refl _) (.int .i64 fn) (.int .i64 ad) (.int .i64 0) (.int .i64 0) (.slice none 0 0) (.slice (some ⟨gr, 0, none⟩) 1 1)
  obtain ⟨z0, z1, z2, z3, z4, z5⟩ := six_cells hZ
  rw [hwz]
  have HP : FPost w o (.returned (.tuple #[.agg #[.int .i64 fn, .int .i64 ad, .int .i64 0, .int .i64 0, .slice none 0 0, .slice (some ⟨gr, 0, none⟩) 1 1], .bool q])) wz := fpost ho ⟨_, _, _, _, _, _, rfl, SlB.nil _ _, sr6.off hoff hO6 (by intro v hv x e; subst e; simp at hv)⟩ hbz
  clear hwz
  exact bodyPost_ret (v := .tuple #[.agg #[.int .i64 fn, .int .i64 ad, .int .i64 0, .int .i64 0, .slice none 0 0, .slice (some ⟨gr, 0, none⟩) 1 1], .bool q]) (by simp [results, Tryd.results128, go_sem, z0, z1, z2, z3, z4, z5]) rfl HP
 ·clear HCS
  have had := HAD.out
  have hnn := HNN0.out
  rw [hnn] at hnn3 hnn4
  rw [had] at had0
  have ta : decide (ad < 0) = false := decide_eq_false (by omega)
  have tn : decide (nn < 0) = false := decide_eq_false (by omega)
  rw [had] at ho
  rw [hnn] at tb
  clear had hnn
  obtain ⟨o4_0, o4_1, o4_2, o4_3, o4_4, o4_5⟩ := six_cells hO4
  obtain ⟨a4_0, a4_1, a4_2, a4_3, a4_4, a4_5⟩ := six_cells hA4
  have fo4 := hO4.frozen
  have fa4 := hA4.frozen
  have zO4 := hO4.lt
  have zA4 := hA4.lt
  go_upto_region 9 with fail
  obtain ⟨gr, hgr⟩ : ∃ g, w4.heap.size = g := ⟨_, rfl⟩
  rw [hgr]
  obtain ⟨w5, hw5⟩ : ∃ W, w4.setCell ⟨gA, 4, none⟩ (.slice (some ⟨gr, 0, none⟩) 1 1) = W := ⟨_, rfl⟩
  have hb5w : Below w.heap.size w w5 := by rw [← hw5]; exact hb4w.setCell (p := ⟨gA, 4, none⟩) (Nat.le_of_lt HGL.out) _
  have hO5 : Held w5 w.heap.size 59 #[.int .i64 0, .int .i64 0, .int .i64 0, .int .i64 0, .slice none 0 0, .slice none 0 0] := by rw [← hw5]; exact hO4.far (p := ⟨gA, 4, none⟩) (Nat.ne_of_lt HGL.out) _
  have hA5 : Held w5 gA 59 #[.int .i64 fn, .int .i64 ad, .int .i64 0, .int .i64 0, .slice (some ⟨gr, 0, none⟩) 1 1, .slice none 0 0] := by rw [← hw5]; exact hA4.set 4 _
  have hgr5 : Hid (w5.heap.size = gr) := Lib.hid (by rw [← hw5, ← hgr]; simp [World.setCell])
  rw [hw5]
  clear hw5 hgr
  obtain ⟨w6, hw6⟩ : ∃ W, w5.alloc (.cells #[.bool bb] 4) = W := ⟨_, rfl⟩
  have hb6 := zB1 hw6
  have hb6w := hb5w.trans (hb6.mono hb5w.size)
  have hO6 := hO5.below hb6 hO5.lt
  have hA6 := hA5.below hb6 hA5.lt
  have sb6 : SlB w6 w6.heap.size (some ⟨gr, 0, none⟩) 1 1 [bb] := by rw [← hw6, ← hgr5.out]; exact SlB.lit
  rw [hw6]
  clear hw6
  obtain ⟨o6_0, o6_1, o6_2, o6_3, o6_4, o6_5⟩ := six_cells hO6
  obtain ⟨a6_0, a6_1, a6_2, a6_3, a6_4, a6_5⟩ := six_cells hA6
  have fo6 := hO6.frozen
  have fa6 := hA6.frozen
  have zO6 := hO6.lt
  have zA6 := hA6.lt
  go_wp2_with ((with_reducible refine at_loadT 59 4 ?_); refine wpList_load_rowG rfl 59 (.tmp 4) rfl gA rfl 59 _ _ hA6 hu rfl hsz ?_)
  obtain ⟨wz, hwz, hbz, hZ, hoff⟩ := six hb6w hO6 (Nat.le_refl _) (.int .i64 fn) (.int .i64 ad) (.int .i64 0) (.int .i64 0) (.slice (some ⟨gr, 0, none⟩) 1 1) (.slice none 0 0)
  obtain ⟨z0, z1, z2, z3, z4, z5⟩ := six_cells hZ
  rw [hwz]
  have HP : FPost w o (.returned (.tuple #[.agg #[.int .i64 fn, .int .i64 ad, .int .i64 0, .int .i64 0, .slice (some ⟨gr, 0, none⟩) 1 1, .slice none 0 0], .bool false])) wz := fpost ho ⟨_, _, _, _, _, _, rfl, sb6.off hoff hO6 (by intro v hv x e; subst e; simp at hv), SlI.nil _ _ _⟩ hbz
  clear hwz
  exact bodyPost_ret (v := .tuple #[.agg #[.int .i64 fn, .int .i64 ad, .int .i64 0, .int .i64 0, .slice (some ⟨gr, 0, none⟩) 1 1, .slice none 0 0], .bool false]) (by simp [results, Tryd.results128, go_sem, z0, z1, z2, z3, z4, z5]) rfl HP
 ·clear HCS
  have had := HAD.out
  have hnn := HNN0.out
  rw [hnn] at hnn3 hnn4
  rw [had] at had0
  have ta : decide (ad < 0) = false := decide_eq_false (by omega)
  have tn : decide (nn < 0) = false := decide_eq_false (by omega)
  rw [had] at ho
  rw [hnn] at tb
  clear had hnn
  obtain ⟨o4_0, o4_1, o4_2, o4_3, o4_4, o4_5⟩ := six_cells hO4
  obtain ⟨a4_0, a4_1, a4_2, a4_3, a4_4, a4_5⟩ := six_cells hA4
  have fo4 := hO4.frozen
  have fa4 := hA4.frozen
  have zO4 := hO4.lt
  have zA4 := hA4.lt
  go_upto_region 9 with fail
  obtain ⟨gr, hgr⟩ : ∃ g, w4.heap.size = g := ⟨_, rfl⟩
  rw [hgr]
  obtain ⟨w5, hw5⟩ : ∃ W, w4.setCell ⟨gA, 4, none⟩ (.slice (some ⟨gr, 0, none⟩) 1 1) = W := ⟨_, rfl⟩
  have hb5w : Below w.heap.size w w5 := by rw [← hw5]; exact hb4w.setCell (p := ⟨gA, 4, none⟩) (Nat.le_of_lt HGL.out) _
  have hO5 : Held w5 w.heap.size 59 #[.int .i64 0, .int .i64 0, .int .i64 0, .int .i64 0, .slice none 0 0, .slice none 0 0] := by rw [← hw5]; exact hO4.far (p := ⟨gA, 4, none⟩) (Nat.ne_of_lt HGL.out) _
  have hA5 : Held w5 gA 59 #[.int .i64 fn, .int .i64 ad, .int .i64 0, .int .i64 0, .slice (some ⟨gr, 0, none⟩) 1 1, .slice none 0 0] := by rw [← hw5]; exact hA4.set 4 _
  have hgr5 : Hid (w5.heap.size = gr) := Lib.hid (by rw [← hw5, ← hgr]; simp [World.setCell])
  rw [hw5]
  clear hw5 hgr
  obtain ⟨w6, hw6⟩ : ∃ W, w5.alloc (.cells #[.bool true] 4) = W := ⟨_, rfl⟩
  have hb6 := zB1 hw6
  have hb6w := hb5w.trans (hb6.mono hb5w.size)
  have hO6 := hO5.below hb6 hO5.lt
  have hA6 := hA5.below hb6 hA5.lt
  have sb6 : SlB w6 w6.heap.size (some ⟨gr, 0, none⟩) 1 1 [true] := by rw [← hw6, ← hgr5.out]; exact SlB.lit
  rw [hw6]
  clear hw6
  obtain ⟨o6_0, o6_1, o6_2, o6_3, o6_4, o6_5⟩ := six_cells hO6
  obtain ⟨a6_0, a6_1, a6_2, a6_3, a6_4, a6_5⟩ := six_cells hA6
  have fo6 := hO6.frozen
  have fa6 := hA6.frozen
  have zO6 := hO6.lt
  have zA6 := hA6.lt
  go_wp2_with ((with_reducible refine at_loadT 59 4 ?_); refine wpList_load_rowG rfl 59 (.tmp 4) rfl gA rfl 59 _ _ hA6 hu rfl hsz ?_)
  obtain ⟨wz, hwz, hbz, hZ, hoff⟩ := six hb6w hO6 (Nat.le_refl _) (.int .i64 fn) (.int .i64 ad) (.int .i64 0) (.int .i64 0) (.slice (some ⟨gr, 0, none⟩) 1 1) (.slice none 0 0)
  obtain ⟨z0, z1, z2, z3, z4, z5⟩ := six_cells hZ
  rw [hwz]
  have HP : FPost w o (.returned (.tuple #[.agg #[.int .i64 fn, .int .i64 ad, .int .i64 0, .int .i64 0, .slice (some ⟨gr, 0, none⟩) 1 1, .slice none 0 0], .bool true])) wz := fpost ho ⟨_, _, _, _, _, _, rfl, sb6.off hoff hO6 (by intro v hv x e; subst e; simp at hv), SlI.nil _ _ _⟩ hbz
  clear hwz
  exact bodyPost_ret (v := .tuple #[.agg #[.int .i64 fn, .int .i64 ad, .int .i64 0, .int .i64 0, .slice (some ⟨gr, 0, none⟩) 1 1, .slice none 0 0], .bool true]) (by simp [results, Tryd.results128, go_sem, z0, z1, z2, z3, z4, z5]) rfl HP
 ·clear HCS
  have had := HAD.out
  have hnn := HNN0.out
  rw [hnn] at hnn3 hnn4
  rw [had] at had0
  have ta : decide (ad < 0) = false := decide_eq_false (by omega)
  have tn : decide (nn < 0) = false := decide_eq_false (by omega)
  rw [had] at ho
  rw [hnn] at tb
  rw [hnn] at tz
  clear had hnn
  obtain ⟨o4_0, o4_1, o4_2, o4_3, o4_4, o4_5⟩ := six_cells hO4
  obtain ⟨a4_0, a4_1, a4_2, a4_3, a4_4, a4_5⟩ := six_cells hA4
  have fo4 := hO4.frozen
  have fa4 := hA4.frozen
  have zO4 := hO4.lt
  have zA4 := hA4.lt
  go_upto_region 9 with fail
  obtain ⟨gr, hgr⟩ : ∃ g, w4.heap.size = g := ⟨_, rfl⟩
  rw [hgr]
  obtain ⟨w5, hw5⟩ : ∃ W, w4.setCell ⟨gA, 4, none⟩ (.slice (some ⟨gr, 0, none⟩) 1 1) = W := ⟨_, rfl⟩
  have hb5w : Below w.heap.size w w5 := by rw [← hw5]; exact hb4w.setCell (p := ⟨gA, 4, none⟩) (Nat.le_of_lt HGL.out) _
  have hO5 : Held w5 w.heap.size 59 #[.int .i64 0, .int .i64 0, .int .i64 0, .int .i64 0, .slice none 0 0, .slice none 0 0] := by rw [← hw5]; exact hO4.far (p := ⟨gA, 4, none⟩) (Nat.ne_of_lt HGL.out) _
  have hA5 : Held w5 gA 59 #[.int .i64 fn, .int .i64 ad, .int .i64 0, .int .i64 0, .slice (some ⟨gr, 0, none⟩) 1 1, .slice none 0 0] := by rw [← hw5]; exact hA4.set 4 _
  have hgr5 : Hid (w5.heap.size = gr) := Lib.hid (by rw [← hw5, ← hgr]; simp [World.setCell])
  rw [hw5]
  clear hw5 hgr
  obtain ⟨w6, hw6⟩ : ∃ W, w5.alloc (.cells #[.bool false] 4) = W := ⟨_, rfl⟩
  have hb6 := zB1 hw6
  have hb6w := hb5w.trans (hb6.mono hb5w.size)
  have hO6 := hO5.below hb6 hO5.lt
  have hA6 := hA5.below hb6 hA5.lt
  have sb6 : SlB w6 w6.heap.size (some ⟨gr, 0, none⟩) 1 1 [false] := by rw [← hw6, ← hgr5.out]; exact SlB.lit
  rw [hw6]
  clear hw6
  obtain ⟨o6_0, o6_1, o6_2, o6_3, o6_4, o6_5⟩ := six_cells hO6
  obtain ⟨a6_0, a6_1, a6_2, a6_3, a6_4, a6_5⟩ := six_cells hA6
  have fo6 := hO6.frozen
  have fa6 := hA6.frozen
  have zO6 := hO6.lt
  have zA6 := hA6.lt
  go_wp2_with ((with_reducible refine at_loadT 59 4 ?_); refine wpList_load_rowG rfl 59 (.tmp 4) rfl gA rfl 59 _ _ hA6 hu rfl hsz ?_)
  obtain ⟨wz, hwz, hbz, hZ, hoff⟩ := six hb6w hO6 (Nat.le_refl _) (.int .i64 fn) (.int .i64 ad) (.int .i64 0) (.int .i64 0) (.slice (some ⟨gr, 0, none⟩) 1 1) (.slice none 0 0)
  obtain ⟨z0, z1, z2, z3, z4, z5⟩ := six_cells hZ
  rw [hwz]
  have HP : FPost w o (.returned (.tuple #[.agg #[.int .i64 fn, .int .i64 ad, .int .i64 0, .int .i64 0, .slice (some ⟨gr, 0, none⟩) 1 1, .slice none 0 0], .bool true])) wz := fpost ho ⟨_, _, _, _, _, _, rfl, sb6.off hoff hO6 (by intro v hv x e; subst e; simp at hv), SlI.nil _ _ _⟩ hbz
  clear hwz
  exact bodyPost_ret (v := .tuple #[.agg #[.int .i64 fn, .int .i64 ad, .int .i64 0, .int .i64 0, .slice (some ⟨gr, 0, none⟩) 1 1, .slice none 0 0], .bool true]) (by simp [results, Tryd.results128, go_sem, z0, z1, z2, z3, z4, z5]) rfl HP
 ·clear HCS
  have had := HAD.out
  have hnn := HNN0.out
  rw [hnn] at hnn3 hnn4
  rw [had] at had0
  have ta : decide (ad < 0) = false := decide_eq_false (by omega)
  have tn : decide (nn < 0) = false := decide_eq_false (by omega)
  rw [had] at ho
  rw [hnn] at tb
  rw [hnn] at tz
  clear had hnn
  obtain ⟨o4_0, o4_1, o4_2, o4_3, o4_4, o4_5⟩ := six_cells hO4
  obtain ⟨a4_0, a4_1, a4_2, a4_3, a4_4, a4_5⟩ := six_cells hA4
  have fo4 := hO4.frozen
  have fa4 := hA4.frozen
  have zO4 := hO4.lt
  have zA4 := hA4.lt
  go_upto_region 9 with fail
  obtain ⟨gr, hgr⟩ : ∃ g, w4.heap.size = g := ⟨_, rfl⟩
  rw [hgr]
  obtain ⟨w5, hw5⟩ : ∃ W, w4.setCell ⟨gA, 4, none⟩ (.slice (some ⟨gr, 0, none⟩) 1 1) = W := ⟨_, rfl⟩
  have hb5w : Below w.heap.size w w5 := by rw [← hw5]; exact hb4w.setCell (p := ⟨gA, 4, none⟩) (Nat.le_of_lt HGL.out) _
  have hO5 : Held w5 w.heap.size 59 #[.int .i64 0, .int .i64 0, .int .i64 0, .int .i64 0, .slice none 0 0, .slice none 0 0] := by rw [← hw5]; exact hO4.far (p := ⟨gA, 4, none⟩) (Nat.ne_of_lt HGL.out) _
  have hA5 : Held w5 gA 59 #[.int .i64 fn, .int .i64 ad, .int .i64 0, .int .i64 0, .slice (some ⟨gr, 0, none⟩) 1 1, .slice none 0 0] := by rw [← hw5]; exact hA4.set 4 _
  have hgr5 : Hid (w5.heap.size = gr) := Lib.hid (by rw [← hw5, ← hgr]; simp [World.setCell])
  rw [hw5]
  clear hw5 hgr
  obtain ⟨w6, hw6⟩ : ∃ W, w5.alloc (.cells #[.bool false] 4) = W := ⟨_, rfl⟩
  have hb6 := zB1 hw6
  have hb6w := hb5w.trans (hb6.mono hb5w.size)
  have hO6 := hO5.below hb6 hO5.lt
  have hA6 := hA5.below hb6 hA5.lt
  have sb6 : SlB w6 w6.heap.size (some ⟨gr, 0, none⟩) 1 1 [false] := by rw [← hw6, ← hgr5.out]; exact SlB.lit
  rw [hw6]
  clear hw6
  obtain ⟨o6_0, o6_1, o6_2, o6_3, o6_4, o6_5⟩ := six_cells hO6
  obtain ⟨a6_0, a6_1, a6_2, a6_3, a6_4, a6_5⟩ := six_cells hA6
  have fo6 := hO6.frozen
  have fa6 := hA6.frozen
  have zO6 := hO6.lt
  have zA6 := hA6.lt
  go_wp2_with ((with_reducible refine at_loadT 59 4 ?_); refine wpList_load_rowG rfl 59 (.tmp 4) rfl gA rfl 59 _ _ hA6 hu rfl hsz ?_)
  obtain ⟨wz, hwz, hbz, hZ, hoff⟩ := six hb6w hO6 (Nat.le_refl _) (.int .i64 fn) (.int .i64 ad) (.int .i64 0) (.int .i64 0) (.slice (some ⟨gr, 0, none⟩) 1 1) (.slice none 0 0)
  obtain ⟨z0, z1, z2, z3, z4, z5⟩ := six_cells hZ
  rw [hwz]
  have HP : FPost w o (.returned (.tuple #[.agg #[.int .i64 fn, .int .i64 ad, .int .i64 0, .int .i64 0, .slice (some ⟨gr, 0, none⟩) 1 1, .slice none 0 0], .bool false])) wz := fpost ho ⟨_, _, _, _, _, _, rfl, sb6.off hoff hO6 (by intro v hv x e; subst e; simp at hv), SlI.nil _ _ _⟩ hbz
  clear hwz
  exact bodyPost_ret (v := .tuple #[.agg #[.int .i64 fn, .int .i64 ad, .int .i64 0, .int .i64 0, .slice (some ⟨gr, 0, none⟩) 1 1, .slice none 0 0], .bool false]) (by simp [results, Tryd.results128, go_sem, z0, z1, z2, z3, z4, z5]) rfl HP
theorem gs_s1 (g off n c : Nat) (b : List Int) (w : World) (hB : SlI w w.heap.size .u8 (some ⟨g, off, none⟩) n c b) (hy8 : Byte8 b) (hn0 : 0 < n) (hn : n ≤ 1000) (fn : Int) (hfn : b.getD 0 0 = fn) (h1 : atP b 1 < 0) (o : Option AskP) (ho : Hid (o = none)) : Calls Tryd.prog 128 #[.slice (some ⟨g, off, none⟩) n c] w (FPost w o) := gsG_A g off n c b w hB hy8 hn0 hn fn hfn o (Or.inl ⟨h1, ho⟩)
theorem gs_s2 (g off n c : Nat) (b : List Int) (w : World) (hB : SlI w w.heap.size .u8 (some ⟨g, off, none⟩) n c b) (hy8 : Byte8 b) (hn0 : 0 < n) (hn : n ≤ 1000) (fn : Int) (hfn : b.getD 0 0 = fn) (h1 : 0 ≤ atP b 1) (h2 : atP b 3 < 0) (o : Option AskP) (ho : Hid (o = none)) : Calls Tryd.prog 128 #[.slice (some ⟨g, off, none⟩) n c] w (FPost w o) := gsG_A g off n c b w hB hy8 hn0 hn fn hfn o (Or.inr (Or.inl ⟨h1, h2, ho⟩))
theorem gs_d (g off n c : Nat) (b : List Int) (w : World) (hB : SlI w w.heap.size .u8 (some ⟨g, off, none⟩) n c b) (hy8 : Byte8 b) (hn0 : 0 < n) (hn : n ≤ 1000) (fn : Int) (hfn : b.getD 0 0 = fn) (hnn3 : 0 ≤ atP b 3) (hnn4 : atP b 3 ≤ 65535) (had0 : 0 ≤ atP b 1) (t5 : (fn == 5) = false) (t6 : (fn == 6) = false) (t15 : (fn == 15) = false) (t16 : (fn == 16) = false) (t23 : (fn == 23) = false) (q : Bool) (h5 : ((n : Int) == 5) = q) (o : Option AskP) (ho : Hid (o = if q = true then some ⟨fn, atP b 1, atP b 3, 0, [], []⟩ else none)) : Calls Tryd.prog 128 #[.slice (some ⟨g, off, none⟩) n c] w (FPost w o) := gsG_A g off n c b w hB hy8 hn0 hn fn hfn o (Or.inr (Or.inr (Or.inl ⟨hnn3, hnn4, had0, t5, t6, t15, t16, t23, q, h5, ho⟩)))
theorem gs_6 (g off n c : Nat) (b : List Int) (w : World) (hB : SlI w w.heap.size .u8 (some ⟨g, off, none⟩) n c b) (hy8 : Byte8 b) (hn0 : 0 < n) (hn : n ≤ 1000) (fn : Int) (hfn : b.getD 0 0 = fn) (hnn3 : 0 ≤ atP b 3) (hnn4 : atP b 3 ≤ 65535) (had0 : 0 ≤ atP b 1) (t5 : (fn == 5) = false) (t6 : (fn == 6) = true) (t15 : (fn == 15) = false) (t16 : (fn == 16) = false) (t23 : (fn == 23) = false) (q : Bool) (h5 : ((n : Int) == 5) = q) (o : Option AskP) (ho : Hid (o = if q = true then some ⟨fn, atP b 1, 0, 0, [], [atP b 3]⟩ else none)) : Calls Tryd.prog 128 #[.slice (some ⟨g, off, none⟩) n c] w (FPost w o) := gsG_A g off n c b w hB hy8 hn0 hn fn hfn o (Or.inr (Or.inr (Or.inr (Or.inl ⟨hnn3, hnn4, had0, t5, t6, t15, t16, t23, q, h5, ho⟩))))
theorem gs_5n (g off n c : Nat) (b : List Int) (w : World) (hB : SlI w w.heap.size .u8 (some ⟨g, off, none⟩) n c b) (hy8 : Byte8 b) (hn0 : 0 < n) (hn : n ≤ 1000) (fn : Int) (hfn : b.getD 0 0 = fn) (hnn3 : 0 ≤ atP b 3) (hnn4 : atP b 3 ≤ 65535) (had0 : 0 ≤ atP b 1) (t5 : (fn == 5) = true) (t6 : (fn == 6) = false) (t15 : (fn == 15) = false) (t16 : (fn == 16) = false) (t23 : (fn == 23) = false) (h5 : ((n : Int) == 5) = false) (bb : Bool) (tb : (atP b 3 == 65280) = bb) (o : Option AskP) (ho : Hid (o = if false = true then some ⟨fn, atP b 1, 0, 0, [bb], []⟩ else none)) : Calls Tryd.prog 128 #[.slice (some ⟨g, off, none⟩) n c] w (FPost w o) := gsG_A g off n c b w hB hy8 hn0 hn fn hfn o (Or.inr (Or.inr (Or.inr (Or.inr (Or.inl ⟨hnn3, hnn4, had0, t5, t6, t15, t16, t23, h5, bb, tb, ho⟩)))))
theorem gs_5a (g off n c : Nat) (b : List Int) (w : World) (hB : SlI w w.heap.size .u8 (some ⟨g, off, none⟩) n c b) (hy8 : Byte8 b) (hn0 : 0 < n) (hn : n ≤ 1000) (fn : Int) (hfn : b.getD 0 0 = fn) (hnn3 : 0 ≤ atP b 3) (hnn4 : atP b 3 ≤ 65535) (had0 : 0 ≤ atP b 1) (t5 : (fn == 5) = true) (t6 : (fn == 6) = false) (t15 : (fn == 15) = false) (t16 : (fn == 16) = false) (t23 : (fn == 23) = false) (h5 : ((n : Int) == 5) = true) (tb : (atP b 3 == 65280) = true) (o : Option AskP) (ho : Hid (o = if true = true then some ⟨fn, atP b 1, 0, 0, [true], []⟩ else none)) : Calls Tryd.prog 128 #[.slice (some ⟨g, off, none⟩) n c] w (FPost w o) := gsG_A g off n c b w hB hy8 hn0 hn fn hfn o (Or.inr (Or.inr (Or.inr (Or.inr (Or.inr (Or.inl ⟨hnn3, hnn4, had0, t5, t6, t15, t16, t23, h5, tb, ho⟩))))))
theorem gs_5b (g off n c : Nat) (b : List Int) (w : World) (hB : SlI w w.heap.size .u8 (some ⟨g, off, none⟩) n c b) (hy8 : Byte8 b) (hn0 : 0 < n) (hn : n ≤ 1000) (fn : Int) (hfn : b.getD 0 0 = fn) (hnn3 : 0 ≤ atP b 3) (hnn4 : atP b 3 ≤ 65535) (had0 : 0 ≤ atP b 1) (t5 : (fn == 5) = true) (t6 : (fn == 6) = false) (t15 : (fn == 15) = false) (t16 : (fn == 16) = false) (t23 : (fn == 23) = false) (h5 : ((n : Int) == 5) = true) (tb : (atP b 3 == 65280) = false) (tz : (atP b 3 == 0) = true) (o : Option AskP) (ho : Hid (o = if true = true then some ⟨fn, atP b 1, 0, 0, [false], []⟩ else none)) : Calls Tryd.prog 128 #[.slice (some ⟨g, off, none⟩) n c] w (FPost w o) := gsG_A g off n c b w hB hy8 hn0 hn fn hfn o (Or.inr (Or.inr (Or.inr (Or.inr (Or.inr (Or.inr (Or.inl ⟨hnn3, hnn4, had0, t5, t6, t15, t16, t23, h5, tb, tz, ho⟩)))))))
theorem gs_5c (g off n c : Nat) (b : List Int) (w : World) (hB : SlI w w.heap.size .u8 (some ⟨g, off, none⟩) n c b) (hy8 : Byte8 b) (hn0 : 0 < n) (hn : n ≤ 1000) (fn : Int) (hfn : b.getD 0 0 = fn) (hnn3 : 0 ≤ atP b 3) (hnn4 : atP b 3 ≤ 65535) (had0 : 0 ≤ atP b 1) (t5 : (fn == 5) = true) (t6 : (fn == 6) = false) (t15 : (fn == 15) = false) (t16 : (fn == 16) = false) (t23 : (fn == 23) = false) (h5 : ((n : Int) == 5) = true) (tb : (atP b 3 == 65280) = false) (tz : (atP b 3 == 0) = false) (o : Option AskP) (ho : Hid (o = if false = true then some ⟨fn, atP b 1, 0, 0, [false], []⟩ else none)) : Calls Tryd.prog 128 #[.slice (some ⟨g, off, none⟩) n c] w (FPost w o) := gsG_A g off n c b w hB hy8 hn0 hn fn hfn o (Or.inr (Or.inr (Or.inr (Or.inr (Or.inr (Or.inr (Or.inr ⟨hnn3, hnn4, had0, t5, t6, t15, t16, t23, h5, tb, tz, ho⟩)))))))
end Go.Proofs.YtcipleanckeoaaaDoor
