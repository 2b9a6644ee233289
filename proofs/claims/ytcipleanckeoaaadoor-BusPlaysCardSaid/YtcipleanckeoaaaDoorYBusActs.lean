/- Slices of acts; whether one of them may not be (Play$1, IndexFunc, ContainsFunc). -/
import Derived.Test.YtcipleanckeoaaaDoorYTk
import Derived.Test.YtcipleanckeoaaaDoorYBusOwn
import Derived.Test.YtcipleanckeoaaaDoorYBusPlayP
set_option maxRecDepth 100000
set_option maxHeartbeats 40000000
namespace Go.Proofs.YtcipleanckeoaaaDoor
open Go.RowKit
attribute [local go_sem] Oper.semAt_some
set_option linter.unusedVariables false
set_option linter.unusedSimpArgs false
def ActsI (w : World) (A : Option Addr) (n c : Nat) (l : List ActP) : Prop :=
 l.length = n ∧ n ≤ c ∧ c ≤ maxLen ∧ (A = none → n = 0 ∧ c = 0) ∧ (0 < n → ∃ g off, A = some ⟨g, off, none⟩ ∧ g < w.heap.size ∧ ∀ (i : Nat) (a : ActP), l[i]? = some a →
  ∃ Ar nr cr D nd cd, w.rangeAt g (off + i * 9) (a.cells Ar nr cr D nd cd).toList ∧ SlI w w.heap.size .u16 Ar nr cr a.regs ∧ SlI w w.heap.size .u8 D nd cd a.data)
theorem ActsI.up {w w' : World} {A : Option Addr} {n c : Nat} {l : List ActP} (h : ActsI w A n c l) (hb : Below w.heap.size w w') : ActsI w' A n c l := by
 obtain ⟨h1, h2, h3, h4, h5⟩ := h
 refine ⟨h1, h2, h3, h4, fun hn => ?_⟩
 obtain ⟨g, off, e, hg, hc⟩ := h5 hn
 refine ⟨g, off, e, Nat.lt_of_lt_of_le hg hb.size, fun i a ha => ?_⟩
 obtain ⟨Ar, nr, cr, D, nd, cd, k1, k2, k3⟩ := hc i a ha
 exact ⟨Ar, nr, cr, D, nd, cd, fun j v hv => (hb.cell (p := ⟨g, off + i * 9 + j, none⟩) hg).trans (k1 j v hv), k2.up hb, k3.up hb⟩
theorem ActsI.nil (w : World) : ActsI w none 0 0 [] := ⟨rfl, Nat.le_refl _, by simp [maxLen], fun _ => ⟨rfl, rfl⟩, fun h => absurd h (by omega)⟩
def ActsOk (l : List ActP) : Prop := ∀ a ∈ l, a.ok
theorem play1_any (v : Value) (a : ActP) (w : World) (hN : NamesT w) (hA : ActAt w v a) (hok : a.ok) :
  Calls Tryd.prog 46 #[v] w fun e w' => e = .returned (.bool (!mayA a)) ∧ Below w.heap.size w w' := by
 obtain ⟨Ar, nr, cr, D, nd, cd, rfl, h1, h2⟩ := hA
 obtain ⟨w1, hw1⟩ : ∃ W, w.alloc (.cells (a.cells Ar nr cr D nd cd) 29) = W := ⟨_, rfl⟩
 have b1 := zB1 hw1
 have hX1 := zH1 hw1
 have HC := Lib.hid (bcheck_any (.agg (a.cells Ar nr cr D nd cd)) a w1 (hN.up b1) ⟨Ar, nr, cr, D, nd, cd, rfl, h1.up b1, h2.up b1⟩ hok)
 have HB := Lib.hid b1
 obtain ⟨m, hm⟩ : ∃ m, mayA a = m := ⟨_, rfl⟩
 rw [hm] at HC ⊢
 clear hm h1 h2 hok hN b1
 unfold ActP.cells at *
 have x0 : w1.cell? ⟨w.heap.size, 0, none⟩ = some (.int .i64 a.kind) := hX1.cell 0
 have x1 : w1.cell? ⟨w.heap.size, 1, none⟩ = some (.int .i64 a.wait) := hX1.cell 1
 have x2 : w1.cell? ⟨w.heap.size, 2, none⟩ = some (.int .i64 a.gap) := hX1.cell 2
 have x3 : w1.cell? ⟨w.heap.size, 3, none⟩ = some (.slice Ar nr cr) := hX1.cell 3
 have x4 : w1.cell? ⟨w.heap.size, 4, none⟩ = some (.int .i64 a.code) := hX1.cell 4
 have x5 : w1.cell? ⟨w.heap.size, 5, none⟩ = some (.int .i64 a.n) := hX1.cell 5
 have x6 : w1.cell? ⟨w.heap.size, 6, none⟩ = some (.int .i64 a.unit) := hX1.cell 6
 have x7 : w1.cell? ⟨w.heap.size, 7, none⟩ = some (.int .u8 a.wth) := hX1.cell 7
 have x8 : w1.cell? ⟨w.heap.size, 8, none⟩ = some (.slice D nd cd) := hX1.cell 8
 clear hX1
 cases m
 ·rw [if_neg (by simp)] at HC
  go_in
  go_wp2_with fail
  refine HC.out.mono ?_
  rintro e w2 ⟨rfl, b2⟩
  have HB2 := Lib.hid (HB.out.trans (b2.mono HB.out.size))
  clear b2
  go_wp2_with fail
  go_ret
  exact ⟨rfl, HB2.out⟩
 ·rw [if_pos rfl] at HC
  go_in
  go_wp2_with fail
  refine HC.out.mono ?_
  rintro e w2 ⟨rfl, b2⟩
  have HB2 := Lib.hid (HB.out.trans (b2.mono HB.out.size))
  clear b2
  go_wp2_with fail
  go_ret
  exact ⟨rfl, HB2.out⟩
theorem all_take (l : List ActP) (j : Nat) (a : ActP) (h : l[j]? = some a) (p : ActP → Bool) : (l.take (j + 1)).all p = ((l.take j).all p && p a) := by
 rw [List.take_add_one, h, List.all_append]; simp
theorem all_no (l : List ActP) (j : Nat) (p : ActP → Bool) (h : (l.take j).all p = false) : l.all p = false := by
 rw [← List.take_append_drop j l, List.all_append, h, Bool.false_and]
theorem act_cells {w : World} {g o : Nat} {a : ActP} {Ar : Option Addr} {nr cr : Nat} {D : Option Addr} {nd cd : Nat} (h : w.rangeAt g o (a.cells Ar nr cr D nd cd).toList) :
  w.cell? ⟨g, o, none⟩ = some (.int .i64 a.kind) ∧ w.cell? ⟨g, o + 1, none⟩ = some (.int .i64 a.wait) ∧ w.cell? ⟨g, o + 2, none⟩ = some (.int .i64 a.gap) ∧ w.cell? ⟨g, o + 3, none⟩ = some (.slice Ar nr cr) ∧ w.cell? ⟨g, o + 4, none⟩ = some (.int .i64 a.code) ∧
  w.cell? ⟨g, o + 5, none⟩ = some (.int .i64 a.n) ∧ w.cell? ⟨g, o + 6, none⟩ = some (.int .i64 a.unit) ∧ w.cell? ⟨g, o + 7, none⟩ = some (.int .u8 a.wth) ∧ w.cell? ⟨g, o + 8, none⟩ = some (.slice D nd cd) :=
 ⟨h 0 _ rfl, h 1 _ rfl, h 2 _ rfl, h 3 _ rfl, h 4 _ rfl, h 5 _ rfl, h 6 _ rfl, h 7 _ rfl, h 8 _ rfl⟩
theorem idxa_any (A : Option Addr) (n c : Nat) (l : List ActP) (w : World) (hN : NamesT w) (hA : ActsI w A n c l) (hok : ActsOk l) (hn : n ≤ 100000) :
  Calls Tryd.prog 89 #[.slice A n c, .func (.func 46) #[] #[]] w fun e w' => ∃ r : Int, e = .returned (.int .i64 r) ∧ ((l.all mayA = true ∧ r = -1) ∨ (l.all mayA = false ∧ 0 ≤ r)) ∧ Below w.heap.size w w' := by
 have hl := hA.1
 have HA := Lib.hid (fun (V : World) (h : Below w.heap.size w V) => hA.up h)
 have HP := Lib.hid (fun (v : Value) (a : ActP) (V : World) (h : Below w.heap.size w V) (h1 : ActAt V v a) (h2 : a ∈ l) => play1_any v a V (hN.up h) h1 (hok a h2))
 clear hA hN hok
 go_in
 go_wp2
 go_loopw [8] (fun s8 wx => ∃ (j : Nat), j ≤ n ∧ s8 = .int .i64 j ∧ (l.take j).all mayA = true ∧ Below w.heap.size w wx) (fun s8 _ => n - (intOf s8).toNat)
 case atStart => exact ⟨0, Nat.zero_le _, rfl, rfl, Below.refl _ _⟩
 case round =>
  obtain ⟨j, hj, rfl, hno, hbr⟩ := hrel
  have HNO := Lib.hid hno
  have HBR := Lib.hid hbr
  clear hno
  by_cases hlt : j < n
  ·obtain ⟨a, ha⟩ : ∃ a, l[j]? = some a := ⟨_, List.getElem?_eq_getElem (by omega)⟩
   obtain ⟨g, off, rfl, hg, hc⟩ := (HA.out wr hbr).2.2.2.2 (by omega)
   obtain ⟨Ar, nr, cr, D, nd, cd, k1, k2, k3⟩ := hc j a ha
   obtain ⟨c0, c1, c2, c3, c4, c5, c6, c7, c8⟩ := act_cells k1
   have HC := Lib.hid (HP.out _ a wr hbr ⟨Ar, nr, cr, D, nd, cd, rfl, k2, k3⟩ (List.mem_of_getElem? ha))
   unfold ActP.cells at HC
   have HJ := Lib.hid (all_take l j a ha mayA)
   have hltI : decide ((j : Int) < (n : Int)) = true := decide_eq_true (by omega)
   have hltN : decide (j < n) = true := decide_eq_true (by omega)
   obtain ⟨m, hm⟩ : ∃ m, mayA a = m := ⟨_, rfl⟩
   rw [hm] at HC HJ
   clear hc ha k1 k2 k3 hm hbr
   cases m with
   | false =>
    rw [Bool.not_false] at HC
    go_wp2_with fail
    refine HC.out.mono ?_
    rintro e w2 ⟨rfl, hb2⟩
    have HB2 := Lib.hid (HBR.out.trans (hb2.mono HBR.out.size))
    clear hb2
    go_wp2_with fail
    go_ret
    exact ⟨j, rfl, Or.inr ⟨all_no l (j + 1) mayA (by rw [HJ.out, Bool.and_false]), by omega⟩, HB2.out⟩
   | true =>
    rw [Bool.not_true] at HC
    go_wp2_with fail
    refine HC.out.mono ?_
    rintro e w2 ⟨rfl, hb2⟩
    have HB2 := Lib.hid (HBR.out.trans (hb2.mono HBR.out.size))
    clear hb2
    go_wp2_with fail
    go_roundw
    case rel => exact ⟨j + 1, by omega, by go_num, by rw [HJ.out, HNO.out]; rfl, HB2.out⟩
    case measure => simp [intOf]; omega
  ·obtain rfl : j = n := by omega
   have hltI : decide ((j : Int) < (j : Int)) = false := decide_eq_false (by omega)
   clear hbr
   go_wp2_with fail
   go_ret
   refine ⟨-1, rfl, Or.inl ⟨?_, rfl⟩, HBR.out⟩
   have := HNO.out
   rwa [List.take_of_length_le (by omega)] at this
theorem conta_any (A : Option Addr) (n c : Nat) (l : List ActP) (w : World) (hN : NamesT w) (hA : ActsI w A n c l) (hok : ActsOk l) (hn : n ≤ 100000) :
  Calls Tryd.prog 45 #[.slice A n c, .func (.func 46) #[] #[]] w fun e w' => e = .returned (.bool (!l.all mayA)) ∧ Below w.heap.size w w' := by
 have HI := Lib.hid (idxa_any A n c l w hN hA hok hn)
 obtain ⟨m, hm⟩ : ∃ m, l.all mayA = m := ⟨_, rfl⟩
 rw [hm] at HI ⊢
 clear hA hN hok hm
 go_in
 go_wp2_with fail
 refine HI.out.mono ?_
 rintro e w2 ⟨r, rfl, ⟨rfl, rfl⟩ | ⟨rfl, h2⟩, hb⟩
 ·go_wp2_with fail
  go_ret
  exact ⟨rfl, hb⟩
 ·have d : decide (r ≥ 0) = true := decide_eq_true h2
  have d2 : decide (0 ≤ r) = true := decide_eq_true h2
  go_wp2_with fail
  go_ret
  exact ⟨retb (by first | rfl | simp [h2]), hb⟩
end Go.Proofs.YtcipleanckeoaaaDoor
