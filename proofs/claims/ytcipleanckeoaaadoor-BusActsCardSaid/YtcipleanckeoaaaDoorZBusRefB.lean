/- The document's Seal; a frame's bytes, the program's and the document's. -/
import Derived.Laws.BitsAllLaws
import Derived.Test.YtcipleanckeoaaaDoorZBusRtu
namespace Go.Proofs.YtcipleanckeoaaaDoor
open Go.RowKit Go.Shelf
attribute [local go_sem] Oper.semAt_some
set_option linter.unusedVariables false
set_option linter.unusedSimpArgs false
set_option maxRecDepth 100000
def rtuB (unit : Int) (zs : List Int) : Option (List Int) := if (0 ≤ unit ∧ unit ≤ 247) ∧ 1 ≤ zs.length ∧ zs.length ≤ 253 then some (rtuL unit zs) else none
def RbPost (w : World) (o : Option (List Int)) (e : Ending) (w' : World) : Prop := ∃ A n c, e = .returned (.tuple #[.slice A n c, .int .i64 (if o.isSome then 0 else 200)]) ∧ SlI w' w'.heap.size .u8 A n c (o.getD []) ∧ Below w.heap.size w w' ∧ (o = none → A = none)
theorem rb_none {w w' : World} {o : Option (List Int)} (h : o = none) (hb : Below w.heap.size w w') : RbPost w o (.returned (.tuple #[.slice none 0 0, .int .i64 200])) w' := by
 subst h
 exact ⟨none, 0, 0, rfl, SlI.nil _ _ _, hb, fun _ => rfl⟩
theorem rb_some {w w' : World} {o : Option (List Int)} {xs : List Int} {A : Option Addr} {n c : Nat} (h : o = some xs) (hs : SlI w' w'.heap.size .u8 A n c xs) (hb : Below w.heap.size w w') : RbPost w o (.returned (.tuple #[.slice A n c, .int .i64 0])) w' := by
 subst h
 exact ⟨A, n, c, rfl, hs, hb, fun h => by cases h⟩
set_option maxHeartbeats 2000000 in
theorem rtuo_any (unit : Int) (hu : 0 ≤ unit ∧ unit ≤ 247) (A : Option Addr) (n c : Nat) (zs : List Int) (w : World) (hS : SlI w w.heap.size .u8 A n c zs) (hn : 1 ≤ n ∧ n ≤ 253) (hbs : ∀ x ∈ zs, 0 ≤ x ∧ x < 256) :
  Calls Tryd.prog 28 #[.agg #[.int .i64 unit, .slice A n c]] w fun e w' => ∃ v, e = .returned (.tuple #[v, .int .i64 0]) ∧ w'.ownsRow w.heap.size 5 1 v (n + 3) ((rtuL unit zs).map (Value.int .u8)) ∧ Below w.heap.size w w' := by
 obtain ⟨i0, hi, hz0, hz1, hz2⟩ := info_parts infoB
 obtain ⟨hu0, hu1⟩ := hu
 obtain ⟨hn0, hn1⟩ := hn
 have hw : unit % 256 = unit := by omega
 obtain ⟨w1, hw1⟩ : ∃ Y : World, (w.alloc (.cells #[.int .i64 unit, .slice A n c] 64)).alloc (.cells #[.int .u8 unit] 5) = Y := ⟨_, rfl⟩
 have hb1 : Below w.heap.size w w1 := by rw [← hw1]; exact ((Below.refl _ w).alloc (Nat.le_refl _) _).alloc (by simp) _
 have o1 : w1.ownsRow w.heap.size 5 1 (.slice (some ⟨w.heap.size + 1, 0, none⟩) 1 1) 1 ([unit].map (Value.int .u8)) := by
  rw [← hw1]
  have h : ((w.alloc (.cells #[.int .i64 unit, .slice A n c] 64)).alloc (.cells #[.int .u8 unit] 5)).ownsRow w.heap.size 5 1 (.slice (some ⟨(w.alloc (.cells #[.int .i64 unit, .slice A n c] 64)).heap.size, 0, none⟩) 1 1) 1 ([unit].map (Value.int .u8)) := World.ownsRow_lit _ #[.int .u8 unit] 1 (by simp) (by unfold maxLen; omega) rfl
  simpa using h
 have x1 : Held w1 w.heap.size 64 #[.int .i64 unit, .slice A n c] := by rw [← hw1]; exact (Held.new w _ _).alloc _
 have s1 := hS.up hb1
 have hz := hb1.size
 have HA1 := Lib.hid (show 1 + n ≤ maxLen ∧ (1 + n) * 1 ≤ 140737488355328 by unfold maxLen; omega)
 have hI1 : ((n : Int) < 1) = False := by simp; omega
 have hI2 : (253 < (n : Int)) = False := by simp; omega
 have HC := Lib.hid (fun (V : World) (A' : Option Addr) (c' : Nat) (h : SlI V V.heap.size .u8 A' (1 + n) c' (unit :: zs)) => seal_any A' (1 + n) c' (unit :: zs) V h (by omega) (fun x hx => by
  rcases List.mem_cons.1 hx with rfl | hx
  ·omega
  ·exact hbs x hx))
 have HL := Lib.hid (rtuL_len unit zs)
 have c0 := x1.cell 0
 have c1 := x1.cell 1
 simp only [List.getElem?_toArray, List.getElem?_cons_zero, List.getElem?_cons_succ] at c0 c1
 clear hS
 go_in
 go_wp2_with ((with_reducible refine at_append ?_); refine wpList_append_sl w1 rfl (.tmp 27) (.tmp 29) 22 rfl w.heap.size 5 i0 (.int .u8 0) 1 Tryd.underlying22 hi hz0 hz1 hz2 rfl _ 1 _ rfl o1 w1.heap.size .u8 A n c zs rfl s1 HA1.out.1 HA1.out.2 hz ?_; intro v2 w2 hO2 hg2 _; have hb2 := hb1.grown hg2 hz (fun B hB => (o1.lt B hB).1); clear hg2)
 obtain ⟨A2, c2, rfl, hs2⟩ := SlI.of_own (xs := unit :: zs) hO2
 refine (HC.out _ _ _ hs2).mono ?_
 rintro e w3 ⟨v3, rfl, o3, hb3⟩
 have hb4 := hb2.trans (hb3.mono hb2.size)
 rw [show 1 + n + 2 = n + 3 by omega] at o3
 have O3 := Lib.hid (own_base o3 hb2.size)
 obtain ⟨A3, c3, rfl, _⟩ := SlI.of_own o3
 clear o3 hb3 hs2 hO2 c0 c1 x1
 go_wp2_with fail
 go_ret2
 exact ⟨_, rfl, O3.out, hb4⟩
def RboPost (w : World) (o : Option (List Int)) (e : Ending) (w' : World) : Prop := ∃ v n, e = .returned (.tuple #[v, .int .i64 (if o.isSome then 0 else 200)]) ∧ w'.ownsRow w.heap.size 5 1 v n ((o.getD []).map (Value.int .u8)) ∧ Below w.heap.size w w'
set_option maxHeartbeats 2000000 in
theorem rtuf_any (unit : Int) (A : Option Addr) (n c : Nat) (zs : List Int) (w : World) (hS : SlI w w.heap.size .u8 A n c zs) (h8 : Byte8 zs) :
  Calls Tryd.prog 28 #[.agg #[.int .i64 unit, .slice A n c]] w (RbPost w (rtuB unit zs)) := by
 have hl := hS.1
 by_cases hv : (0 ≤ unit ∧ unit ≤ 247) ∧ 1 ≤ n ∧ n ≤ 253
 ·refine (rtu_any unit hv.1 A n c zs w hS hv.2 h8).mono ?_
  rintro e w' ⟨A', c', rfl, s', b', _⟩
  exact rb_some (by unfold rtuB; rw [if_pos (by rw [hl]; exact hv)]) s' b'
 ·have hno : rtuB unit zs = none := by unfold rtuB; rw [if_neg (by rw [hl]; exact hv)]
  obtain ⟨w1, hw1⟩ : ∃ Y : World, w.alloc (.cells #[.int .i64 unit, .slice A n c] 64) = Y := ⟨_, rfl⟩
  have hb1 : Below w.heap.size w w1 := by rw [← hw1]; exact (Below.refl _ w).alloc (Nat.le_refl _) _
  have x1 : Held w1 w.heap.size 64 #[.int .i64 unit, .slice A n c] := by rw [← hw1]; exact Held.new w _ _
  have c0 : w1.cell? ⟨w.heap.size, 0, none⟩ = some (.int .i64 unit) := x1.cell 0
  have c1 : w1.cell? ⟨w.heap.size, 1, none⟩ = some (.slice A n c) := x1.cell 1
  have hlt := x1.lt
  have HNO := Lib.hid hno
  clear hS hno x1
  by_cases u0 : unit < 0
  ·have d0 : decide (unit < 0) = true := decide_eq_true u0
   clear hv
   go_in
   go_wp2_with fail
   go_ret2
   exact rb_none HNO.out hb1
  have d0 : decide (unit < 0) = false := decide_eq_false u0
  by_cases u1 : 247 < unit
  ·have d1 : decide (247 < unit) = true := decide_eq_true u1
   clear hv
   go_in
   go_wp2_with fail
   go_ret2
   exact rb_none HNO.out hb1
  have d1 : decide (247 < unit) = false := decide_eq_false u1
  by_cases u2 : n < 1
  ·have d2 : decide ((n : Int) < 1) = true := decide_eq_true (by omega)
   clear hv
   go_in
   go_wp2_with fail
   go_ret2
   exact rb_none HNO.out hb1
  have d2 : decide ((n : Int) < 1) = false := decide_eq_false (by omega)
  have d3 : decide ((253 : Int) < (n : Int)) = true := decide_eq_true (by omega)
  clear hv
  go_in
  go_wp2_with fail
  go_ret2
  exact rb_none HNO.out hb1
theorem rtufo_any (unit : Int) (A : Option Addr) (n c : Nat) (zs : List Int) (w : World) (hS : SlI w w.heap.size .u8 A n c zs) (h8 : Byte8 zs) :
  Calls Tryd.prog 28 #[.agg #[.int .i64 unit, .slice A n c]] w (RboPost w (rtuB unit zs)) := by
 have hl := hS.1
 by_cases hv : (0 ≤ unit ∧ unit ≤ 247) ∧ 1 ≤ n ∧ n ≤ 253
 ·refine (rtuo_any unit hv.1 A n c zs w hS hv.2 h8).mono ?_
  rintro e w' ⟨v, rfl, o', b'⟩
  have e1 : rtuB unit zs = some (rtuL unit zs) := by unfold rtuB; rw [if_pos (by rw [hl]; exact hv)]
  rw [e1]
  exact ⟨v, n + 3, rfl, o', b'⟩
 ·have hno : rtuB unit zs = none := by unfold rtuB; rw [if_neg (by rw [hl]; exact hv)]
  refine (rtuf_any unit A n c zs w hS h8).mono ?_
  rintro e w' ⟨A', n', c', rfl, s', b', hn⟩
  obtain rfl := hn hno
  obtain ⟨rfl, rfl⟩ := s'.2.2.2.1 rfl
  rw [hno]
  exact ⟨_, 0, rfl, World.ownsRow_nil _ _ _ _, b'⟩
end Go.Proofs.YtcipleanckeoaaaDoor
