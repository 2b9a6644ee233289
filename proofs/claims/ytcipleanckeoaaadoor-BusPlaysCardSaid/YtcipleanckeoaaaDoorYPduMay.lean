/- kilowattref19.known, counts, within, limits, May. -/
import Derived.Test.YtcipleanckeoaaaDoorYTk
import Derived.Test.YtcipleanckeoaaaDoorYPduCheck
import Derived.Test.YtcipleanckeoaaaDoorYCommon
set_option maxRecDepth 100000
set_option maxHeartbeats 40000000
namespace Go.Proofs.YtcipleanckeoaaaDoor
open Go.RowKit
set_option linter.unusedVariables false
theorem known_iff (fn : Int) : (limP fn).isSome = decide ((1 ≤ fn ∧ fn ≤ 6) ∨ fn = 15 ∨ fn = 16 ∨ fn = 23) := by
 unfold limP
 repeat' split
 all_goals simp only [Option.isSome_some, Option.isSome_none]
 all_goals symm
 all_goals simp only [decide_eq_true_eq, decide_eq_false_iff_not]
 all_goals omega
theorem known_any (fn : Int) (w : World) : Calls Tryd.prog 127 #[.int .i64 fn] w fun e w' => e = .returned (.bool (limP fn).isSome) ∧ w = w' := by
 obtain ⟨kb, hkb⟩ : ∃ b, (limP fn).isSome = b := ⟨_, rfl⟩
 have HKB := Lib.hid (hkb.symm.trans (known_iff fn))
 rw [hkb]
 clear hkb
 by_cases h1 : 1 ≤ fn ∧ fn ≤ 6
 ·obtain ⟨h1, h2⟩ := h1
  go_in
  go_wp2
  go_ret
  exact ⟨retb (HKB.out.trans (decide_eq_true (by omega))).symm, rfl⟩
 have hh : (fn < 1) ∨ (6 < fn) := by omega
 clear h1
 by_cases h3 : fn = 15
 ·subst h3
  go_in
  go_wp2
  go_ret
  exact ⟨retb (HKB.out.trans (by decide)).symm, rfl⟩
 by_cases h4 : fn = 16
 ·subst h4
  go_in
  go_wp2
  go_ret
  exact ⟨retb (HKB.out.trans (by decide)).symm, rfl⟩
 by_cases h5 : fn = 23
 ·subst h5
  go_in
  go_wp2
  go_ret
  exact ⟨retb (HKB.out.trans (by decide)).symm, rfl⟩
 have e3 : (fn == 15) = false := by simpa using h3
 have e4 : (fn == 16) = false := by simpa using h4
 have e5 : (fn == 23) = false := by simpa using h5
 rcases hh with hh | hh
 ·have hd : kb = false := HKB.out.trans (decide_eq_false (by omega))
  subst hd
  clear h3 h4 h5
  go_in
  go_wp2
  go_ret
  exact ⟨rfl, rfl⟩
 ·have hd : kb = false := HKB.out.trans (decide_eq_false (by omega))
  subst hd
  clear h3 h4 h5
  have hx : 1 ≤ fn := by omega
  have hy : decide (fn ≤ 6) = false := decide_eq_false (by omega)
  go_in
  go_wp2
  go_ret
  exact ⟨rfl, rfl⟩
theorem counts_any (fn r b g : Int) (hl : limP fn = some (r, b, g)) (w : World) : Calls Tryd.prog 153 #[.int .i64 fn] w fun e w' => e = .returned (.tuple #[.int .i64 r, .int .i64 b, .int .i64 g]) ∧ w = w' := by
 have hf := (lim_range hl).2.2.2
 rcases hf with rfl | rfl | rfl | rfl | rfl | rfl | rfl | rfl | rfl
 all_goals
  injection hl with hl
  injection hl with h1 h2
  injection h2 with h2 h3
  subst h1 h2 h3
  go_in
  go_wp2
  go_ret3
  exact ⟨rfl, rfl⟩
theorem within_any (n m : Int) (hm : 0 ≤ m) (w : World) : Calls Tryd.prog 154 #[.int .i64 n, .int .i64 m] w fun e w' => e = .returned (.bool (fitP n m)) ∧ w = w' := by
 by_cases h0 : m = 0
 ·subst h0
  by_cases h1 : n = 0
  ·subst h1
   go_in
   go_wp2
   go_ret
   exact ⟨rfl, rfl⟩
  ·have e1 : (n == 0) = false := by simpa using h1
   have hf : fitP n 0 = false := by
    unfold fitP
    rw [← Bool.decide_and]
    exact decide_eq_false (by omega)
   rw [hf]
   clear h1 hf
   go_in
   go_wp2
   go_ret
   exact ⟨rfl, rfl⟩
 ·have e0 : (m == 0) = false := by simpa using h0
  obtain ⟨f, hf⟩ : ∃ f, fitP n m = f := ⟨_, rfl⟩
  have hg : f = decide (1 ≤ n ∧ n ≤ m) := by
   rw [← hf]
   unfold fitP
   rw [← Bool.decide_and]
   congr 1
   apply propext
   omega
  rw [hf]
  have HG := Lib.hid hg
  clear hf hg h0
  by_cases h1 : 1 ≤ n
  ·by_cases h2 : n ≤ m
   ·go_in
    go_wp2
    go_ret
    exact ⟨retb (HG.out.trans (decide_eq_true (by omega))).symm, rfl⟩
   ·go_in
    go_wp2
    go_ret
    exact ⟨retb (HG.out.trans (decide_eq_false (by omega))).symm, rfl⟩
  ·go_in
   go_wp2
   go_ret
   exact ⟨retb (HG.out.trans (decide_eq_false (by omega))).symm, rfl⟩
theorem limits_any (fn addr count to : Int) (A : Option Addr) (nb cb : Nat) (R : Option Addr) (nr cr : Nat) (w : World) (r b g : Int) (hl : limP fn = some (r, b, g)) : Calls Tryd.prog 129 #[.agg #[.int .i64 fn, .int .i64 addr, .int .i64 count, .int .i64 to, .slice A nb cb, .slice R nr cr]] w fun e w' => e = .returned (.bool (fitP count r && fitP (nb : Int) b && fitP (nr : Int) g)) ∧ Below w.heap.size w w' := by
 obtain ⟨w1, hw1⟩ : ∃ w1, w.alloc (.cells #[.int .i64 fn, .int .i64 addr, .int .i64 count, .int .i64 to, .slice A nb cb, .slice R nr cr] 59) = w1 := ⟨_, rfl⟩
 have hb1 := zB1 hw1
 have hz1 : w1.heap.size = w.heap.size + 1 := by rw [← hw1]; simp
 have hP1 := zH1 hw1
 obtain ⟨hc0, hc1, hc2, hc3, hc4, hc5⟩ := zC6 hP1
 obtain ⟨⟨r0, _⟩, ⟨b0, _⟩, ⟨g0, _⟩, _⟩ := lim_range hl
 have HC := Lib.hid (counts_any fn r b g hl w1)
 have HA := Lib.hid (within_any count r r0 w1)
 have HB := Lib.hid (within_any (nb : Int) b b0 w1)
 have HG := Lib.hid (within_any (nr : Int) g g0 w1)
 obtain ⟨f1, h1⟩ : ∃ f, fitP count r = f := ⟨_, rfl⟩
 obtain ⟨f2, h2⟩ : ∃ f, fitP (nb : Int) b = f := ⟨_, rfl⟩
 obtain ⟨f3, h3⟩ : ∃ f, fitP (nr : Int) g = f := ⟨_, rfl⟩
 rw [h1] at HA
 rw [h2] at HB
 rw [h3] at HG
 rw [h1, h2, h3]
 clear hl h1 h2 h3
 cases f1 with
 | false =>
  go_in
  go_wp2_with (first
   | (go_at_call 153; (with_reducible refine HC.out.mono ?_); rintro e w' ⟨rfl, rfl⟩)
   | (go_at_call 154; (with_reducible refine HA.out.mono ?_); rintro e w' ⟨rfl, rfl⟩)
   | (go_at_call 154; (with_reducible refine HB.out.mono ?_); rintro e w' ⟨rfl, rfl⟩)
   | (go_at_call 154; (with_reducible refine HG.out.mono ?_); rintro e w' ⟨rfl, rfl⟩))
  go_ret
  exact ⟨retb (by first | rfl | simp), hb1⟩
 | true =>
  cases f2 with
  | false =>
   go_in
   go_wp2_with (first
    | (go_at_call 153; (with_reducible refine HC.out.mono ?_); rintro e w' ⟨rfl, rfl⟩)
    | (go_at_call 154; (with_reducible refine HA.out.mono ?_); rintro e w' ⟨rfl, rfl⟩)
    | (go_at_call 154; (with_reducible refine HB.out.mono ?_); rintro e w' ⟨rfl, rfl⟩)
    | (go_at_call 154; (with_reducible refine HG.out.mono ?_); rintro e w' ⟨rfl, rfl⟩))
   go_ret
   exact ⟨retb (by first | rfl | simp), hb1⟩
  | true =>
   go_in
   go_wp2_with (first
    | (go_at_call 153; (with_reducible refine HC.out.mono ?_); rintro e w' ⟨rfl, rfl⟩)
    | (go_at_call 154; (with_reducible refine HA.out.mono ?_); rintro e w' ⟨rfl, rfl⟩)
    | (go_at_call 154; (with_reducible refine HB.out.mono ?_); rintro e w' ⟨rfl, rfl⟩)
    | (go_at_call 154; (with_reducible refine HG.out.mono ?_); rintro e w' ⟨rfl, rfl⟩))
   go_ret
   exact ⟨retb (by first | rfl | simp), hb1⟩
def MayPost (w : World) (b : Bool) (e : Ending) (w' : World) : Prop := e = .returned (.bool b) ∧ Below w.heap.size w w'
theorem may_none (fn addr count to : Int) (A : Option Addr) (nb cb : Nat) (R : Option Addr) (nr cr : Nat) (w : World) (hl : limP fn = none) : Calls Tryd.prog 115 #[.agg #[.int .i64 fn, .int .i64 addr, .int .i64 count, .int .i64 to, .slice A nb cb, .slice R nr cr]] w (MayPost w false) := by
 obtain ⟨w1, hw1⟩ : ∃ w1, w.alloc (.cells #[.int .i64 fn, .int .i64 addr, .int .i64 count, .int .i64 to, .slice A nb cb, .slice R nr cr] 59) = w1 := ⟨_, rfl⟩
 have hb1 := zB1 hw1
 have hz1 : w1.heap.size = w.heap.size + 1 := by rw [← hw1]; simp
 have hP1 := zH1 hw1
 have hu := Tryd.underlying59
 have hsz := zSz
 obtain ⟨p0, -⟩ := zC6 hP1
 have HK := Lib.hid (known_any fn w1)
 rw [hl] at HK
 simp only [Option.isSome_none] at HK
 clear hl
 go_in
 go_wp2_with (first
  | (go_at_call 127; (with_reducible refine HK.out.mono ?_); rintro e w' ⟨rfl, rfl⟩)
  | ((with_reducible refine at_loadT 59 1 ?_); refine wpList_load_rowG rfl 59 (.tmp 1) rfl w.heap.size rfl 59 #[.int .i64 fn, .int .i64 addr, .int .i64 count, .int .i64 to, .slice A nb cb, .slice R nr cr] _ hP1 hu rfl hsz ?_)
  | (go_at_call 129; (with_reducible refine HL.out.mono ?_); rintro e w2 ⟨rfl, hb2⟩; have hz2 := hb2.size; have hP2 := hP1.below hb2 hP1.lt; have hlt2 := hP2.lt; have hc0 : w2.cell? ⟨w.heap.size, 0, none⟩ = some (.int .i64 fn) := hP2.cell 0; have hc1 : w2.cell? ⟨w.heap.size, 1, none⟩ = some (.int .i64 addr) := hP2.cell 1; have hc2 : w2.cell? ⟨w.heap.size, 2, none⟩ = some (.int .i64 count) := hP2.cell 2; have hc3 : w2.cell? ⟨w.heap.size, 3, none⟩ = some (.int .i64 to) := hP2.cell 3; have hc4 : w2.cell? ⟨w.heap.size, 4, none⟩ = some (.slice A nb cb) := hP2.cell 4; have hc5 : w2.cell? ⟨w.heap.size, 5, none⟩ = some (.slice R nr cr) := hP2.cell 5))
 go_ret
 exact ⟨rfl, hb1⟩
theorem may_lim (fn addr count to : Int) (A : Option Addr) (nb cb : Nat) (R : Option Addr) (nr cr : Nat) (w : World) (r b g : Int) (hl : limP fn = some (r, b, g)) (hf : (fitP count r && fitP (nb : Int) b && fitP (nr : Int) g) = false) : Calls Tryd.prog 115 #[.agg #[.int .i64 fn, .int .i64 addr, .int .i64 count, .int .i64 to, .slice A nb cb, .slice R nr cr]] w (MayPost w false) := by
 obtain ⟨w1, hw1⟩ : ∃ w1, w.alloc (.cells #[.int .i64 fn, .int .i64 addr, .int .i64 count, .int .i64 to, .slice A nb cb, .slice R nr cr] 59) = w1 := ⟨_, rfl⟩
 have hb1 := zB1 hw1
 have hz1 : w1.heap.size = w.heap.size + 1 := by rw [← hw1]; simp
 have hP1 := zH1 hw1
 have hu := Tryd.underlying59
 have hsz := zSz
 obtain ⟨p0, -⟩ := zC6 hP1
 have HK := Lib.hid (known_any fn w1)
 rw [hl] at HK
 simp only [Option.isSome_some] at HK
 have HL := Lib.hid (limits_any fn addr count to A nb cb R nr cr w1 r b g hl)
 rw [hf] at HL
 clear hl hf
 go_in
 go_wp2_with (first
  | (go_at_call 127; (with_reducible refine HK.out.mono ?_); rintro e w' ⟨rfl, rfl⟩)
  | ((with_reducible refine at_loadT 59 1 ?_); refine wpList_load_rowG rfl 59 (.tmp 1) rfl w.heap.size rfl 59 #[.int .i64 fn, .int .i64 addr, .int .i64 count, .int .i64 to, .slice A nb cb, .slice R nr cr] _ hP1 hu rfl hsz ?_)
  | (go_at_call 129; (with_reducible refine HL.out.mono ?_); rintro e w2 ⟨rfl, hb2⟩; have hz2 := hb2.size; have hP2 := hP1.below hb2 hP1.lt; have hlt2 := hP2.lt; have hc0 : w2.cell? ⟨w.heap.size, 0, none⟩ = some (.int .i64 fn) := hP2.cell 0; have hc1 : w2.cell? ⟨w.heap.size, 1, none⟩ = some (.int .i64 addr) := hP2.cell 1; have hc2 : w2.cell? ⟨w.heap.size, 2, none⟩ = some (.int .i64 count) := hP2.cell 2; have hc3 : w2.cell? ⟨w.heap.size, 3, none⟩ = some (.int .i64 to) := hP2.cell 3; have hc4 : w2.cell? ⟨w.heap.size, 4, none⟩ = some (.slice A nb cb) := hP2.cell 4; have hc5 : w2.cell? ⟨w.heap.size, 5, none⟩ = some (.slice R nr cr) := hP2.cell 5))
 go_ret
 exact ⟨rfl, (hb1.trans (hb2.mono (by omega)))⟩
theorem may_t (fn addr count to : Int) (A : Option Addr) (nb cb : Nat) (R : Option Addr) (nr cr : Nat) (w : World) (r b g : Int) (hl : limP fn = some (r, b, g)) (h1 : fitP count r = true) (h2 : fitP (nb : Int) b = true) (h3 : fitP (nr : Int) g = true) (hto : to ≠ 0) (hfn : fn ≠ 23) : Calls Tryd.prog 115 #[.agg #[.int .i64 fn, .int .i64 addr, .int .i64 count, .int .i64 to, .slice A nb cb, .slice R nr cr]] w (MayPost w false) := by
 obtain ⟨w1, hw1⟩ : ∃ w1, w.alloc (.cells #[.int .i64 fn, .int .i64 addr, .int .i64 count, .int .i64 to, .slice A nb cb, .slice R nr cr] 59) = w1 := ⟨_, rfl⟩
 have hb1 := zB1 hw1
 have hz1 : w1.heap.size = w.heap.size + 1 := by rw [← hw1]; simp
 have hP1 := zH1 hw1
 have hu := Tryd.underlying59
 have hsz := zSz
 obtain ⟨p0, -⟩ := zC6 hP1
 have HK := Lib.hid (known_any fn w1)
 rw [hl] at HK
 simp only [Option.isSome_some] at HK
 have HL := Lib.hid (limits_any fn addr count to A nb cb R nr cr w1 r b g hl)
 rw [h1, h2, h3] at HL
 simp only [Bool.and_self] at HL
 obtain ⟨⟨r0, r1⟩, ⟨b0, b1⟩, ⟨g0, g1⟩, _⟩ := lim_range hl
 have k1 := fit_range h1 r0
 have k2 := fit_range h2 b0
 have k3 := fit_range h3 g0
 obtain ⟨k1, k4⟩ := k1
 have k5 : count ≤ 2000 := by omega
 have k6 : (nb : Int) ≤ 1968 := by omega
 have k7 : (nr : Int) ≤ 123 := by omega
 clear hl k2 k3 k4 h1 h2 h3
 have t1 : (to != 0) = true := by simpa using hto
 have t2 : (fn != 23) = true := by simpa using hfn
 clear hto hfn
 go_in
 go_wp2_with (first
  | (go_at_call 127; (with_reducible refine HK.out.mono ?_); rintro e w' ⟨rfl, rfl⟩)
  | ((with_reducible refine at_loadT 59 1 ?_); refine wpList_load_rowG rfl 59 (.tmp 1) rfl w.heap.size rfl 59 #[.int .i64 fn, .int .i64 addr, .int .i64 count, .int .i64 to, .slice A nb cb, .slice R nr cr] _ hP1 hu rfl hsz ?_)
  | (go_at_call 129; (with_reducible refine HL.out.mono ?_); rintro e w2 ⟨rfl, hb2⟩; have hz2 := hb2.size; have hP2 := hP1.below hb2 hP1.lt; have hlt2 := hP2.lt; have hc0 : w2.cell? ⟨w.heap.size, 0, none⟩ = some (.int .i64 fn) := hP2.cell 0; have hc1 : w2.cell? ⟨w.heap.size, 1, none⟩ = some (.int .i64 addr) := hP2.cell 1; have hc2 : w2.cell? ⟨w.heap.size, 2, none⟩ = some (.int .i64 count) := hP2.cell 2; have hc3 : w2.cell? ⟨w.heap.size, 3, none⟩ = some (.int .i64 to) := hP2.cell 3; have hc4 : w2.cell? ⟨w.heap.size, 4, none⟩ = some (.slice A nb cb) := hP2.cell 4; have hc5 : w2.cell? ⟨w.heap.size, 5, none⟩ = some (.slice R nr cr) := hP2.cell 5))
 all_goals
  go_ret
  exact ⟨rfl, (hb1.trans (hb2.mono (by omega)))⟩
theorem may_23 (fn addr count to : Int) (A : Option Addr) (nb cb : Nat) (R : Option Addr) (nr cr : Nat) (w : World) (r b g : Int) (hl : limP fn = some (r, b, g)) (h1 : fitP count r = true) (h2 : fitP (nb : Int) b = true) (h3 : fitP (nr : Int) g = true) (hto : to = 0 ∨ fn = 23) (hfn : fn = 23) (v : Bool) (hv : v = decide ((0 ≤ addr ∧ 0 ≤ to ∧ addr ≤ 65535 ∧ to ≤ 65535) ∧ addr + (count) ≤ 65536 ∧ to + ((nr : Int)) ≤ 65536)) : Calls Tryd.prog 115 #[.agg #[.int .i64 fn, .int .i64 addr, .int .i64 count, .int .i64 to, .slice A nb cb, .slice R nr cr]] w (MayPost w v) := by
 obtain ⟨w1, hw1⟩ : ∃ w1, w.alloc (.cells #[.int .i64 fn, .int .i64 addr, .int .i64 count, .int .i64 to, .slice A nb cb, .slice R nr cr] 59) = w1 := ⟨_, rfl⟩
 have hb1 := zB1 hw1
 have hz1 : w1.heap.size = w.heap.size + 1 := by rw [← hw1]; simp
 have hP1 := zH1 hw1
 have hu := Tryd.underlying59
 have hsz := zSz
 obtain ⟨p0, -⟩ := zC6 hP1
 have HK := Lib.hid (known_any fn w1)
 rw [hl] at HK
 simp only [Option.isSome_some] at HK
 have HL := Lib.hid (limits_any fn addr count to A nb cb R nr cr w1 r b g hl)
 rw [h1, h2, h3] at HL
 simp only [Bool.and_self] at HL
 obtain ⟨⟨r0, r1⟩, ⟨b0, b1⟩, ⟨g0, g1⟩, _⟩ := lim_range hl
 have k1 := fit_range h1 r0
 have k2 := fit_range h2 b0
 have k3 := fit_range h3 g0
 obtain ⟨k1, k4⟩ := k1
 have k5 : count ≤ 2000 := by omega
 have k6 : (nb : Int) ≤ 1968 := by omega
 have k7 : (nr : Int) ≤ 123 := by omega
 clear hl k2 k3 k4 h1 h2 h3
 have HV := Lib.hid hv
 clear hv
 subst hfn
 clear hto
 obtain ⟨t, ht⟩ : ∃ t, (to != 0) = t := ⟨_, rfl⟩
 cases t with
 | false =>
  go_in
  go_wp2_with (first
   | (go_at_call 127; (with_reducible refine HK.out.mono ?_); rintro e w' ⟨rfl, rfl⟩)
   | ((with_reducible refine at_loadT 59 1 ?_); refine wpList_load_rowG rfl 59 (.tmp 1) rfl w.heap.size rfl 59 #[.int .i64 23, .int .i64 addr, .int .i64 count, .int .i64 to, .slice A nb cb, .slice R nr cr] _ hP1 hu rfl hsz ?_)
   | (go_at_call 129; (with_reducible refine HL.out.mono ?_); rintro e w2 ⟨rfl, hb2⟩; have hz2 := hb2.size; have hP2 := hP1.below hb2 hP1.lt; have hlt2 := hP2.lt; have hc0 : w2.cell? ⟨w.heap.size, 0, none⟩ = some (.int .i64 23) := hP2.cell 0; have hc1 : w2.cell? ⟨w.heap.size, 1, none⟩ = some (.int .i64 addr) := hP2.cell 1; have hc2 : w2.cell? ⟨w.heap.size, 2, none⟩ = some (.int .i64 count) := hP2.cell 2; have hc3 : w2.cell? ⟨w.heap.size, 3, none⟩ = some (.int .i64 to) := hP2.cell 3; have hc4 : w2.cell? ⟨w.heap.size, 4, none⟩ = some (.slice A nb cb) := hP2.cell 4; have hc5 : w2.cell? ⟨w.heap.size, 5, none⟩ = some (.slice R nr cr) := hP2.cell 5))
  all_goals
   go_ret
   refine ⟨retb ?_, (hb1.trans (hb2.mono (by omega)))⟩
   first
    | exact (HV.out.trans (decide_eq_true (by omega))).symm
    | exact (HV.out.trans (decide_eq_false (by omega))).symm
    | (rw [HV.out]; apply decide_eq_decide.2; omega)
 | true =>
  go_in
  go_wp2_with (first
   | (go_at_call 127; (with_reducible refine HK.out.mono ?_); rintro e w' ⟨rfl, rfl⟩)
   | ((with_reducible refine at_loadT 59 1 ?_); refine wpList_load_rowG rfl 59 (.tmp 1) rfl w.heap.size rfl 59 #[.int .i64 23, .int .i64 addr, .int .i64 count, .int .i64 to, .slice A nb cb, .slice R nr cr] _ hP1 hu rfl hsz ?_)
   | (go_at_call 129; (with_reducible refine HL.out.mono ?_); rintro e w2 ⟨rfl, hb2⟩; have hz2 := hb2.size; have hP2 := hP1.below hb2 hP1.lt; have hlt2 := hP2.lt; have hc0 : w2.cell? ⟨w.heap.size, 0, none⟩ = some (.int .i64 23) := hP2.cell 0; have hc1 : w2.cell? ⟨w.heap.size, 1, none⟩ = some (.int .i64 addr) := hP2.cell 1; have hc2 : w2.cell? ⟨w.heap.size, 2, none⟩ = some (.int .i64 count) := hP2.cell 2; have hc3 : w2.cell? ⟨w.heap.size, 3, none⟩ = some (.int .i64 to) := hP2.cell 3; have hc4 : w2.cell? ⟨w.heap.size, 4, none⟩ = some (.slice A nb cb) := hP2.cell 4; have hc5 : w2.cell? ⟨w.heap.size, 5, none⟩ = some (.slice R nr cr) := hP2.cell 5))
  all_goals
   go_ret
   refine ⟨retb ?_, (hb1.trans (hb2.mono (by omega)))⟩
   first
    | exact (HV.out.trans (decide_eq_true (by omega))).symm
    | exact (HV.out.trans (decide_eq_false (by omega))).symm
    | (rw [HV.out]; apply decide_eq_decide.2; omega)
theorem may_5 (fn addr count to : Int) (A : Option Addr) (nb cb : Nat) (R : Option Addr) (nr cr : Nat) (w : World) (r b g : Int) (hl : limP fn = some (r, b, g)) (h1 : fitP count r = true) (h2 : fitP (nb : Int) b = true) (h3 : fitP (nr : Int) g = true) (hto : to = 0 ∨ fn = 23) (hfn : fn = 5) (v : Bool) (hv : v = decide ((0 ≤ addr ∧ 0 ≤ to ∧ addr ≤ 65535 ∧ to ≤ 65535) ∧ addr + ((nb : Int) + nr) ≤ 65536 ∧ to + (0) ≤ 65536)) : Calls Tryd.prog 115 #[.agg #[.int .i64 fn, .int .i64 addr, .int .i64 count, .int .i64 to, .slice A nb cb, .slice R nr cr]] w (MayPost w v) := by
 obtain ⟨w1, hw1⟩ : ∃ w1, w.alloc (.cells #[.int .i64 fn, .int .i64 addr, .int .i64 count, .int .i64 to, .slice A nb cb, .slice R nr cr] 59) = w1 := ⟨_, rfl⟩
 have hb1 := zB1 hw1
 have hz1 : w1.heap.size = w.heap.size + 1 := by rw [← hw1]; simp
 have hP1 := zH1 hw1
 have hu := Tryd.underlying59
 have hsz := zSz
 obtain ⟨p0, -⟩ := zC6 hP1
 have HK := Lib.hid (known_any fn w1)
 rw [hl] at HK
 simp only [Option.isSome_some] at HK
 have HL := Lib.hid (limits_any fn addr count to A nb cb R nr cr w1 r b g hl)
 rw [h1, h2, h3] at HL
 simp only [Bool.and_self] at HL
 obtain ⟨⟨r0, r1⟩, ⟨b0, b1⟩, ⟨g0, g1⟩, _⟩ := lim_range hl
 have k1 := fit_range h1 r0
 have k2 := fit_range h2 b0
 have k3 := fit_range h3 g0
 obtain ⟨k1, k4⟩ := k1
 have k5 : count ≤ 2000 := by omega
 have k6 : (nb : Int) ≤ 1968 := by omega
 have k7 : (nr : Int) ≤ 123 := by omega
 clear hl k2 k3 k4 h1 h2 h3
 have HV := Lib.hid hv
 clear hv
 subst hfn
 obtain rfl : to = 0 := by omega
 clear hto
 go_in
 go_wp2_with (first
  | (go_at_call 127; (with_reducible refine HK.out.mono ?_); rintro e w' ⟨rfl, rfl⟩)
  | ((with_reducible refine at_loadT 59 1 ?_); refine wpList_load_rowG rfl 59 (.tmp 1) rfl w.heap.size rfl 59 #[.int .i64 5, .int .i64 addr, .int .i64 count, .int .i64 0, .slice A nb cb, .slice R nr cr] _ hP1 hu rfl hsz ?_)
  | (go_at_call 129; (with_reducible refine HL.out.mono ?_); rintro e w2 ⟨rfl, hb2⟩; have hz2 := hb2.size; have hP2 := hP1.below hb2 hP1.lt; have hlt2 := hP2.lt; have hc0 : w2.cell? ⟨w.heap.size, 0, none⟩ = some (.int .i64 5) := hP2.cell 0; have hc1 : w2.cell? ⟨w.heap.size, 1, none⟩ = some (.int .i64 addr) := hP2.cell 1; have hc2 : w2.cell? ⟨w.heap.size, 2, none⟩ = some (.int .i64 count) := hP2.cell 2; have hc3 : w2.cell? ⟨w.heap.size, 3, none⟩ = some (.int .i64 0) := hP2.cell 3; have hc4 : w2.cell? ⟨w.heap.size, 4, none⟩ = some (.slice A nb cb) := hP2.cell 4; have hc5 : w2.cell? ⟨w.heap.size, 5, none⟩ = some (.slice R nr cr) := hP2.cell 5))
 all_goals
  go_ret
  refine ⟨retb ?_, (hb1.trans (hb2.mono (by omega)))⟩
  first
   | exact (HV.out.trans (decide_eq_true (by omega))).symm
   | exact (HV.out.trans (decide_eq_false (by omega))).symm
   | (rw [HV.out]; apply decide_eq_decide.2; omega)
theorem may_6 (fn addr count to : Int) (A : Option Addr) (nb cb : Nat) (R : Option Addr) (nr cr : Nat) (w : World) (r b g : Int) (hl : limP fn = some (r, b, g)) (h1 : fitP count r = true) (h2 : fitP (nb : Int) b = true) (h3 : fitP (nr : Int) g = true) (hto : to = 0 ∨ fn = 23) (hfn : fn = 6) (v : Bool) (hv : v = decide ((0 ≤ addr ∧ 0 ≤ to ∧ addr ≤ 65535 ∧ to ≤ 65535) ∧ addr + ((nb : Int) + nr) ≤ 65536 ∧ to + (0) ≤ 65536)) : Calls Tryd.prog 115 #[.agg #[.int .i64 fn, .int .i64 addr, .int .i64 count, .int .i64 to, .slice A nb cb, .slice R nr cr]] w (MayPost w v) := by
 obtain ⟨w1, hw1⟩ : ∃ w1, w.alloc (.cells #[.int .i64 fn, .int .i64 addr, .int .i64 count, .int .i64 to, .slice A nb cb, .slice R nr cr] 59) = w1 := ⟨_, rfl⟩
 have hb1 := zB1 hw1
 have hz1 : w1.heap.size = w.heap.size + 1 := by rw [← hw1]; simp
 have hP1 := zH1 hw1
 have hu := Tryd.underlying59
 have hsz := zSz
 obtain ⟨p0, -⟩ := zC6 hP1
 have HK := Lib.hid (known_any fn w1)
 rw [hl] at HK
 simp only [Option.isSome_some] at HK
 have HL := Lib.hid (limits_any fn addr count to A nb cb R nr cr w1 r b g hl)
 rw [h1, h2, h3] at HL
 simp only [Bool.and_self] at HL
 obtain ⟨⟨r0, r1⟩, ⟨b0, b1⟩, ⟨g0, g1⟩, _⟩ := lim_range hl
 have k1 := fit_range h1 r0
 have k2 := fit_range h2 b0
 have k3 := fit_range h3 g0
 obtain ⟨k1, k4⟩ := k1
 have k5 : count ≤ 2000 := by omega
 have k6 : (nb : Int) ≤ 1968 := by omega
 have k7 : (nr : Int) ≤ 123 := by omega
 clear hl k2 k3 k4 h1 h2 h3
 have HV := Lib.hid hv
 clear hv
 subst hfn
 obtain rfl : to = 0 := by omega
 clear hto
 go_in
 go_wp2_with (first
  | (go_at_call 127; (with_reducible refine HK.out.mono ?_); rintro e w' ⟨rfl, rfl⟩)
  | ((with_reducible refine at_loadT 59 1 ?_); refine wpList_load_rowG rfl 59 (.tmp 1) rfl w.heap.size rfl 59 #[.int .i64 6, .int .i64 addr, .int .i64 count, .int .i64 0, .slice A nb cb, .slice R nr cr] _ hP1 hu rfl hsz ?_)
  | (go_at_call 129; (with_reducible refine HL.out.mono ?_); rintro e w2 ⟨rfl, hb2⟩; have hz2 := hb2.size; have hP2 := hP1.below hb2 hP1.lt; have hlt2 := hP2.lt; have hc0 : w2.cell? ⟨w.heap.size, 0, none⟩ = some (.int .i64 6) := hP2.cell 0; have hc1 : w2.cell? ⟨w.heap.size, 1, none⟩ = some (.int .i64 addr) := hP2.cell 1; have hc2 : w2.cell? ⟨w.heap.size, 2, none⟩ = some (.int .i64 count) := hP2.cell 2; have hc3 : w2.cell? ⟨w.heap.size, 3, none⟩ = some (.int .i64 0) := hP2.cell 3; have hc4 : w2.cell? ⟨w.heap.size, 4, none⟩ = some (.slice A nb cb) := hP2.cell 4; have hc5 : w2.cell? ⟨w.heap.size, 5, none⟩ = some (.slice R nr cr) := hP2.cell 5))
 all_goals
  go_ret
  refine ⟨retb ?_, (hb1.trans (hb2.mono (by omega)))⟩
  first
   | exact (HV.out.trans (decide_eq_true (by omega))).symm
   | exact (HV.out.trans (decide_eq_false (by omega))).symm
   | (rw [HV.out]; apply decide_eq_decide.2; omega)
theorem may_15 (fn addr count to : Int) (A : Option Addr) (nb cb : Nat) (R : Option Addr) (nr cr : Nat) (w : World) (r b g : Int) (hl : limP fn = some (r, b, g)) (h1 : fitP count r = true) (h2 : fitP (nb : Int) b = true) (h3 : fitP (nr : Int) g = true) (hto : to = 0 ∨ fn = 23) (hfn : fn = 15) (v : Bool) (hv : v = decide ((0 ≤ addr ∧ 0 ≤ to ∧ addr ≤ 65535 ∧ to ≤ 65535) ∧ addr + ((nb : Int) + nr) ≤ 65536 ∧ to + (0) ≤ 65536)) : Calls Tryd.prog 115 #[.agg #[.int .i64 fn, .int .i64 addr, .int .i64 count, .int .i64 to, .slice A nb cb, .slice R nr cr]] w (MayPost w v) := by
 obtain ⟨w1, hw1⟩ : ∃ w1, w.alloc (.cells #[.int .i64 fn, .int .i64 addr, .int .i64 count, .int .i64 to, .slice A nb cb, .slice R nr cr] 59) = w1 := ⟨_, rfl⟩
 have hb1 := zB1 hw1
 have hz1 : w1.heap.size = w.heap.size + 1 := by rw [← hw1]; simp
 have hP1 := zH1 hw1
 have hu := Tryd.underlying59
 have hsz := zSz
 obtain ⟨p0, -⟩ := zC6 hP1
 have HK := Lib.hid (known_any fn w1)
 rw [hl] at HK
 simp only [Option.isSome_some] at HK
 have HL := Lib.hid (limits_any fn addr count to A nb cb R nr cr w1 r b g hl)
 rw [h1, h2, h3] at HL
 simp only [Bool.and_self] at HL
 obtain ⟨⟨r0, r1⟩, ⟨b0, b1⟩, ⟨g0, g1⟩, _⟩ := lim_range hl
 have k1 := fit_range h1 r0
 have k2 := fit_range h2 b0
 have k3 := fit_range h3 g0
 obtain ⟨k1, k4⟩ := k1
 have k5 : count ≤ 2000 := by omega
 have k6 : (nb : Int) ≤ 1968 := by omega
 have k7 : (nr : Int) ≤ 123 := by omega
 clear hl k2 k3 k4 h1 h2 h3
 have HV := Lib.hid hv
 clear hv
 subst hfn
 obtain rfl : to = 0 := by omega
 clear hto
 go_in
 go_wp2_with (first
  | (go_at_call 127; (with_reducible refine HK.out.mono ?_); rintro e w' ⟨rfl, rfl⟩)
  | ((with_reducible refine at_loadT 59 1 ?_); refine wpList_load_rowG rfl 59 (.tmp 1) rfl w.heap.size rfl 59 #[.int .i64 15, .int .i64 addr, .int .i64 count, .int .i64 0, .slice A nb cb, .slice R nr cr] _ hP1 hu rfl hsz ?_)
  | (go_at_call 129; (with_reducible refine HL.out.mono ?_); rintro e w2 ⟨rfl, hb2⟩; have hz2 := hb2.size; have hP2 := hP1.below hb2 hP1.lt; have hlt2 := hP2.lt; have hc0 : w2.cell? ⟨w.heap.size, 0, none⟩ = some (.int .i64 15) := hP2.cell 0; have hc1 : w2.cell? ⟨w.heap.size, 1, none⟩ = some (.int .i64 addr) := hP2.cell 1; have hc2 : w2.cell? ⟨w.heap.size, 2, none⟩ = some (.int .i64 count) := hP2.cell 2; have hc3 : w2.cell? ⟨w.heap.size, 3, none⟩ = some (.int .i64 0) := hP2.cell 3; have hc4 : w2.cell? ⟨w.heap.size, 4, none⟩ = some (.slice A nb cb) := hP2.cell 4; have hc5 : w2.cell? ⟨w.heap.size, 5, none⟩ = some (.slice R nr cr) := hP2.cell 5))
 all_goals
  go_ret
  refine ⟨retb ?_, (hb1.trans (hb2.mono (by omega)))⟩
  first
   | exact (HV.out.trans (decide_eq_true (by omega))).symm
   | exact (HV.out.trans (decide_eq_false (by omega))).symm
   | (rw [HV.out]; apply decide_eq_decide.2; omega)
theorem may_16 (fn addr count to : Int) (A : Option Addr) (nb cb : Nat) (R : Option Addr) (nr cr : Nat) (w : World) (r b g : Int) (hl : limP fn = some (r, b, g)) (h1 : fitP count r = true) (h2 : fitP (nb : Int) b = true) (h3 : fitP (nr : Int) g = true) (hto : to = 0 ∨ fn = 23) (hfn : fn = 16) (v : Bool) (hv : v = decide ((0 ≤ addr ∧ 0 ≤ to ∧ addr ≤ 65535 ∧ to ≤ 65535) ∧ addr + ((nb : Int) + nr) ≤ 65536 ∧ to + (0) ≤ 65536)) : Calls Tryd.prog 115 #[.agg #[.int .i64 fn, .int .i64 addr, .int .i64 count, .int .i64 to, .slice A nb cb, .slice R nr cr]] w (MayPost w v) := by
 obtain ⟨w1, hw1⟩ : ∃ w1, w.alloc (.cells #[.int .i64 fn, .int .i64 addr, .int .i64 count, .int .i64 to, .slice A nb cb, .slice R nr cr] 59) = w1 := ⟨_, rfl⟩
 have hb1 := zB1 hw1
 have hz1 : w1.heap.size = w.heap.size + 1 := by rw [← hw1]; simp
 have hP1 := zH1 hw1
 have hu := Tryd.underlying59
 have hsz := zSz
 obtain ⟨p0, -⟩ := zC6 hP1
 have HK := Lib.hid (known_any fn w1)
 rw [hl] at HK
 simp only [Option.isSome_some] at HK
 have HL := Lib.hid (limits_any fn addr count to A nb cb R nr cr w1 r b g hl)
 rw [h1, h2, h3] at HL
 simp only [Bool.and_self] at HL
 obtain ⟨⟨r0, r1⟩, ⟨b0, b1⟩, ⟨g0, g1⟩, _⟩ := lim_range hl
 have k1 := fit_range h1 r0
 have k2 := fit_range h2 b0
 have k3 := fit_range h3 g0
 obtain ⟨k1, k4⟩ := k1
 have k5 : count ≤ 2000 := by omega
 have k6 : (nb : Int) ≤ 1968 := by omega
 have k7 : (nr : Int) ≤ 123 := by omega
 clear hl k2 k3 k4 h1 h2 h3
 have HV := Lib.hid hv
 clear hv
 subst hfn
 obtain rfl : to = 0 := by omega
 clear hto
 go_in
 go_wp2_with (first
  | (go_at_call 127; (with_reducible refine HK.out.mono ?_); rintro e w' ⟨rfl, rfl⟩)
  | ((with_reducible refine at_loadT 59 1 ?_); refine wpList_load_rowG rfl 59 (.tmp 1) rfl w.heap.size rfl 59 #[.int .i64 16, .int .i64 addr, .int .i64 count, .int .i64 0, .slice A nb cb, .slice R nr cr] _ hP1 hu rfl hsz ?_)
  | (go_at_call 129; (with_reducible refine HL.out.mono ?_); rintro e w2 ⟨rfl, hb2⟩; have hz2 := hb2.size; have hP2 := hP1.below hb2 hP1.lt; have hlt2 := hP2.lt; have hc0 : w2.cell? ⟨w.heap.size, 0, none⟩ = some (.int .i64 16) := hP2.cell 0; have hc1 : w2.cell? ⟨w.heap.size, 1, none⟩ = some (.int .i64 addr) := hP2.cell 1; have hc2 : w2.cell? ⟨w.heap.size, 2, none⟩ = some (.int .i64 count) := hP2.cell 2; have hc3 : w2.cell? ⟨w.heap.size, 3, none⟩ = some (.int .i64 0) := hP2.cell 3; have hc4 : w2.cell? ⟨w.heap.size, 4, none⟩ = some (.slice A nb cb) := hP2.cell 4; have hc5 : w2.cell? ⟨w.heap.size, 5, none⟩ = some (.slice R nr cr) := hP2.cell 5))
 all_goals
  go_ret
  refine ⟨retb ?_, (hb1.trans (hb2.mono (by omega)))⟩
  first
   | exact (HV.out.trans (decide_eq_true (by omega))).symm
   | exact (HV.out.trans (decide_eq_false (by omega))).symm
   | (rw [HV.out]; apply decide_eq_decide.2; omega)
theorem may_x (fn addr count to : Int) (A : Option Addr) (nb cb : Nat) (R : Option Addr) (nr cr : Nat) (w : World) (r b g : Int) (hl : limP fn = some (r, b, g)) (h1 : fitP count r = true) (h2 : fitP (nb : Int) b = true) (h3 : fitP (nr : Int) g = true) (hto : to = 0 ∨ fn = 23) (hfn : (fn = 1 ∨ fn = 2 ∨ fn = 3 ∨ fn = 4)) (v : Bool) (hv : v = decide ((0 ≤ addr ∧ 0 ≤ to ∧ addr ≤ 65535 ∧ to ≤ 65535) ∧ addr + (count) ≤ 65536 ∧ to + (0) ≤ 65536)) : Calls Tryd.prog 115 #[.agg #[.int .i64 fn, .int .i64 addr, .int .i64 count, .int .i64 to, .slice A nb cb, .slice R nr cr]] w (MayPost w v) := by
 obtain ⟨w1, hw1⟩ : ∃ w1, w.alloc (.cells #[.int .i64 fn, .int .i64 addr, .int .i64 count, .int .i64 to, .slice A nb cb, .slice R nr cr] 59) = w1 := ⟨_, rfl⟩
 have hb1 := zB1 hw1
 have hz1 : w1.heap.size = w.heap.size + 1 := by rw [← hw1]; simp
 have hP1 := zH1 hw1
 have hu := Tryd.underlying59
 have hsz := zSz
 obtain ⟨p0, -⟩ := zC6 hP1
 have HK := Lib.hid (known_any fn w1)
 rw [hl] at HK
 simp only [Option.isSome_some] at HK
 have HL := Lib.hid (limits_any fn addr count to A nb cb R nr cr w1 r b g hl)
 rw [h1, h2, h3] at HL
 simp only [Bool.and_self] at HL
 obtain ⟨⟨r0, r1⟩, ⟨b0, b1⟩, ⟨g0, g1⟩, _⟩ := lim_range hl
 have k1 := fit_range h1 r0
 have k2 := fit_range h2 b0
 have k3 := fit_range h3 g0
 obtain ⟨k1, k4⟩ := k1
 have k5 : count ≤ 2000 := by omega
 have k6 : (nb : Int) ≤ 1968 := by omega
 have k7 : (nr : Int) ≤ 123 := by omega
 clear hl k2 k3 k4 h1 h2 h3
 have HV := Lib.hid hv
 clear hv
 obtain rfl : to = 0 := by omega
 have e1 : (fn != 23) = true := by simp; omega
 have e2 : (fn == 5) = false := by simp; omega
 have e3 : (fn == 6) = false := by simp; omega
 have e4 : (fn == 15) = false := by simp; omega
 have e5 : (fn == 16) = false := by simp; omega
 clear hfn hto
 go_in
 go_wp2_with (first
  | (go_at_call 127; (with_reducible refine HK.out.mono ?_); rintro e w' ⟨rfl, rfl⟩)
  | ((with_reducible refine at_loadT 59 1 ?_); refine wpList_load_rowG rfl 59 (.tmp 1) rfl w.heap.size rfl 59 #[.int .i64 fn, .int .i64 addr, .int .i64 count, .int .i64 0, .slice A nb cb, .slice R nr cr] _ hP1 hu rfl hsz ?_)
  | (go_at_call 129; (with_reducible refine HL.out.mono ?_); rintro e w2 ⟨rfl, hb2⟩; have hz2 := hb2.size; have hP2 := hP1.below hb2 hP1.lt; have hlt2 := hP2.lt; have hc0 : w2.cell? ⟨w.heap.size, 0, none⟩ = some (.int .i64 fn) := hP2.cell 0; have hc1 : w2.cell? ⟨w.heap.size, 1, none⟩ = some (.int .i64 addr) := hP2.cell 1; have hc2 : w2.cell? ⟨w.heap.size, 2, none⟩ = some (.int .i64 count) := hP2.cell 2; have hc3 : w2.cell? ⟨w.heap.size, 3, none⟩ = some (.int .i64 0) := hP2.cell 3; have hc4 : w2.cell? ⟨w.heap.size, 4, none⟩ = some (.slice A nb cb) := hP2.cell 4; have hc5 : w2.cell? ⟨w.heap.size, 5, none⟩ = some (.slice R nr cr) := hP2.cell 5))
 all_goals
  go_ret
  refine ⟨retb ?_, (hb1.trans (hb2.mono (by omega)))⟩
  first
   | exact (HV.out.trans (decide_eq_true (by omega))).symm
   | exact (HV.out.trans (decide_eq_false (by omega))).symm
   | (rw [HV.out]; apply decide_eq_decide.2; omega)
theorem may_any (u : Value) (p : AskP) (w : World) (hu : AskAt w u p) : Calls Tryd.prog 115 #[u] w (MayPost w (mayP p)) := by
 obtain ⟨A, nb, cb, R, nr, cr, rfl, hA, hR⟩ := hu
 obtain ⟨fn, addr, count, to, bits, regs⟩ := p
 obtain rfl : bits.length = nb := hA.1
 obtain rfl : regs.length = nr := hR.1
 clear hA hR
 dsimp only
 cases hl : limP fn with
 | none => rw [may_no _ _ _ _ _ _ hl]; exact may_none fn addr count to A _ cb R _ cr w hl
 | some l =>
  obtain ⟨r, b, g⟩ := l
  rw [may_some _ _ _ _ _ _ r b g hl]
  have hlr := (lim_range hl).2.2.2
  cases h0 : (fitP count r && fitP (bits.length : Int) b && fitP (regs.length : Int) g) with
  | false =>
   rw [Bool.false_and]
   exact may_lim fn addr count to A _ cb R _ cr w r b g hl h0
  | true =>
   rw [Bool.true_and]
   simp only [Bool.and_eq_true] at h0
   obtain ⟨⟨f1, f2⟩, f3⟩ := h0
   by_cases ht : to ≠ 0 ∧ fn ≠ 23
   ·have e : placeP ⟨fn, addr, count, to, bits, regs⟩ = false := by
     unfold placeP
     dsimp only
     rw [decide_eq_false ht.1, decide_eq_false ht.2]
     simp
    rw [e]
    exact may_t fn addr count to A _ cb R _ cr w r b g hl f1 f2 f3 ht.1 ht.2
   have hv (lg more : Int) (e1 : longP ⟨fn, addr, count, to, bits, regs⟩ = lg) (e2 : more = if fn = 23 then (regs.length : Int) else 0) : placeP ⟨fn, addr, count, to, bits, regs⟩ = decide ((0 ≤ addr ∧ 0 ≤ to ∧ addr ≤ 65535 ∧ to ≤ 65535) ∧ addr + lg ≤ 65536 ∧ to + more ≤ 65536) := by
    unfold placeP
    rw [e1]
    dsimp only
    rw [Bool.eq_iff_iff]
    simp only [Bool.and_eq_true, Bool.or_eq_true, decide_eq_true_eq]
    by_cases e : fn = 23
    ·rw [if_pos e] at e2
     omega
    ·rw [if_neg e] at e2
     omega
   rcases hlr with e | e | e | e | e | e | e | e | e
   ·exact may_x fn addr count to A _ cb R _ cr w r b g hl f1 f2 f3 (by omega) (by omega) _ (hv _ _ (by unfold longP; dsimp only; rw [if_neg (by omega)]) (by rw [if_neg (by omega)]))
   ·exact may_x fn addr count to A _ cb R _ cr w r b g hl f1 f2 f3 (by omega) (by omega) _ (hv _ _ (by unfold longP; dsimp only; rw [if_neg (by omega)]) (by rw [if_neg (by omega)]))
   ·exact may_x fn addr count to A _ cb R _ cr w r b g hl f1 f2 f3 (by omega) (by omega) _ (hv _ _ (by unfold longP; dsimp only; rw [if_neg (by omega)]) (by rw [if_neg (by omega)]))
   ·exact may_x fn addr count to A _ cb R _ cr w r b g hl f1 f2 f3 (by omega) (by omega) _ (hv _ _ (by unfold longP; dsimp only; rw [if_neg (by omega)]) (by rw [if_neg (by omega)]))
   ·exact may_5 fn addr count to A _ cb R _ cr w r b g hl f1 f2 f3 (by omega) (by omega) _ (hv _ _ (by unfold longP; dsimp only; rw [if_pos (by omega)]) (by rw [if_neg (by omega)]))
   ·exact may_6 fn addr count to A _ cb R _ cr w r b g hl f1 f2 f3 (by omega) (by omega) _ (hv _ _ (by unfold longP; dsimp only; rw [if_pos (by omega)]) (by rw [if_neg (by omega)]))
   ·exact may_15 fn addr count to A _ cb R _ cr w r b g hl f1 f2 f3 (by omega) (by omega) _ (hv _ _ (by unfold longP; dsimp only; rw [if_pos (by omega)]) (by rw [if_neg (by omega)]))
   ·exact may_16 fn addr count to A _ cb R _ cr w r b g hl f1 f2 f3 (by omega) (by omega) _ (hv _ _ (by unfold longP; dsimp only; rw [if_pos (by omega)]) (by rw [if_neg (by omega)]))
   ·exact may_23 fn addr count to A _ cb R _ cr w r b g hl f1 f2 f3 (by omega) (by omega) _ (hv _ _ (by unfold longP; dsimp only; rw [if_neg (by omega)]) (by rw [if_pos (by omega)]))
end Go.Proofs.YtcipleanckeoaaaDoor
