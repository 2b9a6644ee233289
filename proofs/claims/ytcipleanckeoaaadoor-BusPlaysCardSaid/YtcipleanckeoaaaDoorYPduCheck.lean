/- pdu.Check. -/
import Derived.Test.YtcipleanckeoaaaDoorYTk
import Derived.Test.YtcipleanckeoaaaDoorYPduBase
set_option maxRecDepth 100000
set_option maxHeartbeats 40000000
namespace Go.Proofs.YtcipleanckeoaaaDoor
open Go.RowKit
def errV (b : Bool) : Int := if b then 0 else 190
theorem may_no (fn addr count to : Int) (bits : List Bool) (regs : List Int) (h : limP fn = none) : mayP ⟨fn, addr, count, to, bits, regs⟩ = false := by simp [mayP, limitsP, h]
theorem may_some (fn addr count to : Int) (bits : List Bool) (regs : List Int) (r b g : Int) (h : limP fn = some (r, b, g)) : mayP ⟨fn, addr, count, to, bits, regs⟩ = (fitP count r && fitP bits.length b && fitP regs.length g && placeP ⟨fn, addr, count, to, bits, regs⟩) := by simp [mayP, limitsP, h]
def CheckPost (w : World) (b : Bool) (e : Ending) (w' : World) : Prop := e = .returned (.int .i64 (errV b)) ∧ Below w.heap.size w w'
theorem fit_range {n m : Int} (h : fitP n m = true) (hm : 0 ≤ m) : 0 ≤ n ∧ n ≤ m := by
 simp only [fitP, Bool.and_eq_true, decide_eq_true_eq] at h
 omega
theorem lim_range {fn r b g : Int} (h : limP fn = some (r, b, g)) : (0 ≤ r ∧ r ≤ 2000) ∧ (0 ≤ b ∧ b ≤ 1968) ∧ (0 ≤ g ∧ g ≤ 123) ∧ (fn = 1 ∨ fn = 2 ∨ fn = 3 ∨ fn = 4 ∨ fn = 5 ∨ fn = 6 ∨ fn = 15 ∨ fn = 16 ∨ fn = 23) := by
 unfold limP at h
 repeat' split at h
 all_goals first
  | (injection h with h; injection h with h1 h; injection h with h2 h3; omega)
  | cases h
set_option linter.unusedVariables false
theorem check_none (fn addr count to : Int) (bits : List Bool) (regs : List Int) (A : Option Addr) (nb cb : Nat) (R : Option Addr) (nr cr : Nat) (w : World) (hT : LimT w) (hl : limP fn = none) : Calls Tryd.prog 61 #[.agg #[.int .i64 fn, .int .i64 addr, .int .i64 count, .int .i64 to, .slice A nb cb, .slice R nr cr]] w (CheckPost w false) := by
 obtain ⟨w1, hw1⟩ : ∃ w1, w.alloc (.cells #[.int .i64 fn, .int .i64 addr, .int .i64 count, .int .i64 to, .slice A nb cb, .slice R nr cr] 59) = w1 := ⟨_, rfl⟩
 have hb1 := zB1 hw1
 have hz1 : w1.heap.size = w.heap.size + 1 := by rw [← hw1]; simp
 have hP1 := zH1 hw1
 obtain ⟨p0, -⟩ := zC6 hP1
 have HO := Lib.hid (of_own fn w1 (hT.up hb1))
 clear hT
 have ho : ofV fn = .tuple #[.agg #[.int .i64 0, .int .i64 0, .int .i64 0, .int .i64 0], .bool false] := by unfold ofV; rw [hl]
 rw [ho] at HO
 clear hl ho
 go_in
 go_wp2_with (first
  | (go_at_call 98; (with_reducible refine HO.out.mono ?_); rintro e w2 ⟨rfl, hb2⟩; have hz2 := hb2.size; have hP2 := hP1.below hb2 hP1.lt; have hlt2 := hP2.lt; have hc0 : w2.cell? ⟨w.heap.size, 0, none⟩ = some (.int .i64 fn) := hP2.cell 0; have hc1 : w2.cell? ⟨w.heap.size, 1, none⟩ = some (.int .i64 addr) := hP2.cell 1; have hc2 : w2.cell? ⟨w.heap.size, 2, none⟩ = some (.int .i64 count) := hP2.cell 2; have hc3 : w2.cell? ⟨w.heap.size, 3, none⟩ = some (.int .i64 to) := hP2.cell 3; have hc4 : w2.cell? ⟨w.heap.size, 4, none⟩ = some (.slice A nb cb) := hP2.cell 4; have hc5 : w2.cell? ⟨w.heap.size, 5, none⟩ = some (.slice R nr cr) := hP2.cell 5)
  | (go_at_call 99; (with_reducible refine (fits_own _ _ _).mono ?_); rintro e w' ⟨rfl, rfl⟩))
 go_ret
 exact ⟨rfl, ((hb1.trans (hb2.mono (by omega))).alloc (by omega) _)⟩
theorem check_early (fn addr count to : Int) (bits : List Bool) (regs : List Int) (A : Option Addr) (nb cb : Nat) (R : Option Addr) (nr cr : Nat) (w : World) (hT : LimT w) (r b g : Int) (hl : limP fn = some (r, b, g)) (hno : (fitP count r && fitP (nb : Int) b && fitP (nr : Int) g && (decide (to = 0) || decide (fn = 23))) = false) : Calls Tryd.prog 61 #[.agg #[.int .i64 fn, .int .i64 addr, .int .i64 count, .int .i64 to, .slice A nb cb, .slice R nr cr]] w (CheckPost w false) := by
 obtain ⟨w1, hw1⟩ : ∃ w1, w.alloc (.cells #[.int .i64 fn, .int .i64 addr, .int .i64 count, .int .i64 to, .slice A nb cb, .slice R nr cr] 59) = w1 := ⟨_, rfl⟩
 have hb1 := zB1 hw1
 have hz1 : w1.heap.size = w.heap.size + 1 := by rw [← hw1]; simp
 have hP1 := zH1 hw1
 obtain ⟨p0, -⟩ := zC6 hP1
 have HO := Lib.hid (of_own fn w1 (hT.up hb1))
 clear hT
 have ho : ofV fn = .tuple #[.agg #[.int .i64 fn, .int .i64 r, .int .i64 b, .int .i64 g], .bool true] := by unfold ofV; rw [hl]
 rw [ho] at HO
 clear ho
 clear hl
 obtain ⟨f1, h1⟩ : ∃ f, fitP count r = f := ⟨_, rfl⟩
 obtain ⟨f2, h2⟩ : ∃ f, fitP (nb : Int) b = f := ⟨_, rfl⟩
 obtain ⟨f3, h3⟩ : ∃ f, fitP (nr : Int) g = f := ⟨_, rfl⟩
 rw [h1, h2, h3] at hno
 cases f1 with
 | false =>
  clear hno
  go_in
  go_wp2_with (first
   | (go_at_call 98; (with_reducible refine HO.out.mono ?_); rintro e w2 ⟨rfl, hb2⟩; have hz2 := hb2.size; have hP2 := hP1.below hb2 hP1.lt; have hlt2 := hP2.lt; have hc0 : w2.cell? ⟨w.heap.size, 0, none⟩ = some (.int .i64 fn) := hP2.cell 0; have hc1 : w2.cell? ⟨w.heap.size, 1, none⟩ = some (.int .i64 addr) := hP2.cell 1; have hc2 : w2.cell? ⟨w.heap.size, 2, none⟩ = some (.int .i64 count) := hP2.cell 2; have hc3 : w2.cell? ⟨w.heap.size, 3, none⟩ = some (.int .i64 to) := hP2.cell 3; have hc4 : w2.cell? ⟨w.heap.size, 4, none⟩ = some (.slice A nb cb) := hP2.cell 4; have hc5 : w2.cell? ⟨w.heap.size, 5, none⟩ = some (.slice R nr cr) := hP2.cell 5)
   | (go_at_call 99; (with_reducible refine (fits_own _ _ _).mono ?_); rintro e w' ⟨rfl, rfl⟩))
  go_ret
  exact ⟨rfl, ((hb1.trans (hb2.mono (by omega))).alloc (by omega) _)⟩
 | true =>
  cases f2 with
  | false =>
   clear hno
   go_in
   go_wp2_with (first
    | (go_at_call 98; (with_reducible refine HO.out.mono ?_); rintro e w2 ⟨rfl, hb2⟩; have hz2 := hb2.size; have hP2 := hP1.below hb2 hP1.lt; have hlt2 := hP2.lt; have hc0 : w2.cell? ⟨w.heap.size, 0, none⟩ = some (.int .i64 fn) := hP2.cell 0; have hc1 : w2.cell? ⟨w.heap.size, 1, none⟩ = some (.int .i64 addr) := hP2.cell 1; have hc2 : w2.cell? ⟨w.heap.size, 2, none⟩ = some (.int .i64 count) := hP2.cell 2; have hc3 : w2.cell? ⟨w.heap.size, 3, none⟩ = some (.int .i64 to) := hP2.cell 3; have hc4 : w2.cell? ⟨w.heap.size, 4, none⟩ = some (.slice A nb cb) := hP2.cell 4; have hc5 : w2.cell? ⟨w.heap.size, 5, none⟩ = some (.slice R nr cr) := hP2.cell 5)
    | (go_at_call 99; (with_reducible refine (fits_own _ _ _).mono ?_); rintro e w' ⟨rfl, rfl⟩))
   go_ret
   exact ⟨rfl, ((hb1.trans (hb2.mono (by omega))).alloc (by omega) _)⟩
  | true =>
   cases f3 with
   | false =>
    clear hno
    go_in
    go_wp2_with (first
     | (go_at_call 98; (with_reducible refine HO.out.mono ?_); rintro e w2 ⟨rfl, hb2⟩; have hz2 := hb2.size; have hP2 := hP1.below hb2 hP1.lt; have hlt2 := hP2.lt; have hc0 : w2.cell? ⟨w.heap.size, 0, none⟩ = some (.int .i64 fn) := hP2.cell 0; have hc1 : w2.cell? ⟨w.heap.size, 1, none⟩ = some (.int .i64 addr) := hP2.cell 1; have hc2 : w2.cell? ⟨w.heap.size, 2, none⟩ = some (.int .i64 count) := hP2.cell 2; have hc3 : w2.cell? ⟨w.heap.size, 3, none⟩ = some (.int .i64 to) := hP2.cell 3; have hc4 : w2.cell? ⟨w.heap.size, 4, none⟩ = some (.slice A nb cb) := hP2.cell 4; have hc5 : w2.cell? ⟨w.heap.size, 5, none⟩ = some (.slice R nr cr) := hP2.cell 5)
     | (go_at_call 99; (with_reducible refine (fits_own _ _ _).mono ?_); rintro e w' ⟨rfl, rfl⟩))
    go_ret
    exact ⟨rfl, ((hb1.trans (hb2.mono (by omega))).alloc (by omega) _)⟩
   | true =>
    simp only [Bool.and_self, Bool.true_and, Bool.or_eq_false_iff, decide_eq_false_iff_not] at hno
    obtain ⟨n1, n2⟩ := hno
    have t1 : (to != 0) = true := by simpa using n1
    have t2 : (fn != 23) = true := by simpa using n2
    clear n1 n2
    go_in
    go_wp2_with (first
     | (go_at_call 98; (with_reducible refine HO.out.mono ?_); rintro e w2 ⟨rfl, hb2⟩; have hz2 := hb2.size; have hP2 := hP1.below hb2 hP1.lt; have hlt2 := hP2.lt; have hc0 : w2.cell? ⟨w.heap.size, 0, none⟩ = some (.int .i64 fn) := hP2.cell 0; have hc1 : w2.cell? ⟨w.heap.size, 1, none⟩ = some (.int .i64 addr) := hP2.cell 1; have hc2 : w2.cell? ⟨w.heap.size, 2, none⟩ = some (.int .i64 count) := hP2.cell 2; have hc3 : w2.cell? ⟨w.heap.size, 3, none⟩ = some (.int .i64 to) := hP2.cell 3; have hc4 : w2.cell? ⟨w.heap.size, 4, none⟩ = some (.slice A nb cb) := hP2.cell 4; have hc5 : w2.cell? ⟨w.heap.size, 5, none⟩ = some (.slice R nr cr) := hP2.cell 5)
     | (go_at_call 99; (with_reducible refine (fits_own _ _ _).mono ?_); rintro e w' ⟨rfl, rfl⟩))
    go_ret
    exact ⟨rfl, ((hb1.trans (hb2.mono (by omega))).alloc (by omega) _)⟩
theorem check_23 (fn addr count to : Int) (bits : List Bool) (regs : List Int) (A : Option Addr) (nb cb : Nat) (R : Option Addr) (nr cr : Nat) (w : World) (hT : LimT w) (r b g : Int) (hl : limP fn = some (r, b, g)) (h1 : fitP count r = true) (h2 : fitP (nb : Int) b = true) (h3 : fitP (nr : Int) g = true) (hto : to = 0 ∨ fn = 23) (hfn : fn = 23) (v : Bool) (hv : v = decide ((0 ≤ addr ∧ 0 ≤ to ∧ addr ≤ 65535 ∧ to ≤ 65535) ∧ addr + (count) ≤ 65536 ∧ to + ((nr : Int)) ≤ 65536)) : Calls Tryd.prog 61 #[.agg #[.int .i64 fn, .int .i64 addr, .int .i64 count, .int .i64 to, .slice A nb cb, .slice R nr cr]] w (CheckPost w v) := by
 obtain ⟨w1, hw1⟩ : ∃ w1, w.alloc (.cells #[.int .i64 fn, .int .i64 addr, .int .i64 count, .int .i64 to, .slice A nb cb, .slice R nr cr] 59) = w1 := ⟨_, rfl⟩
 have hb1 := zB1 hw1
 have hz1 : w1.heap.size = w.heap.size + 1 := by rw [← hw1]; simp
 have hP1 := zH1 hw1
 obtain ⟨p0, -⟩ := zC6 hP1
 have HO := Lib.hid (of_own fn w1 (hT.up hb1))
 clear hT
 have ho : ofV fn = .tuple #[.agg #[.int .i64 fn, .int .i64 r, .int .i64 b, .int .i64 g], .bool true] := by unfold ofV; rw [hl]
 rw [ho] at HO
 clear ho
 obtain ⟨⟨r0, r1⟩, ⟨b0, b1⟩, ⟨g0, g1⟩, _⟩ := lim_range hl
 have k1 := fit_range h1 r0
 have k2 := fit_range h2 b0
 have k3 := fit_range h3 g0
 obtain ⟨k1, k4⟩ := k1
 have k5 : count ≤ 2000 := by omega
 have k6 : (nb : Int) ≤ 1968 := by omega
 have k7 : (nr : Int) ≤ 123 := by omega
 have HV := Lib.hid hv
 clear hl hv k2 k3 k4
 subst hfn
 clear hto
 obtain ⟨t, ht⟩ : ∃ t, (to != 0) = t := ⟨_, rfl⟩
 cases t with
 | false =>
  go_in
  go_wp2_with (first
   | (go_at_call 98; (with_reducible refine HO.out.mono ?_); rintro e w2 ⟨rfl, hb2⟩; have hz2 := hb2.size; have hP2 := hP1.below hb2 hP1.lt; have hlt2 := hP2.lt; have hc0 : w2.cell? ⟨w.heap.size, 0, none⟩ = some (.int .i64 23) := hP2.cell 0; have hc1 : w2.cell? ⟨w.heap.size, 1, none⟩ = some (.int .i64 addr) := hP2.cell 1; have hc2 : w2.cell? ⟨w.heap.size, 2, none⟩ = some (.int .i64 count) := hP2.cell 2; have hc3 : w2.cell? ⟨w.heap.size, 3, none⟩ = some (.int .i64 to) := hP2.cell 3; have hc4 : w2.cell? ⟨w.heap.size, 4, none⟩ = some (.slice A nb cb) := hP2.cell 4; have hc5 : w2.cell? ⟨w.heap.size, 5, none⟩ = some (.slice R nr cr) := hP2.cell 5)
   | (go_at_call 99; (with_reducible refine (fits_own _ _ _).mono ?_); rintro e w' ⟨rfl, rfl⟩))
  all_goals
   go_ret
   refine ⟨?_, ((hb1.trans (hb2.mono (by omega))).alloc (by omega) _)⟩
   first
    | (rw [show v = true from HV.out.trans (decide_eq_true (by omega))]; rfl)
    | (rw [show v = false from HV.out.trans (decide_eq_false (by omega))]; rfl)
 | true =>
  go_in
  go_wp2_with (first
   | (go_at_call 98; (with_reducible refine HO.out.mono ?_); rintro e w2 ⟨rfl, hb2⟩; have hz2 := hb2.size; have hP2 := hP1.below hb2 hP1.lt; have hlt2 := hP2.lt; have hc0 : w2.cell? ⟨w.heap.size, 0, none⟩ = some (.int .i64 23) := hP2.cell 0; have hc1 : w2.cell? ⟨w.heap.size, 1, none⟩ = some (.int .i64 addr) := hP2.cell 1; have hc2 : w2.cell? ⟨w.heap.size, 2, none⟩ = some (.int .i64 count) := hP2.cell 2; have hc3 : w2.cell? ⟨w.heap.size, 3, none⟩ = some (.int .i64 to) := hP2.cell 3; have hc4 : w2.cell? ⟨w.heap.size, 4, none⟩ = some (.slice A nb cb) := hP2.cell 4; have hc5 : w2.cell? ⟨w.heap.size, 5, none⟩ = some (.slice R nr cr) := hP2.cell 5)
   | (go_at_call 99; (with_reducible refine (fits_own _ _ _).mono ?_); rintro e w' ⟨rfl, rfl⟩))
  all_goals
   go_ret
   refine ⟨?_, ((hb1.trans (hb2.mono (by omega))).alloc (by omega) _)⟩
   first
    | (rw [show v = true from HV.out.trans (decide_eq_true (by omega))]; rfl)
    | (rw [show v = false from HV.out.trans (decide_eq_false (by omega))]; rfl)
theorem check_5 (fn addr count to : Int) (bits : List Bool) (regs : List Int) (A : Option Addr) (nb cb : Nat) (R : Option Addr) (nr cr : Nat) (w : World) (hT : LimT w) (r b g : Int) (hl : limP fn = some (r, b, g)) (h1 : fitP count r = true) (h2 : fitP (nb : Int) b = true) (h3 : fitP (nr : Int) g = true) (hto : to = 0 ∨ fn = 23) (hfn : fn = 5) (v : Bool) (hv : v = decide ((0 ≤ addr ∧ 0 ≤ to ∧ addr ≤ 65535 ∧ to ≤ 65535) ∧ addr + ((nb : Int) + nr) ≤ 65536 ∧ to + (0) ≤ 65536)) : Calls Tryd.prog 61 #[.agg #[.int .i64 fn, .int .i64 addr, .int .i64 count, .int .i64 to, .slice A nb cb, .slice R nr cr]] w (CheckPost w v) := by
 obtain ⟨w1, hw1⟩ : ∃ w1, w.alloc (.cells #[.int .i64 fn, .int .i64 addr, .int .i64 count, .int .i64 to, .slice A nb cb, .slice R nr cr] 59) = w1 := ⟨_, rfl⟩
 have hb1 := zB1 hw1
 have hz1 : w1.heap.size = w.heap.size + 1 := by rw [← hw1]; simp
 have hP1 := zH1 hw1
 obtain ⟨p0, -⟩ := zC6 hP1
 have HO := Lib.hid (of_own fn w1 (hT.up hb1))
 clear hT
 have ho : ofV fn = .tuple #[.agg #[.int .i64 fn, .int .i64 r, .int .i64 b, .int .i64 g], .bool true] := by unfold ofV; rw [hl]
 rw [ho] at HO
 clear ho
 obtain ⟨⟨r0, r1⟩, ⟨b0, b1⟩, ⟨g0, g1⟩, _⟩ := lim_range hl
 have k1 := fit_range h1 r0
 have k2 := fit_range h2 b0
 have k3 := fit_range h3 g0
 obtain ⟨k1, k4⟩ := k1
 have k5 : count ≤ 2000 := by omega
 have k6 : (nb : Int) ≤ 1968 := by omega
 have k7 : (nr : Int) ≤ 123 := by omega
 have HV := Lib.hid hv
 clear hl hv k2 k3 k4
 subst hfn
 obtain rfl : to = 0 := by omega
 clear hto
 go_in
 go_wp2_with (first
  | (go_at_call 98; (with_reducible refine HO.out.mono ?_); rintro e w2 ⟨rfl, hb2⟩; have hz2 := hb2.size; have hP2 := hP1.below hb2 hP1.lt; have hlt2 := hP2.lt; have hc0 : w2.cell? ⟨w.heap.size, 0, none⟩ = some (.int .i64 5) := hP2.cell 0; have hc1 : w2.cell? ⟨w.heap.size, 1, none⟩ = some (.int .i64 addr) := hP2.cell 1; have hc2 : w2.cell? ⟨w.heap.size, 2, none⟩ = some (.int .i64 count) := hP2.cell 2; have hc3 : w2.cell? ⟨w.heap.size, 3, none⟩ = some (.int .i64 0) := hP2.cell 3; have hc4 : w2.cell? ⟨w.heap.size, 4, none⟩ = some (.slice A nb cb) := hP2.cell 4; have hc5 : w2.cell? ⟨w.heap.size, 5, none⟩ = some (.slice R nr cr) := hP2.cell 5)
  | (go_at_call 99; (with_reducible refine (fits_own _ _ _).mono ?_); rintro e w' ⟨rfl, rfl⟩))
 all_goals
  go_ret
  refine ⟨?_, ((hb1.trans (hb2.mono (by omega))).alloc (by omega) _)⟩
  first
   | (rw [show v = true from HV.out.trans (decide_eq_true (by omega))]; rfl)
   | (rw [show v = false from HV.out.trans (decide_eq_false (by omega))]; rfl)
theorem check_6 (fn addr count to : Int) (bits : List Bool) (regs : List Int) (A : Option Addr) (nb cb : Nat) (R : Option Addr) (nr cr : Nat) (w : World) (hT : LimT w) (r b g : Int) (hl : limP fn = some (r, b, g)) (h1 : fitP count r = true) (h2 : fitP (nb : Int) b = true) (h3 : fitP (nr : Int) g = true) (hto : to = 0 ∨ fn = 23) (hfn : fn = 6) (v : Bool) (hv : v = decide ((0 ≤ addr ∧ 0 ≤ to ∧ addr ≤ 65535 ∧ to ≤ 65535) ∧ addr + ((nb : Int) + nr) ≤ 65536 ∧ to + (0) ≤ 65536)) : Calls Tryd.prog 61 #[.agg #[.int .i64 fn, .int .i64 addr, .int .i64 count, .int .i64 to, .slice A nb cb, .slice R nr cr]] w (CheckPost w v) := by
 obtain ⟨w1, hw1⟩ : ∃ w1, w.alloc (.cells #[.int .i64 fn, .int .i64 addr, .int .i64 count, .int .i64 to, .slice A nb cb, .slice R nr cr] 59) = w1 := ⟨_, rfl⟩
 have hb1 := zB1 hw1
 have hz1 : w1.heap.size = w.heap.size + 1 := by rw [← hw1]; simp
 have hP1 := zH1 hw1
 obtain ⟨p0, -⟩ := zC6 hP1
 have HO := Lib.hid (of_own fn w1 (hT.up hb1))
 clear hT
 have ho : ofV fn = .tuple #[.agg #[.int .i64 fn, .int .i64 r, .int .i64 b, .int .i64 g], .bool true] := by unfold ofV; rw [hl]
 rw [ho] at HO
 clear ho
 obtain ⟨⟨r0, r1⟩, ⟨b0, b1⟩, ⟨g0, g1⟩, _⟩ := lim_range hl
 have k1 := fit_range h1 r0
 have k2 := fit_range h2 b0
 have k3 := fit_range h3 g0
 obtain ⟨k1, k4⟩ := k1
 have k5 : count ≤ 2000 := by omega
 have k6 : (nb : Int) ≤ 1968 := by omega
 have k7 : (nr : Int) ≤ 123 := by omega
 have HV := Lib.hid hv
 clear hl hv k2 k3 k4
 subst hfn
 obtain rfl : to = 0 := by omega
 clear hto
 go_in
 go_wp2_with (first
  | (go_at_call 98; (with_reducible refine HO.out.mono ?_); rintro e w2 ⟨rfl, hb2⟩; have hz2 := hb2.size; have hP2 := hP1.below hb2 hP1.lt; have hlt2 := hP2.lt; have hc0 : w2.cell? ⟨w.heap.size, 0, none⟩ = some (.int .i64 6) := hP2.cell 0; have hc1 : w2.cell? ⟨w.heap.size, 1, none⟩ = some (.int .i64 addr) := hP2.cell 1; have hc2 : w2.cell? ⟨w.heap.size, 2, none⟩ = some (.int .i64 count) := hP2.cell 2; have hc3 : w2.cell? ⟨w.heap.size, 3, none⟩ = some (.int .i64 0) := hP2.cell 3; have hc4 : w2.cell? ⟨w.heap.size, 4, none⟩ = some (.slice A nb cb) := hP2.cell 4; have hc5 : w2.cell? ⟨w.heap.size, 5, none⟩ = some (.slice R nr cr) := hP2.cell 5)
  | (go_at_call 99; (with_reducible refine (fits_own _ _ _).mono ?_); rintro e w' ⟨rfl, rfl⟩))
 all_goals
  go_ret
  refine ⟨?_, ((hb1.trans (hb2.mono (by omega))).alloc (by omega) _)⟩
  first
   | (rw [show v = true from HV.out.trans (decide_eq_true (by omega))]; rfl)
   | (rw [show v = false from HV.out.trans (decide_eq_false (by omega))]; rfl)
theorem check_15 (fn addr count to : Int) (bits : List Bool) (regs : List Int) (A : Option Addr) (nb cb : Nat) (R : Option Addr) (nr cr : Nat) (w : World) (hT : LimT w) (r b g : Int) (hl : limP fn = some (r, b, g)) (h1 : fitP count r = true) (h2 : fitP (nb : Int) b = true) (h3 : fitP (nr : Int) g = true) (hto : to = 0 ∨ fn = 23) (hfn : fn = 15) (v : Bool) (hv : v = decide ((0 ≤ addr ∧ 0 ≤ to ∧ addr ≤ 65535 ∧ to ≤ 65535) ∧ addr + ((nb : Int) + nr) ≤ 65536 ∧ to + (0) ≤ 65536)) : Calls Tryd.prog 61 #[.agg #[.int .i64 fn, .int .i64 addr, .int .i64 count, .int .i64 to, .slice A nb cb, .slice R nr cr]] w (CheckPost w v) := by
 obtain ⟨w1, hw1⟩ : ∃ w1, w.alloc (.cells #[.int .i64 fn, .int .i64 addr, .int .i64 count, .int .i64 to, .slice A nb cb, .slice R nr cr] 59) = w1 := ⟨_, rfl⟩
 have hb1 := zB1 hw1
 have hz1 : w1.heap.size = w.heap.size + 1 := by rw [← hw1]; simp
 have hP1 := zH1 hw1
 obtain ⟨p0, -⟩ := zC6 hP1
 have HO := Lib.hid (of_own fn w1 (hT.up hb1))
 clear hT
 have ho : ofV fn = .tuple #[.agg #[.int .i64 fn, .int .i64 r, .int .i64 b, .int .i64 g], .bool true] := by unfold ofV; rw [hl]
 rw [ho] at HO
 clear ho
 obtain ⟨⟨r0, r1⟩, ⟨b0, b1⟩, ⟨g0, g1⟩, _⟩ := lim_range hl
 have k1 := fit_range h1 r0
 have k2 := fit_range h2 b0
 have k3 := fit_range h3 g0
 obtain ⟨k1, k4⟩ := k1
 have k5 : count ≤ 2000 := by omega
 have k6 : (nb : Int) ≤ 1968 := by omega
 have k7 : (nr : Int) ≤ 123 := by omega
 have HV := Lib.hid hv
 clear hl hv k2 k3 k4
 subst hfn
 obtain rfl : to = 0 := by omega
 clear hto
 go_in
 go_wp2_with (first
  | (go_at_call 98; (with_reducible refine HO.out.mono ?_); rintro e w2 ⟨rfl, hb2⟩; have hz2 := hb2.size; have hP2 := hP1.below hb2 hP1.lt; have hlt2 := hP2.lt; have hc0 : w2.cell? ⟨w.heap.size, 0, none⟩ = some (.int .i64 15) := hP2.cell 0; have hc1 : w2.cell? ⟨w.heap.size, 1, none⟩ = some (.int .i64 addr) := hP2.cell 1; have hc2 : w2.cell? ⟨w.heap.size, 2, none⟩ = some (.int .i64 count) := hP2.cell 2; have hc3 : w2.cell? ⟨w.heap.size, 3, none⟩ = some (.int .i64 0) := hP2.cell 3; have hc4 : w2.cell? ⟨w.heap.size, 4, none⟩ = some (.slice A nb cb) := hP2.cell 4; have hc5 : w2.cell? ⟨w.heap.size, 5, none⟩ = some (.slice R nr cr) := hP2.cell 5)
  | (go_at_call 99; (with_reducible refine (fits_own _ _ _).mono ?_); rintro e w' ⟨rfl, rfl⟩))
 all_goals
  go_ret
  refine ⟨?_, ((hb1.trans (hb2.mono (by omega))).alloc (by omega) _)⟩
  first
   | (rw [show v = true from HV.out.trans (decide_eq_true (by omega))]; rfl)
   | (rw [show v = false from HV.out.trans (decide_eq_false (by omega))]; rfl)
theorem check_16 (fn addr count to : Int) (bits : List Bool) (regs : List Int) (A : Option Addr) (nb cb : Nat) (R : Option Addr) (nr cr : Nat) (w : World) (hT : LimT w) (r b g : Int) (hl : limP fn = some (r, b, g)) (h1 : fitP count r = true) (h2 : fitP (nb : Int) b = true) (h3 : fitP (nr : Int) g = true) (hto : to = 0 ∨ fn = 23) (hfn : fn = 16) (v : Bool) (hv : v = decide ((0 ≤ addr ∧ 0 ≤ to ∧ addr ≤ 65535 ∧ to ≤ 65535) ∧ addr + ((nb : Int) + nr) ≤ 65536 ∧ to + (0) ≤ 65536)) : Calls Tryd.prog 61 #[.agg #[.int .i64 fn, .int .i64 addr, .int .i64 count, .int .i64 to, .slice A nb cb, .slice R nr cr]] w (CheckPost w v) := by
 obtain ⟨w1, hw1⟩ : ∃ w1, w.alloc (.cells #[.int .i64 fn, .int .i64 addr, .int .i64 count, .int .i64 to, .slice A nb cb, .slice R nr cr] 59) = w1 := ⟨_, rfl⟩
 have hb1 := zB1 hw1
 have hz1 : w1.heap.size = w.heap.size + 1 := by rw [← hw1]; simp
 have hP1 := zH1 hw1
 obtain ⟨p0, -⟩ := zC6 hP1
 have HO := Lib.hid (of_own fn w1 (hT.up hb1))
 clear hT
 have ho : ofV fn = .tuple #[.agg #[.int .i64 fn, .int .i64 r, .int .i64 b, .int .i64 g], .bool true] := by unfold ofV; rw [hl]
 rw [ho] at HO
 clear ho
 obtain ⟨⟨r0, r1⟩, ⟨b0, b1⟩, ⟨g0, g1⟩, _⟩ := lim_range hl
 have k1 := fit_range h1 r0
 have k2 := fit_range h2 b0
 have k3 := fit_range h3 g0
 obtain ⟨k1, k4⟩ := k1
 have k5 : count ≤ 2000 := by omega
 have k6 : (nb : Int) ≤ 1968 := by omega
 have k7 : (nr : Int) ≤ 123 := by omega
 have HV := Lib.hid hv
 clear hl hv k2 k3 k4
 subst hfn
 obtain rfl : to = 0 := by omega
 clear hto
 go_in
 go_wp2_with (first
  | (go_at_call 98; (with_reducible refine HO.out.mono ?_); rintro e w2 ⟨rfl, hb2⟩; have hz2 := hb2.size; have hP2 := hP1.below hb2 hP1.lt; have hlt2 := hP2.lt; have hc0 : w2.cell? ⟨w.heap.size, 0, none⟩ = some (.int .i64 16) := hP2.cell 0; have hc1 : w2.cell? ⟨w.heap.size, 1, none⟩ = some (.int .i64 addr) := hP2.cell 1; have hc2 : w2.cell? ⟨w.heap.size, 2, none⟩ = some (.int .i64 count) := hP2.cell 2; have hc3 : w2.cell? ⟨w.heap.size, 3, none⟩ = some (.int .i64 0) := hP2.cell 3; have hc4 : w2.cell? ⟨w.heap.size, 4, none⟩ = some (.slice A nb cb) := hP2.cell 4; have hc5 : w2.cell? ⟨w.heap.size, 5, none⟩ = some (.slice R nr cr) := hP2.cell 5)
  | (go_at_call 99; (with_reducible refine (fits_own _ _ _).mono ?_); rintro e w' ⟨rfl, rfl⟩))
 all_goals
  go_ret
  refine ⟨?_, ((hb1.trans (hb2.mono (by omega))).alloc (by omega) _)⟩
  first
   | (rw [show v = true from HV.out.trans (decide_eq_true (by omega))]; rfl)
   | (rw [show v = false from HV.out.trans (decide_eq_false (by omega))]; rfl)
theorem check_x (fn addr count to : Int) (bits : List Bool) (regs : List Int) (A : Option Addr) (nb cb : Nat) (R : Option Addr) (nr cr : Nat) (w : World) (hT : LimT w) (r b g : Int) (hl : limP fn = some (r, b, g)) (h1 : fitP count r = true) (h2 : fitP (nb : Int) b = true) (h3 : fitP (nr : Int) g = true) (hto : to = 0 ∨ fn = 23) (hfn : (fn = 1 ∨ fn = 2 ∨ fn = 3 ∨ fn = 4)) (v : Bool) (hv : v = decide ((0 ≤ addr ∧ 0 ≤ to ∧ addr ≤ 65535 ∧ to ≤ 65535) ∧ addr + (count) ≤ 65536 ∧ to + (0) ≤ 65536)) : Calls Tryd.prog 61 #[.agg #[.int .i64 fn, .int .i64 addr, .int .i64 count, .int .i64 to, .slice A nb cb, .slice R nr cr]] w (CheckPost w v) := by
 obtain ⟨w1, hw1⟩ : ∃ w1, w.alloc (.cells #[.int .i64 fn, .int .i64 addr, .int .i64 count, .int .i64 to, .slice A nb cb, .slice R nr cr] 59) = w1 := ⟨_, rfl⟩
 have hb1 := zB1 hw1
 have hz1 : w1.heap.size = w.heap.size + 1 := by rw [← hw1]; simp
 have hP1 := zH1 hw1
 obtain ⟨p0, -⟩ := zC6 hP1
 have HO := Lib.hid (of_own fn w1 (hT.up hb1))
 clear hT
 have ho : ofV fn = .tuple #[.agg #[.int .i64 fn, .int .i64 r, .int .i64 b, .int .i64 g], .bool true] := by unfold ofV; rw [hl]
 rw [ho] at HO
 clear ho
 obtain ⟨⟨r0, r1⟩, ⟨b0, b1⟩, ⟨g0, g1⟩, _⟩ := lim_range hl
 have k1 := fit_range h1 r0
 have k2 := fit_range h2 b0
 have k3 := fit_range h3 g0
 obtain ⟨k1, k4⟩ := k1
 have k5 : count ≤ 2000 := by omega
 have k6 : (nb : Int) ≤ 1968 := by omega
 have k7 : (nr : Int) ≤ 123 := by omega
 have HV := Lib.hid hv
 clear hl hv k2 k3 k4
 have t1 : (to != 0) = false := by simp; omega
 obtain rfl : to = 0 := by omega
 have e1 : (fn == 23) = false := by simp; omega
 have e2 : (fn == 5) = false := by simp; omega
 have e3 : (fn == 6) = false := by simp; omega
 have e4 : (fn == 15) = false := by simp; omega
 have e5 : (fn == 16) = false := by simp; omega
 clear hfn hto
 go_in
 go_wp2_with (first
  | (go_at_call 98; (with_reducible refine HO.out.mono ?_); rintro e w2 ⟨rfl, hb2⟩; have hz2 := hb2.size; have hP2 := hP1.below hb2 hP1.lt; have hlt2 := hP2.lt; have hc0 : w2.cell? ⟨w.heap.size, 0, none⟩ = some (.int .i64 fn) := hP2.cell 0; have hc1 : w2.cell? ⟨w.heap.size, 1, none⟩ = some (.int .i64 addr) := hP2.cell 1; have hc2 : w2.cell? ⟨w.heap.size, 2, none⟩ = some (.int .i64 count) := hP2.cell 2; have hc3 : w2.cell? ⟨w.heap.size, 3, none⟩ = some (.int .i64 0) := hP2.cell 3; have hc4 : w2.cell? ⟨w.heap.size, 4, none⟩ = some (.slice A nb cb) := hP2.cell 4; have hc5 : w2.cell? ⟨w.heap.size, 5, none⟩ = some (.slice R nr cr) := hP2.cell 5)
  | (go_at_call 99; (with_reducible refine (fits_own _ _ _).mono ?_); rintro e w' ⟨rfl, rfl⟩))
 all_goals
  go_ret
  refine ⟨?_, ((hb1.trans (hb2.mono (by omega))).alloc (by omega) _)⟩
  first
   | (rw [show v = true from HV.out.trans (decide_eq_true (by omega))]; rfl)
   | (rw [show v = false from HV.out.trans (decide_eq_false (by omega))]; rfl)
theorem check_own (u : Value) (p : AskP) (w : World) (hT : LimT w) (hu : AskAt w u p) : Calls Tryd.prog 61 #[u] w (CheckPost w (mayP p)) := by
 obtain ⟨A, nb, cb, R, nr, cr, rfl, hA, hR⟩ := hu
 obtain ⟨fn, addr, count, to, bits, regs⟩ := p
 obtain rfl : bits.length = nb := hA.1
 obtain rfl : regs.length = nr := hR.1
 clear hA hR
 dsimp only
 cases hl : limP fn with
 | none => rw [may_no _ _ _ _ _ _ hl]; exact check_none fn addr count to bits regs A _ cb R _ cr w hT hl
 | some l =>
  obtain ⟨r, b, g⟩ := l
  rw [may_some _ _ _ _ _ _ r b g hl]
  have hlr := (lim_range hl).2.2.2
  cases h1 : (fitP count r && fitP (bits.length : Int) b && fitP (regs.length : Int) g && (decide (to = 0) || decide (fn = 23))) with
  | false =>
   have e : (fitP count r && fitP (bits.length : Int) b && fitP (regs.length : Int) g && placeP ⟨fn, addr, count, to, bits, regs⟩) = false := by
    unfold placeP
    dsimp only
    revert h1
    cases fitP count r <;> cases fitP (bits.length : Int) b <;> cases fitP (regs.length : Int) g <;> cases decide (to = 0) <;> cases decide (fn = 23) <;> simp
   rw [e]
   exact check_early fn addr count to bits regs A _ cb R _ cr w hT r b g hl h1
  | true =>
   simp only [Bool.and_eq_true, Bool.or_eq_true, decide_eq_true_eq] at h1
   obtain ⟨⟨⟨f1, f2⟩, f3⟩, hto⟩ := h1
   rw [f1, f2, f3]
   simp only [Bool.and_self, Bool.true_and]
   have hv (lg more : Int) (e1 : longP ⟨fn, addr, count, to, bits, regs⟩ = lg) (e2 : more = if fn = 23 then (regs.length : Int) else 0) : placeP ⟨fn, addr, count, to, bits, regs⟩ = decide ((0 ≤ addr ∧ 0 ≤ to ∧ addr ≤ 65535 ∧ to ≤ 65535) ∧ addr + lg ≤ 65536 ∧ to + more ≤ 65536) := by
    unfold placeP
    rw [e1]
    dsimp only
    rw [Bool.eq_iff_iff]
    simp only [Bool.and_eq_true, Bool.or_eq_true, decide_eq_true_eq]
    by_cases e : fn = 23
    ·rw [if_pos e] at e2
     omega
    ·rw [if_neg e] at e2
     omega
   rcases hlr with e | e | e | e | e | e | e | e | e
   ·exact check_x fn addr count to bits regs A _ cb R _ cr w hT r b g hl f1 f2 f3 hto (by omega) _ (hv _ _ (by unfold longP; dsimp only; rw [if_neg (by omega)]) (by rw [if_neg (by omega)]))
   ·exact check_x fn addr count to bits regs A _ cb R _ cr w hT r b g hl f1 f2 f3 hto (by omega) _ (hv _ _ (by unfold longP; dsimp only; rw [if_neg (by omega)]) (by rw [if_neg (by omega)]))
   ·exact check_x fn addr count to bits regs A _ cb R _ cr w hT r b g hl f1 f2 f3 hto (by omega) _ (hv _ _ (by unfold longP; dsimp only; rw [if_neg (by omega)]) (by rw [if_neg (by omega)]))
   ·exact check_x fn addr count to bits regs A _ cb R _ cr w hT r b g hl f1 f2 f3 hto (by omega) _ (hv _ _ (by unfold longP; dsimp only; rw [if_neg (by omega)]) (by rw [if_neg (by omega)]))
   ·exact check_5 fn addr count to bits regs A _ cb R _ cr w hT r b g hl f1 f2 f3 hto (by omega) _ (hv _ _ (by unfold longP; dsimp only; rw [if_pos (by omega)]) (by rw [if_neg (by omega)]))
   ·exact check_6 fn addr count to bits regs A _ cb R _ cr w hT r b g hl f1 f2 f3 hto (by omega) _ (hv _ _ (by unfold longP; dsimp only; rw [if_pos (by omega)]) (by rw [if_neg (by omega)]))
   ·exact check_15 fn addr count to bits regs A _ cb R _ cr w hT r b g hl f1 f2 f3 hto (by omega) _ (hv _ _ (by unfold longP; dsimp only; rw [if_pos (by omega)]) (by rw [if_neg (by omega)]))
   ·exact check_16 fn addr count to bits regs A _ cb R _ cr w hT r b g hl f1 f2 f3 hto (by omega) _ (hv _ _ (by unfold longP; dsimp only; rw [if_pos (by omega)]) (by rw [if_neg (by omega)]))
   ·exact check_23 fn addr count to bits regs A _ cb R _ cr w hT r b g hl f1 f2 f3 hto (by omega) _ (hv _ _ (by unfold longP; dsimp only; rw [if_neg (by omega)]) (by rw [if_pos (by omega)]))
end Go.Proofs.YtcipleanckeoaaaDoor
