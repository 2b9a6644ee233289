/- The law PduAsks. -/
import Derived.Test.YtflbiichdjhaeaaDoorPduReadRef
import Derived.Test.YtflbiichdjhaeaaDoorPduSame
import Derived.Test.YtflbiichdjhaeaaDoorPduBytes
import Derived.Test.YtflbiichdjhaeaaDoorPduRefBytes
import Derived.Test.YtflbiichdjhaeaaDoorPduRead
import Derived.Test.YtflbiichdjhaeaaDoorPduStr
import Derived.Test.YtflbiichdjhaeaaDoorPduBit
import Derived.Test.YtflbiichdjhaeaaDoorPduConv
import Derived.Test.YtflbiichdjhaeaaDoorQuiet
namespace Go.Proofs.YtflbiichdjhaeaaDoor
open Go.RowKit
set_option linter.unusedVariables false
set_option maxRecDepth 100000 in
set_option maxHeartbeats 4000000 in
theorem asks_g2 (a : AskP) (b : List Int) (A2 : Option Addr) (n2 c2 : Nat) (A3 : Option Addr) (n3 c3 : Nat) (B : Option Addr) (n c : Nat) (w : World) (hT : LimT w)
    (h2 : SlB w w.heap.size A2 n2 c2 a.bits) (h3 : SlI w w.heap.size .u16 A3 n3 c3 a.regs) (h3i : Reg16 a.regs) (hB : SlI w w.heap.size .u8 B n c b) (hb8 : Byte8 b) (e2 : (decide (2500 < n2) || decide (300 < n3)) = true) :
    Calls Tryd.prog 6 #[.agg #[.int .i64 a.fn, .int .i64 a.addr, .int .i64 a.count, .int .i64 a.to, .slice A2 n2 c2, .slice A3 n3 c3], .slice B n c] w fun e w' => e = .returned (.bool true) ∧ Below w.heap.size w w' := by
  obtain ⟨w2, hw2⟩ : ∃ w2, w.alloc (.cells #[.int .i64 a.fn, .int .i64 a.addr, .int .i64 a.count, .int .i64 a.to, .slice A2 n2 c2, .slice A3 n3 c3] 25) = w2 := ⟨_, rfl⟩
  have hb2 : Below w.heap.size w w2 := by rw [← hw2]; exact (Below.refl _ w).alloc (Nat.le_refl _) _
  have hP2 : Held w2 w.heap.size 25 #[.int .i64 a.fn, .int .i64 a.addr, .int .i64 a.count, .int .i64 a.to, .slice A2 n2 c2, .slice A3 n3 c3] := by rw [← hw2]; exact Held.new w _ _
  have HG2 := Lib.hid (fun X => great_any A2 A3 n2 c2 n3 c3 X)
  have hu := Tryd.underlying25
  have hsz : (Tryd.prog.info? 25).map (·.size) = some 6 := by kernel_rfl
  have hb2w := hb2
  clear hT h2 h3 h3i hB hb8
  rw [e2] at HG2
  clear e2
  go_in
  go_upto_region 1 with (fail)
  have p2_4 : w2.cell? ⟨w.heap.size, 4, none⟩ = some (.slice A2 n2 c2) := hP2.cell 4
  have p2_5 : w2.cell? ⟨w.heap.size, 5, none⟩ = some (.slice A3 n3 c3) := hP2.cell 5
  go_wp2_with ((go_at_call 10; (with_reducible refine (HG2.out _).mono ?_); rintro e w' ⟨rfl, rfl⟩))
  go_ret
  exact ⟨rfl, hb2w⟩
set_option maxRecDepth 100000 in
set_option maxHeartbeats 4000000 in
theorem asks_g5 (a : AskP) (b : List Int) (A2 : Option Addr) (n2 c2 : Nat) (A3 : Option Addr) (n3 c3 : Nat) (B : Option Addr) (n c : Nat) (w : World) (hT : LimT w)
    (h2 : SlB w w.heap.size A2 n2 c2 a.bits) (h3 : SlI w w.heap.size .u16 A3 n3 c3 a.regs) (h3i : Reg16 a.regs) (hB : SlI w w.heap.size .u8 B n c b) (hb8 : Byte8 b) (e2 : (decide (2500 < n2) || decide (300 < n3)) = false) (hn3 : (300 : Int) < (n : Int)) :
    Calls Tryd.prog 6 #[.agg #[.int .i64 a.fn, .int .i64 a.addr, .int .i64 a.count, .int .i64 a.to, .slice A2 n2 c2, .slice A3 n3 c3], .slice B n c] w fun e w' => e = .returned (.bool true) ∧ Below w.heap.size w w' := by
  obtain ⟨w2, hw2⟩ : ∃ w2, w.alloc (.cells #[.int .i64 a.fn, .int .i64 a.addr, .int .i64 a.count, .int .i64 a.to, .slice A2 n2 c2, .slice A3 n3 c3] 25) = w2 := ⟨_, rfl⟩
  have hb2 : Below w.heap.size w w2 := by rw [← hw2]; exact (Below.refl _ w).alloc (Nat.le_refl _) _
  have hP2 : Held w2 w.heap.size 25 #[.int .i64 a.fn, .int .i64 a.addr, .int .i64 a.count, .int .i64 a.to, .slice A2 n2 c2, .slice A3 n3 c3] := by rw [← hw2]; exact Held.new w _ _
  have HG2 := Lib.hid (fun X => great_any A2 A3 n2 c2 n3 c3 X)
  have hu := Tryd.underlying25
  have hsz : (Tryd.prog.info? 25).map (·.size) = some 6 := by kernel_rfl
  have hb2w := hb2
  clear hT h2 h3 h3i hB hb8
  rw [e2] at HG2
  clear e2
  go_in
  go_upto_region 1 with (fail)
  have p2_4 : w2.cell? ⟨w.heap.size, 4, none⟩ = some (.slice A2 n2 c2) := hP2.cell 4
  have p2_5 : w2.cell? ⟨w.heap.size, 5, none⟩ = some (.slice A3 n3 c3) := hP2.cell 5
  go_wp2_with ((go_at_call 10; (with_reducible refine (HG2.out _).mono ?_); rintro e w' ⟨rfl, rfl⟩))
  go_ret
  exact ⟨rfl, hb2w⟩
set_option maxRecDepth 100000 in
set_option maxHeartbeats 4000000 in
theorem asks_true (a : AskP) (b : List Int) (A2 : Option Addr) (n2 c2 : Nat) (A3 : Option Addr) (n3 c3 : Nat) (B : Option Addr) (n c : Nat) (w : World) (hT : LimT w)
    (h2 : SlB w w.heap.size A2 n2 c2 a.bits) (h3 : SlI w w.heap.size .u16 A3 n3 c3 a.regs) (h3i : Reg16 a.regs) (hB : SlI w w.heap.size .u8 B n c b) (hb8 : Byte8 b) (L : List Int) (mb : Bool) (hmb : mayP a = mb) (ea : Int) (hLA : askL a = L) (hea : errV (mayP a) = ea) (p1 : AskP) (pc pe : Int) (hp1 : readP b = (p1, pc, pe)) (hk2 : n2 ≤ 2500) (hk3 : n3 ≤ 300) (hkn : n ≤ 300) (hE1 : mb = true) (hE2 : ea = 0) :
    Calls Tryd.prog 6 #[.agg #[.int .i64 a.fn, .int .i64 a.addr, .int .i64 a.count, .int .i64 a.to, .slice A2 n2 c2, .slice A3 n3 c3], .slice B n c] w fun e w' => e = .returned (.bool true) ∧ Below w.heap.size w w' := by
  obtain ⟨w2, hw2⟩ : ∃ w2, w.alloc (.cells #[.int .i64 a.fn, .int .i64 a.addr, .int .i64 a.count, .int .i64 a.to, .slice A2 n2 c2, .slice A3 n3 c3] 25) = w2 := ⟨_, rfl⟩
  have hb2 : Below w.heap.size w w2 := by rw [← hw2]; exact (Below.refl _ w).alloc (Nat.le_refl _) _
  have hP2 : Held w2 w.heap.size 25 #[.int .i64 a.fn, .int .i64 a.addr, .int .i64 a.count, .int .i64 a.to, .slice A2 n2 c2, .slice A3 n3 c3] := by rw [← hw2]; exact Held.new w _ _
  have HG2 := Lib.hid (fun X => great_any A2 A3 n2 c2 n3 c3 X)
  have hu := Tryd.underlying25
  have hsz : (Tryd.prog.info? 25).map (·.size) = some 6 := by kernel_rfl
  have HMY : Hid (∀ X, Below w.heap.size w X → Calls Tryd.prog 18 #[.agg #[.int .i64 a.fn, .int .i64 a.addr, .int .i64 a.count, .int .i64 a.to, .slice A2 n2 c2, .slice A3 n3 c3]] X fun e w' => e = .returned (.bool mb) ∧ Below X.heap.size X w') := Lib.hid (fun X h => by rw [← hmb]; exact may_any (.agg #[.int .i64 a.fn, .int .i64 a.addr, .int .i64 a.count, .int .i64 a.to, .slice A2 n2 c2, .slice A3 n3 c3]) a X ⟨A2, n2, c2, A3, n3, c3, rfl, h2.up h, h3.up h⟩)
  have HCK : Hid (∀ X, Below w.heap.size w X → Calls Tryd.prog 19 #[.agg #[.int .i64 a.fn, .int .i64 a.addr, .int .i64 a.count, .int .i64 a.to, .slice A2 n2 c2, .slice A3 n3 c3]] X fun e w' => e = .returned (.int .i64 ea) ∧ Below X.heap.size X w') := Lib.hid (fun X h => by rw [← hea]; exact check_own (.agg #[.int .i64 a.fn, .int .i64 a.addr, .int .i64 a.count, .int .i64 a.to, .slice A2 n2 c2, .slice A3 n3 c3]) a X (hT.up h) ⟨A2, n2, c2, A3, n3, c3, rfl, h2.up h, h3.up h⟩)
  have HBY : Hid (∀ X, Below w.heap.size w X → Calls Tryd.prog 11 #[.agg #[.int .i64 a.fn, .int .i64 a.addr, .int .i64 a.count, .int .i64 a.to, .slice A2 n2 c2, .slice A3 n3 c3]] X fun e w' => ∃ A n c, e = .returned (.tuple #[.slice A n c, .int .i64 ea]) ∧ SlI w' w'.heap.size .u8 A n c L ∧ Below X.heap.size X w') := Lib.hid (fun X h => by rw [← hLA, ← hea]; exact bytes_own (.agg #[.int .i64 a.fn, .int .i64 a.addr, .int .i64 a.count, .int .i64 a.to, .slice A2 n2 c2, .slice A3 n3 c3]) a X (hT.up h) ⟨A2, n2, c2, A3, n3, c3, rfl, h2.up h, h3.up h⟩ h3i)
  have HBR : Hid (∀ X, Below w.heap.size w X → Calls Tryd.prog 20 #[.agg #[.int .i64 a.fn, .int .i64 a.addr, .int .i64 a.count, .int .i64 a.to, .slice A2 n2 c2, .slice A3 n3 c3]] X fun e w' => ∃ A n c, e = .returned (.tuple #[.slice A n c, .int .i64 ea]) ∧ SlI w' w'.heap.size .u8 A n c L ∧ Below X.heap.size X w') := Lib.hid (fun X h => by rw [← hLA, ← hea]; exact bytes_ref (.agg #[.int .i64 a.fn, .int .i64 a.addr, .int .i64 a.count, .int .i64 a.to, .slice A2 n2 c2, .slice A3 n3 c3]) a X ⟨A2, n2, c2, A3, n3, c3, rfl, h2.up h, h3.up h⟩ h3i)
  have HRB : Hid (∀ X, Below w.heap.size w X → Calls Tryd.prog 21 #[.slice B n c] X fun e w' => ∃ v, e = .returned (.tuple #[v, .int .i64 pc, .int .i64 pe]) ∧ AskAt w' v p1 ∧ Below X.heap.size X w') := Lib.hid (fun X h => by have h1 := read_own B n c b X (hT.up h) (hB.up h) hb8; rw [hp1] at h1; exact h1)
  have HRR : Hid (∀ X, Below w.heap.size w X → Calls Tryd.prog 22 #[.slice B n c] X fun e w' => ∃ v, e = .returned (.tuple #[v, .int .i64 pc, .int .i64 pe]) ∧ AskAt w' v p1 ∧ Below X.heap.size X w') := Lib.hid (fun X h => by have h1 := read_ref B n c b X (hB.up h) hb8; rw [hp1] at h1; exact h1)
  have hn3 : ¬ (300 : Int) < (n : Int) := by omega
  have e2 : (decide (2500 < n2) || decide (300 < n3)) = false := by simp; omega
  rw [e2] at HG2
  have hb2w := hb2
  clear e2 hmb hLA hea hp1 hT h2 h3 h3i hB hb8 hk2 hk3 hkn
  subst hE1 hE2
  go_in
  go_upto_region 1 with (fail)
  have p2_4 : w2.cell? ⟨w.heap.size, 4, none⟩ = some (.slice A2 n2 c2) := hP2.cell 4
  have p2_5 : w2.cell? ⟨w.heap.size, 5, none⟩ = some (.slice A3 n3 c3) := hP2.cell 5
  go_wp2_with (first | ((go_at_call 10; (with_reducible refine (HG2.out _).mono ?_); rintro e w' ⟨rfl, rfl⟩)) | ((with_reducible refine at_loadT 25 2 ?_); refine wpList_load_rowG rfl 25 (.tmp 2) rfl w.heap.size rfl 25 _ _ hP2 hu rfl hsz ?_))
  refine (HMY.out w2 hb2w).mono ?_
  rintro e w3 ⟨rfl, hb3⟩
  have hb3w := hb2w.trans (hb3.mono hb2w.size)
  have hP3 := hP2.below hb3 hP2.lt
  go_wp2_with ((with_reducible refine at_loadT 25 2 ?_); refine wpList_load_rowG rfl 25 (.tmp 2) rfl w.heap.size rfl 25 _ _ hP3 hu rfl hsz ?_)
  refine (HCK.out w3 hb3w).mono ?_
  rintro e w4 ⟨rfl, hb4⟩
  have hb4w := hb3w.trans (hb4.mono hb3w.size)
  have hP4 := hP3.below hb4 hP3.lt
  go_wp2_with ((with_reducible refine at_loadT 25 2 ?_); refine wpList_load_rowG rfl 25 (.tmp 2) rfl w.heap.size rfl 25 _ _ hP4 hu rfl hsz ?_)
  refine (HBY.out w4 hb4w).mono ?_
  rintro e w5 ⟨Ax, nx, cx, rfl, sx, hb5⟩
  have hb5w := hb4w.trans (hb5.mono hb4w.size)
  have hP5 := hP4.below hb5 hP4.lt
  go_wp2_with ((with_reducible refine at_loadT 25 2 ?_); refine wpList_load_rowG rfl 25 (.tmp 2) rfl w.heap.size rfl 25 _ _ hP5 hu rfl hsz ?_)
  refine (HBR.out w5 hb5w).mono ?_
  rintro e w6 ⟨Ay, ny, cy, rfl, sy, hb6⟩
  have hb6w := hb5w.trans (hb6.mono hb5w.size)
  have hP6 := hP5.below hb6 hP5.lt
  go_wp2_with fail
  refine (HRB.out w6 hb6w).mono ?_
  rintro e w7 ⟨v1, rfl, ⟨A6, n6, c6, A7, n7, c7, rfl, s6, s7⟩, hb7⟩
  have hb7w := hb6w.trans (hb7.mono hb6w.size)
  have hP7 := hP6.below hb7 hP6.lt
  go_upto_region 8 with (fail)
  obtain ⟨w8, hw8⟩ : ∃ W, w7.alloc (.cells #[.int .i64 p1.fn, .int .i64 p1.addr, .int .i64 p1.count, .int .i64 p1.to, .slice A6 n6 c6, .slice A7 n7 c7] 25) = W := ⟨_, rfl⟩
  have hb8 : Below w7.heap.size w7 w8 := by rw [← hw8]; exact (Below.refl _ _).alloc (Nat.le_refl _) _
  have hb8w := hb7w.trans (hb8.mono hb7w.size)
  have hX8 : Held w8 w7.heap.size 25 #[.int .i64 p1.fn, .int .i64 p1.addr, .int .i64 p1.count, .int .i64 p1.to, .slice A6 n6 c6, .slice A7 n7 c7] := by rw [← hw8]; exact Held.new _ _ _
  rw [hw8]
  clear hw8
  obtain ⟨gX, hgX⟩ : ∃ x, w7.heap.size = x := ⟨_, rfl⟩
  rw [hgX] at hX8
  rw [hgX]
  clear hgX
  go_wp2_with fail
  refine (HRR.out w8 hb8w).mono ?_
  rintro e w9 ⟨v2, rfl, ⟨A8, n8, c8, A9, n9, c9, rfl, s8, s9⟩, hb9⟩
  have hb9w := hb8w.trans (hb9.mono hb8w.size)
  have hX9 := hX8.below hb9 hX8.lt
  go_upto_region 9 with (fail)
  obtain ⟨w10, hw10⟩ : ∃ W, w9.alloc (.cells #[.int .i64 p1.fn, .int .i64 p1.addr, .int .i64 p1.count, .int .i64 p1.to, .slice A8 n8 c8, .slice A9 n9 c9] 25) = W := ⟨_, rfl⟩
  have hb10 : Below w9.heap.size w9 w10 := by rw [← hw10]; exact (Below.refl _ _).alloc (Nat.le_refl _) _
  have hb10w := hb9w.trans (hb10.mono hb9w.size)
  have hY10 : Held w10 w9.heap.size 25 #[.int .i64 p1.fn, .int .i64 p1.addr, .int .i64 p1.count, .int .i64 p1.to, .slice A8 n8 c8, .slice A9 n9 c9] := by rw [← hw10]; exact Held.new _ _ _
  rw [hw10]
  clear hw10
  obtain ⟨gY, hgY⟩ : ∃ x, w9.heap.size = x := ⟨_, rfl⟩
  rw [hgY] at hY10
  rw [hgY]
  clear hgY
  have hX10 := hX9.below hb10 hX9.lt
  obtain ⟨T, hT⟩ : ∃ T, strOfNums L = T := ⟨_, rfl⟩
  have HC1 : Hid (∀ W, Below w10.heap.size w10 W → (convert 28 9 (.slice Ax nx cx)).run Tryd.prog W = .ok (.string T) W) := Lib.hid (fun W h => by rw [← hT]; exact conv_sli ((((((sx.up hb6).up hb7).up hb8).up hb9).up hb10).up h))
  have HC2 : Hid (∀ W, Below w10.heap.size w10 W → (convert 28 9 (.slice Ay ny cy)).run Tryd.prog W = .ok (.string T) W) := Lib.hid (fun W h => by rw [← hT]; exact conv_sli (((((sy.up hb7).up hb8).up hb9).up hb10).up h))
  have HSB : Hid (∀ X, Below w10.heap.size w10 X → Calls Tryd.prog 23 #[.agg #[.int .i64 p1.fn, .int .i64 p1.addr, .int .i64 p1.count, .int .i64 p1.to, .slice A6 n6 c6, .slice A7 n7 c7], .agg #[.int .i64 p1.fn, .int .i64 p1.addr, .int .i64 p1.count, .int .i64 p1.to, .slice A8 n8 c8, .slice A9 n9 c9]] X fun e w' => e = .returned (.bool true) ∧ Below X.heap.size X w') := Lib.hid (fun X h => by
    have := same_ref (.agg #[.int .i64 p1.fn, .int .i64 p1.addr, .int .i64 p1.count, .int .i64 p1.to, .slice A6 n6 c6, .slice A7 n7 c7]) (.agg #[.int .i64 p1.fn, .int .i64 p1.addr, .int .i64 p1.count, .int .i64 p1.to, .slice A8 n8 c8, .slice A9 n9 c9]) p1 p1 X ⟨A6, n6, c6, A7, n7, c7, rfl, (((s6.up hb8).up hb9).up hb10).up h, (((s7.up hb8).up hb9).up hb10).up h⟩ ⟨A8, n8, c8, A9, n9, c9, rfl, (s8.up hb10).up h, (s9.up hb10).up h⟩
    rw [show decide (p1 = p1) = true from decide_eq_true rfl] at this
    exact this)
  clear hT sx sy s6 s7 s8 s9 HMY HCK HBY HBR HRB HRR
  have k1 := HC1.out w10 (Below.refl _ _)
  have k2 := HC2.out w10 (Below.refl _ _)
  go_wp2_with (first | ((with_reducible refine at_loadT 25 11 ?_); refine wpList_load_rowG rfl 25 (.tmp 11) rfl gX rfl 25 _ _ hX10 hu rfl hsz ?_) | ((with_reducible refine at_loadT 25 14 ?_); refine wpList_load_rowG rfl 25 (.tmp 14) rfl gY rfl 25 _ _ hY10 hu rfl hsz ?_))
  refine (HSB.out w10 (Below.refl _ _)).mono ?_
  rintro e wn ⟨rfl, hn⟩
  go_wp2_with fail
  go_ret
  exact ⟨rfl, hb10w.trans (hn.mono hb10w.size)⟩
set_option maxRecDepth 100000 in
set_option maxHeartbeats 4000000 in
theorem asks_false (a : AskP) (b : List Int) (A2 : Option Addr) (n2 c2 : Nat) (A3 : Option Addr) (n3 c3 : Nat) (B : Option Addr) (n c : Nat) (w : World) (hT : LimT w)
    (h2 : SlB w w.heap.size A2 n2 c2 a.bits) (h3 : SlI w w.heap.size .u16 A3 n3 c3 a.regs) (h3i : Reg16 a.regs) (hB : SlI w w.heap.size .u8 B n c b) (hb8 : Byte8 b) (L : List Int) (mb : Bool) (hmb : mayP a = mb) (ea : Int) (hLA : askL a = L) (hea : errV (mayP a) = ea) (p1 : AskP) (pc pe : Int) (hp1 : readP b = (p1, pc, pe)) (hk2 : n2 ≤ 2500) (hk3 : n3 ≤ 300) (hkn : n ≤ 300) (hE1 : mb = false) (hE2 : ea = 190) :
    Calls Tryd.prog 6 #[.agg #[.int .i64 a.fn, .int .i64 a.addr, .int .i64 a.count, .int .i64 a.to, .slice A2 n2 c2, .slice A3 n3 c3], .slice B n c] w fun e w' => e = .returned (.bool true) ∧ Below w.heap.size w w' := by
  obtain ⟨w2, hw2⟩ : ∃ w2, w.alloc (.cells #[.int .i64 a.fn, .int .i64 a.addr, .int .i64 a.count, .int .i64 a.to, .slice A2 n2 c2, .slice A3 n3 c3] 25) = w2 := ⟨_, rfl⟩
  have hb2 : Below w.heap.size w w2 := by rw [← hw2]; exact (Below.refl _ w).alloc (Nat.le_refl _) _
  have hP2 : Held w2 w.heap.size 25 #[.int .i64 a.fn, .int .i64 a.addr, .int .i64 a.count, .int .i64 a.to, .slice A2 n2 c2, .slice A3 n3 c3] := by rw [← hw2]; exact Held.new w _ _
  have HG2 := Lib.hid (fun X => great_any A2 A3 n2 c2 n3 c3 X)
  have hu := Tryd.underlying25
  have hsz : (Tryd.prog.info? 25).map (·.size) = some 6 := by kernel_rfl
  have HMY : Hid (∀ X, Below w.heap.size w X → Calls Tryd.prog 18 #[.agg #[.int .i64 a.fn, .int .i64 a.addr, .int .i64 a.count, .int .i64 a.to, .slice A2 n2 c2, .slice A3 n3 c3]] X fun e w' => e = .returned (.bool mb) ∧ Below X.heap.size X w') := Lib.hid (fun X h => by rw [← hmb]; exact may_any (.agg #[.int .i64 a.fn, .int .i64 a.addr, .int .i64 a.count, .int .i64 a.to, .slice A2 n2 c2, .slice A3 n3 c3]) a X ⟨A2, n2, c2, A3, n3, c3, rfl, h2.up h, h3.up h⟩)
  have HCK : Hid (∀ X, Below w.heap.size w X → Calls Tryd.prog 19 #[.agg #[.int .i64 a.fn, .int .i64 a.addr, .int .i64 a.count, .int .i64 a.to, .slice A2 n2 c2, .slice A3 n3 c3]] X fun e w' => e = .returned (.int .i64 ea) ∧ Below X.heap.size X w') := Lib.hid (fun X h => by rw [← hea]; exact check_own (.agg #[.int .i64 a.fn, .int .i64 a.addr, .int .i64 a.count, .int .i64 a.to, .slice A2 n2 c2, .slice A3 n3 c3]) a X (hT.up h) ⟨A2, n2, c2, A3, n3, c3, rfl, h2.up h, h3.up h⟩)
  have HBY : Hid (∀ X, Below w.heap.size w X → Calls Tryd.prog 11 #[.agg #[.int .i64 a.fn, .int .i64 a.addr, .int .i64 a.count, .int .i64 a.to, .slice A2 n2 c2, .slice A3 n3 c3]] X fun e w' => ∃ A n c, e = .returned (.tuple #[.slice A n c, .int .i64 ea]) ∧ SlI w' w'.heap.size .u8 A n c L ∧ Below X.heap.size X w') := Lib.hid (fun X h => by rw [← hLA, ← hea]; exact bytes_own (.agg #[.int .i64 a.fn, .int .i64 a.addr, .int .i64 a.count, .int .i64 a.to, .slice A2 n2 c2, .slice A3 n3 c3]) a X (hT.up h) ⟨A2, n2, c2, A3, n3, c3, rfl, h2.up h, h3.up h⟩ h3i)
  have HBR : Hid (∀ X, Below w.heap.size w X → Calls Tryd.prog 20 #[.agg #[.int .i64 a.fn, .int .i64 a.addr, .int .i64 a.count, .int .i64 a.to, .slice A2 n2 c2, .slice A3 n3 c3]] X fun e w' => ∃ A n c, e = .returned (.tuple #[.slice A n c, .int .i64 ea]) ∧ SlI w' w'.heap.size .u8 A n c L ∧ Below X.heap.size X w') := Lib.hid (fun X h => by rw [← hLA, ← hea]; exact bytes_ref (.agg #[.int .i64 a.fn, .int .i64 a.addr, .int .i64 a.count, .int .i64 a.to, .slice A2 n2 c2, .slice A3 n3 c3]) a X ⟨A2, n2, c2, A3, n3, c3, rfl, h2.up h, h3.up h⟩ h3i)
  have HRB : Hid (∀ X, Below w.heap.size w X → Calls Tryd.prog 21 #[.slice B n c] X fun e w' => ∃ v, e = .returned (.tuple #[v, .int .i64 pc, .int .i64 pe]) ∧ AskAt w' v p1 ∧ Below X.heap.size X w') := Lib.hid (fun X h => by have h1 := read_own B n c b X (hT.up h) (hB.up h) hb8; rw [hp1] at h1; exact h1)
  have HRR : Hid (∀ X, Below w.heap.size w X → Calls Tryd.prog 22 #[.slice B n c] X fun e w' => ∃ v, e = .returned (.tuple #[v, .int .i64 pc, .int .i64 pe]) ∧ AskAt w' v p1 ∧ Below X.heap.size X w') := Lib.hid (fun X h => by have h1 := read_ref B n c b X (hB.up h) hb8; rw [hp1] at h1; exact h1)
  have hn3 : ¬ (300 : Int) < (n : Int) := by omega
  have e2 : (decide (2500 < n2) || decide (300 < n3)) = false := by simp; omega
  rw [e2] at HG2
  have hb2w := hb2
  clear e2 hmb hLA hea hp1 hT h2 h3 h3i hB hb8 hk2 hk3 hkn
  subst hE1 hE2
  go_in
  go_upto_region 1 with (fail)
  have p2_4 : w2.cell? ⟨w.heap.size, 4, none⟩ = some (.slice A2 n2 c2) := hP2.cell 4
  have p2_5 : w2.cell? ⟨w.heap.size, 5, none⟩ = some (.slice A3 n3 c3) := hP2.cell 5
  go_wp2_with (first | ((go_at_call 10; (with_reducible refine (HG2.out _).mono ?_); rintro e w' ⟨rfl, rfl⟩)) | ((with_reducible refine at_loadT 25 2 ?_); refine wpList_load_rowG rfl 25 (.tmp 2) rfl w.heap.size rfl 25 _ _ hP2 hu rfl hsz ?_))
  refine (HMY.out w2 hb2w).mono ?_
  rintro e w3 ⟨rfl, hb3⟩
  have hb3w := hb2w.trans (hb3.mono hb2w.size)
  have hP3 := hP2.below hb3 hP2.lt
  go_wp2_with ((with_reducible refine at_loadT 25 2 ?_); refine wpList_load_rowG rfl 25 (.tmp 2) rfl w.heap.size rfl 25 _ _ hP3 hu rfl hsz ?_)
  refine (HCK.out w3 hb3w).mono ?_
  rintro e w4 ⟨rfl, hb4⟩
  have hb4w := hb3w.trans (hb4.mono hb3w.size)
  have hP4 := hP3.below hb4 hP3.lt
  go_wp2_with ((with_reducible refine at_loadT 25 2 ?_); refine wpList_load_rowG rfl 25 (.tmp 2) rfl w.heap.size rfl 25 _ _ hP4 hu rfl hsz ?_)
  refine (HBY.out w4 hb4w).mono ?_
  rintro e w5 ⟨Ax, nx, cx, rfl, sx, hb5⟩
  have hb5w := hb4w.trans (hb5.mono hb4w.size)
  have hP5 := hP4.below hb5 hP4.lt
  go_wp2_with ((with_reducible refine at_loadT 25 2 ?_); refine wpList_load_rowG rfl 25 (.tmp 2) rfl w.heap.size rfl 25 _ _ hP5 hu rfl hsz ?_)
  refine (HBR.out w5 hb5w).mono ?_
  rintro e w6 ⟨Ay, ny, cy, rfl, sy, hb6⟩
  have hb6w := hb5w.trans (hb6.mono hb5w.size)
  have hP6 := hP5.below hb6 hP5.lt
  go_wp2_with fail
  refine (HRB.out w6 hb6w).mono ?_
  rintro e w7 ⟨v1, rfl, ⟨A6, n6, c6, A7, n7, c7, rfl, s6, s7⟩, hb7⟩
  have hb7w := hb6w.trans (hb7.mono hb6w.size)
  have hP7 := hP6.below hb7 hP6.lt
  go_upto_region 8 with (fail)
  obtain ⟨w8, hw8⟩ : ∃ W, w7.alloc (.cells #[.int .i64 p1.fn, .int .i64 p1.addr, .int .i64 p1.count, .int .i64 p1.to, .slice A6 n6 c6, .slice A7 n7 c7] 25) = W := ⟨_, rfl⟩
  have hb8 : Below w7.heap.size w7 w8 := by rw [← hw8]; exact (Below.refl _ _).alloc (Nat.le_refl _) _
  have hb8w := hb7w.trans (hb8.mono hb7w.size)
  have hX8 : Held w8 w7.heap.size 25 #[.int .i64 p1.fn, .int .i64 p1.addr, .int .i64 p1.count, .int .i64 p1.to, .slice A6 n6 c6, .slice A7 n7 c7] := by rw [← hw8]; exact Held.new _ _ _
  rw [hw8]
  clear hw8
  obtain ⟨gX, hgX⟩ : ∃ x, w7.heap.size = x := ⟨_, rfl⟩
  rw [hgX] at hX8
  rw [hgX]
  clear hgX
  go_wp2_with fail
  refine (HRR.out w8 hb8w).mono ?_
  rintro e w9 ⟨v2, rfl, ⟨A8, n8, c8, A9, n9, c9, rfl, s8, s9⟩, hb9⟩
  have hb9w := hb8w.trans (hb9.mono hb8w.size)
  have hX9 := hX8.below hb9 hX8.lt
  go_upto_region 9 with (fail)
  obtain ⟨w10, hw10⟩ : ∃ W, w9.alloc (.cells #[.int .i64 p1.fn, .int .i64 p1.addr, .int .i64 p1.count, .int .i64 p1.to, .slice A8 n8 c8, .slice A9 n9 c9] 25) = W := ⟨_, rfl⟩
  have hb10 : Below w9.heap.size w9 w10 := by rw [← hw10]; exact (Below.refl _ _).alloc (Nat.le_refl _) _
  have hb10w := hb9w.trans (hb10.mono hb9w.size)
  have hY10 : Held w10 w9.heap.size 25 #[.int .i64 p1.fn, .int .i64 p1.addr, .int .i64 p1.count, .int .i64 p1.to, .slice A8 n8 c8, .slice A9 n9 c9] := by rw [← hw10]; exact Held.new _ _ _
  rw [hw10]
  clear hw10
  obtain ⟨gY, hgY⟩ : ∃ x, w9.heap.size = x := ⟨_, rfl⟩
  rw [hgY] at hY10
  rw [hgY]
  clear hgY
  have hX10 := hX9.below hb10 hX9.lt
  obtain ⟨T, hT⟩ : ∃ T, strOfNums L = T := ⟨_, rfl⟩
  have HC1 : Hid (∀ W, Below w10.heap.size w10 W → (convert 28 9 (.slice Ax nx cx)).run Tryd.prog W = .ok (.string T) W) := Lib.hid (fun W h => by rw [← hT]; exact conv_sli ((((((sx.up hb6).up hb7).up hb8).up hb9).up hb10).up h))
  have HC2 : Hid (∀ W, Below w10.heap.size w10 W → (convert 28 9 (.slice Ay ny cy)).run Tryd.prog W = .ok (.string T) W) := Lib.hid (fun W h => by rw [← hT]; exact conv_sli (((((sy.up hb7).up hb8).up hb9).up hb10).up h))
  have HSB : Hid (∀ X, Below w10.heap.size w10 X → Calls Tryd.prog 23 #[.agg #[.int .i64 p1.fn, .int .i64 p1.addr, .int .i64 p1.count, .int .i64 p1.to, .slice A6 n6 c6, .slice A7 n7 c7], .agg #[.int .i64 p1.fn, .int .i64 p1.addr, .int .i64 p1.count, .int .i64 p1.to, .slice A8 n8 c8, .slice A9 n9 c9]] X fun e w' => e = .returned (.bool true) ∧ Below X.heap.size X w') := Lib.hid (fun X h => by
    have := same_ref (.agg #[.int .i64 p1.fn, .int .i64 p1.addr, .int .i64 p1.count, .int .i64 p1.to, .slice A6 n6 c6, .slice A7 n7 c7]) (.agg #[.int .i64 p1.fn, .int .i64 p1.addr, .int .i64 p1.count, .int .i64 p1.to, .slice A8 n8 c8, .slice A9 n9 c9]) p1 p1 X ⟨A6, n6, c6, A7, n7, c7, rfl, (((s6.up hb8).up hb9).up hb10).up h, (((s7.up hb8).up hb9).up hb10).up h⟩ ⟨A8, n8, c8, A9, n9, c9, rfl, (s8.up hb10).up h, (s9.up hb10).up h⟩
    rw [show decide (p1 = p1) = true from decide_eq_true rfl] at this
    exact this)
  clear hT sx sy s6 s7 s8 s9 HMY HCK HBY HBR HRB HRR
  have k1 := HC1.out w10 (Below.refl _ _)
  have k2 := HC2.out w10 (Below.refl _ _)
  go_wp2_with (first | ((with_reducible refine at_loadT 25 11 ?_); refine wpList_load_rowG rfl 25 (.tmp 11) rfl gX rfl 25 _ _ hX10 hu rfl hsz ?_) | ((with_reducible refine at_loadT 25 14 ?_); refine wpList_load_rowG rfl 25 (.tmp 14) rfl gY rfl 25 _ _ hY10 hu rfl hsz ?_))
  refine (HSB.out w10 (Below.refl _ _)).mono ?_
  rintro e wn ⟨rfl, hn⟩
  go_wp2_with fail
  go_ret
  exact ⟨rfl, hb10w.trans (hn.mono hb10w.size)⟩
theorem law_asks (a : AskP) (b : List Int) (A2 : Option Addr) (n2 c2 : Nat) (A3 : Option Addr) (n3 c3 : Nat) (B : Option Addr) (n c : Nat) (w : World) (hT : LimT w)
    (h2 : SlB w w.heap.size A2 n2 c2 a.bits) (h3 : SlI w w.heap.size .u16 A3 n3 c3 a.regs) (h3i : Reg16 a.regs) (hB : SlI w w.heap.size .u8 B n c b) (hb8 : Byte8 b) :
    Calls Tryd.prog 6 #[.agg #[.int .i64 a.fn, .int .i64 a.addr, .int .i64 a.count, .int .i64 a.to, .slice A2 n2 c2, .slice A3 n3 c3], .slice B n c] w fun e w' => e = .returned (.bool true) ∧ Below w.heap.size w w' := by
  by_cases k2 : 2500 < n2 ∨ 300 < n3
  · exact asks_g2 a b A2 n2 c2 A3 n3 c3 B n c w hT h2 h3 h3i hB hb8 (by simp; omega)
  by_cases k5 : 300 < n
  · exact asks_g5 a b A2 n2 c2 A3 n3 c3 B n c w hT h2 h3 h3i hB hb8 (by simp; omega) (by omega)
  obtain ⟨p1, pc, pe, hr⟩ : ∃ p2 qc qe, readP b = (p2, qc, qe) := ⟨_, _, _, rfl⟩
  cases hma : mayP a with
  | false => exact asks_false a b A2 n2 c2 A3 n3 c3 B n c w hT h2 h3 h3i hB hb8 _ _ hma _ rfl rfl p1 pc pe hr (by omega) (by omega) (by omega) rfl (by rw [hma]; rfl)
  | true => exact asks_true a b A2 n2 c2 A3 n3 c3 B n c w hT h2 h3 h3i hB hb8 _ _ hma _ rfl rfl p1 pc pe hr (by omega) (by omega) (by omega) rfl (by rw [hma]; rfl)
end Go.Proofs.YtflbiichdjhaeaaDoor
