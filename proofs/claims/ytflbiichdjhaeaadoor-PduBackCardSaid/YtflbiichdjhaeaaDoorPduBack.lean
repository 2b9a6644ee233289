/- The law PduBack: none. -/
import Derived.Test.YtflbiichdjhaeaaDoorPduAlive
import Derived.Test.YtflbiichdjhaeaaDoorPduSame
import Derived.Test.YtflbiichdjhaeaaDoorPduBytes
import Derived.Test.YtflbiichdjhaeaaDoorPduRead
import Derived.Test.YtflbiichdjhaeaaDoorQuiet
import Derived.BigQuiet
import Derived.Deep.QuietTactic
namespace Go.Proofs.YtflbiichdjhaeaaDoor
open Go.RowKit
set_option linter.unusedVariables false

set_option maxRecDepth 100000 in
set_option maxHeartbeats 4000000 in
theorem back_none_bad (a : AskP) (b : List Int) (A2 : Option Addr) (n2 c2 : Nat) (A3 : Option Addr) (n3 c3 : Nat) (B : Option Addr) (n c : Nat) (w : World) (hT : LimT w)
    (h2 : SlB w w.heap.size A2 n2 c2 a.bits) (h3 : SlI w w.heap.size .u16 A3 n3 c3 a.regs) (h3i : Reg16 a.regs) (hB : SlI w w.heap.size .u8 B n c b) (hb8 : Byte8 b) (L : List Int) (ea : Int) (hLA : askL a = L) (hea : errV (mayP a) = ea) (hL8 : Byte8 L) (p1 : AskP) (pc pe : Int) (hp1 : readP L = (p1, pc, pe))
    (p2 : AskP) (qc qe : Int) (hp2 : readP b = (p2, qc, qe)) (hq8 : Reg16 p2.regs) (M : List Int) (eh : Int) (hM : askL p2 = M) (heh : errV (mayP p2) = eh) (hk2 : n2 ≤ 2500) (hk3 : n3 ≤ 300) (hkn : n ≤ 300) (hE1 : ea = 190) (hE2 : qe = 190) :
    Calls Tryd.prog 7 #[.agg #[.int .i64 a.fn, .int .i64 a.addr, .int .i64 a.count, .int .i64 a.to, .slice A2 n2 c2, .slice A3 n3 c3], .slice B n c] w fun e w' => e = .returned (.bool true) ∧ Below w.heap.size w w' := by
  obtain ⟨w2, hw2⟩ : ∃ w2, w.alloc (.cells #[.int .i64 a.fn, .int .i64 a.addr, .int .i64 a.count, .int .i64 a.to, .slice A2 n2 c2, .slice A3 n3 c3] 25) = w2 := ⟨_, rfl⟩
  have hb2 : Below w.heap.size w w2 := by rw [← hw2]; exact (Below.refl _ w).alloc (Nat.le_refl _) _
  have hP2 : Held w2 w.heap.size 25 #[.int .i64 a.fn, .int .i64 a.addr, .int .i64 a.count, .int .i64 a.to, .slice A2 n2 c2, .slice A3 n3 c3] := by rw [← hw2]; exact Held.new w _ _
  have HG2 := Lib.hid (fun X => great_any A2 A3 n2 c2 n3 c3 X)
  have hu := Tryd.underlying25
  have hsz : (Tryd.prog.info? 25).map (·.size) = some 6 := by kernel_rfl
  have HAL := Lib.hid (alive_own w2 (hT.up hb2))
  have HBY : Hid (∀ X, Below w.heap.size w X → Calls Tryd.prog 11 #[.agg #[.int .i64 a.fn, .int .i64 a.addr, .int .i64 a.count, .int .i64 a.to, .slice A2 n2 c2, .slice A3 n3 c3]] X fun e w' => ∃ A n c, e = .returned (.tuple #[.slice A n c, .int .i64 ea]) ∧ SlI w' w'.heap.size .u8 A n c L ∧ Below X.heap.size X w') := Lib.hid (fun X h => by rw [← hLA, ← hea]; exact bytes_own (.agg #[.int .i64 a.fn, .int .i64 a.addr, .int .i64 a.count, .int .i64 a.to, .slice A2 n2 c2, .slice A3 n3 c3]) a X (hT.up h) ⟨A2, n2, c2, A3, n3, c3, rfl, h2.up h, h3.up h⟩ h3i)
  have HRX : Hid (∀ X A m d, Below w.heap.size w X → SlI X X.heap.size .u8 A m d L → Calls Tryd.prog 21 #[.slice A m d] X fun e w' => ∃ v, e = .returned (.tuple #[v, .int .i64 pc, .int .i64 pe]) ∧ AskAt w' v p1 ∧ Below X.heap.size X w') := Lib.hid (fun X A m d h hs => by have h1 := read_own A m d L X (hT.up h) hs hL8; rw [hp1] at h1; exact h1)
  have HRB : Hid (∀ X, Below w.heap.size w X → Calls Tryd.prog 21 #[.slice B n c] X fun e w' => ∃ v, e = .returned (.tuple #[v, .int .i64 qc, .int .i64 qe]) ∧ AskAt w' v p2 ∧ Below X.heap.size X w') := Lib.hid (fun X h => by have h1 := read_own B n c b X (hT.up h) (hB.up h) hb8; rw [hp2] at h1; exact h1)
  have HBQ : Hid (∀ X v, Below w.heap.size w X → AskAt X v p2 → Calls Tryd.prog 11 #[v] X fun e w' => ∃ A n c, e = .returned (.tuple #[.slice A n c, .int .i64 eh]) ∧ SlI w' w'.heap.size .u8 A n c M ∧ Below X.heap.size X w') := Lib.hid (fun X v h hv => by rw [← hM, ← heh]; exact bytes_own v p2 X (hT.up h) hv hq8)
  have HPA : Hid (∀ X, Below w.heap.size w X → AskAt X (.agg #[.int .i64 a.fn, .int .i64 a.addr, .int .i64 a.count, .int .i64 a.to, .slice A2 n2 c2, .slice A3 n3 c3]) a) := Lib.hid (fun X h => ⟨A2, n2, c2, A3, n3, c3, rfl, h2.up h, h3.up h⟩)
  have HB := Lib.hid (fun (X : World) (h : Below w.heap.size w X) => hB.up h)
  have hn3 : ¬ (300 : Int) < (n : Int) := by omega
  have e2 : (decide (2500 < n2) || decide (300 < n3)) = false := by simp; omega
  rw [e2] at HG2
  have hbl := hB.1
  clear e2 hLA hea hL8 hp1 hp2 hq8 hM heh hT h2 h3 h3i hB hb8 hk2 hk3 hkn
  subst hE1 hE2
  go_in
  go_wp2_with fail
  refine HAL.out.mono ?_
  rintro e w3 ⟨rfl, hb3⟩
  have hb3w := hb2.trans (hb3.mono hb2.size)
  have hP3 := hP2.below hb3 hP2.lt
  have p3_4 : w3.cell? ⟨w.heap.size, 4, none⟩ = some (.slice A2 n2 c2) := hP3.cell 4
  have p3_5 : w3.cell? ⟨w.heap.size, 5, none⟩ = some (.slice A3 n3 c3) := hP3.cell 5
  go_wp2_with (first | ((go_at_call 10; (with_reducible refine (HG2.out _).mono ?_); rintro e w' ⟨rfl, rfl⟩)) | ((with_reducible refine at_loadT 25 2 ?_); refine wpList_load_rowG rfl 25 (.tmp 2) rfl w.heap.size rfl 25 _ _ hP3 hu rfl hsz ?_))
  refine (HBY.out w3 hb3w).mono ?_
  rintro e w4 ⟨Ax, nx, cx, rfl, sx, hb4⟩
  have hb4w := hb3w.trans (hb4.mono hb3w.size)
  have hP4 := hP3.below hb4 hP3.lt
  have hnx := sx.1
  go_wp2_with (fail)
  refine (HRX.out w4 _ _ _ hb4w sx).mono ?_
  rintro e w5 ⟨v1, rfl, ⟨A6, n6, c6, A7, n7, c7, rfl, s6, s7⟩, hb5⟩
  have hb5w := hb4w.trans (hb5.mono hb4w.size)
  have hP5 := hP4.below hb5 hP4.lt
  go_upto_region 6 with (fail)
  obtain ⟨w6, hw6⟩ : ∃ W, w5.alloc (.cells #[.int .i64 p1.fn, .int .i64 p1.addr, .int .i64 p1.count, .int .i64 p1.to, .slice A6 n6 c6, .slice A7 n7 c7] 25) = W := ⟨_, rfl⟩
  have hb6 : Below w5.heap.size w5 w6 := by rw [← hw6]; exact (Below.refl _ _).alloc (Nat.le_refl _) _
  have hb6w := hb5w.trans (hb6.mono hb5w.size)
  have hX6 : Held w6 w5.heap.size 25 #[.int .i64 p1.fn, .int .i64 p1.addr, .int .i64 p1.count, .int .i64 p1.to, .slice A6 n6 c6, .slice A7 n7 c7] := by rw [← hw6]; exact Held.new _ _ _
  have hP6 := hP5.below hb6 hP5.lt
  rw [hw6]
  clear hw6
  obtain ⟨gx, hgx⟩ : ∃ x, w5.heap.size = x := ⟨_, rfl⟩
  rw [hgx] at hX6
  rw [hgx]
  clear hgx
  go_wp2_with (fail)
  refine (HRB.out w6 hb6w).mono ?_
  rintro e w8 ⟨v2, rfl, hv2, hb8⟩
  have hb8w := hb6w.trans (hb8.mono hb6w.size)
  obtain ⟨A8, n8, c8, A9, n9, c9, rfl, s8, s9⟩ := hv2
  go_upto_region 9 with (fail)
  obtain ⟨w9, hw9⟩ : ∃ W, w8.alloc (.cells #[.int .i64 p2.fn, .int .i64 p2.addr, .int .i64 p2.count, .int .i64 p2.to, .slice A8 n8 c8, .slice A9 n9 c9] 25) = W := ⟨_, rfl⟩
  have hb9 : Below w8.heap.size w8 w9 := by rw [← hw9]; exact (Below.refl _ _).alloc (Nat.le_refl _) _
  have hb9w := hb8w.trans (hb9.mono hb8w.size)
  have hY9 : Held w9 w8.heap.size 25 #[.int .i64 p2.fn, .int .i64 p2.addr, .int .i64 p2.count, .int .i64 p2.to, .slice A8 n8 c8, .slice A9 n9 c9] := by rw [← hw9]; exact Held.new _ _ _
  rw [hw9]
  clear hw9
  obtain ⟨gy, hgy⟩ : ∃ x, w8.heap.size = x := ⟨_, rfl⟩
  rw [hgy] at hY9
  rw [hgy]
  clear hgy
  go_wp2_with ((with_reducible refine at_loadT 25 11 ?_); refine wpList_load_rowG rfl 25 (.tmp 11) rfl gy rfl 25 _ _ hY9 hu rfl hsz ?_)
  refine (HBQ.out w9 _ hb9w ⟨A8, n8, c8, A9, n9, c9, rfl, s8.up hb9, s9.up hb9⟩).mono ?_
  rintro e w10 ⟨Ay, ny, cy, rfl, sy, hb10⟩
  have hb10w := hb9w.trans (hb10.mono hb9w.size)
  have hny := sy.1
  have hY10 := hY9.below hb10 hY9.lt
  have y10 : w10.cell? ⟨gy, 0, none⟩ = some (.int .i64 p2.fn) := hY10.cell 0
  go_wp2_with fail
  go_ret
  exact ⟨rfl, hb10w⟩
set_option maxRecDepth 100000 in
set_option maxHeartbeats 4000000 in
theorem back_none_good (a : AskP) (b : List Int) (A2 : Option Addr) (n2 c2 : Nat) (A3 : Option Addr) (n3 c3 : Nat) (B : Option Addr) (n c : Nat) (w : World) (hT : LimT w)
    (h2 : SlB w w.heap.size A2 n2 c2 a.bits) (h3 : SlI w w.heap.size .u16 A3 n3 c3 a.regs) (h3i : Reg16 a.regs) (hB : SlI w w.heap.size .u8 B n c b) (hb8 : Byte8 b) (L : List Int) (ea : Int) (hLA : askL a = L) (hea : errV (mayP a) = ea) (hL8 : Byte8 L) (p1 : AskP) (pc pe : Int) (hp1 : readP L = (p1, pc, pe))
    (p2 : AskP) (qc qe : Int) (hp2 : readP b = (p2, qc, qe)) (hq8 : Reg16 p2.regs) (M : List Int) (eh : Int) (hM : askL p2 = M) (heh : errV (mayP p2) = eh) (hk2 : n2 ≤ 2500) (hk3 : n3 ≤ 300) (hkn : n ≤ 300) (hE1 : ea = 190) (hE2 : qe = 0) (hE4 : eh = 0) (hML : M.length = b.length) (hMb : p2.fn ≠ 15 → M = b) (hnl : ∀ i, i + 1 < b.length → M[i]? = b[i]?) :
    Calls Tryd.prog 7 #[.agg #[.int .i64 a.fn, .int .i64 a.addr, .int .i64 a.count, .int .i64 a.to, .slice A2 n2 c2, .slice A3 n3 c3], .slice B n c] w fun e w' => e = .returned (.bool true) ∧ Below w.heap.size w w' := by
  obtain ⟨w2, hw2⟩ : ∃ w2, w.alloc (.cells #[.int .i64 a.fn, .int .i64 a.addr, .int .i64 a.count, .int .i64 a.to, .slice A2 n2 c2, .slice A3 n3 c3] 25) = w2 := ⟨_, rfl⟩
  have hb2 : Below w.heap.size w w2 := by rw [← hw2]; exact (Below.refl _ w).alloc (Nat.le_refl _) _
  have hP2 : Held w2 w.heap.size 25 #[.int .i64 a.fn, .int .i64 a.addr, .int .i64 a.count, .int .i64 a.to, .slice A2 n2 c2, .slice A3 n3 c3] := by rw [← hw2]; exact Held.new w _ _
  have HG2 := Lib.hid (fun X => great_any A2 A3 n2 c2 n3 c3 X)
  have hu := Tryd.underlying25
  have hsz : (Tryd.prog.info? 25).map (·.size) = some 6 := by kernel_rfl
  have HAL := Lib.hid (alive_own w2 (hT.up hb2))
  have HBY : Hid (∀ X, Below w.heap.size w X → Calls Tryd.prog 11 #[.agg #[.int .i64 a.fn, .int .i64 a.addr, .int .i64 a.count, .int .i64 a.to, .slice A2 n2 c2, .slice A3 n3 c3]] X fun e w' => ∃ A n c, e = .returned (.tuple #[.slice A n c, .int .i64 ea]) ∧ SlI w' w'.heap.size .u8 A n c L ∧ Below X.heap.size X w') := Lib.hid (fun X h => by rw [← hLA, ← hea]; exact bytes_own (.agg #[.int .i64 a.fn, .int .i64 a.addr, .int .i64 a.count, .int .i64 a.to, .slice A2 n2 c2, .slice A3 n3 c3]) a X (hT.up h) ⟨A2, n2, c2, A3, n3, c3, rfl, h2.up h, h3.up h⟩ h3i)
  have HRX : Hid (∀ X A m d, Below w.heap.size w X → SlI X X.heap.size .u8 A m d L → Calls Tryd.prog 21 #[.slice A m d] X fun e w' => ∃ v, e = .returned (.tuple #[v, .int .i64 pc, .int .i64 pe]) ∧ AskAt w' v p1 ∧ Below X.heap.size X w') := Lib.hid (fun X A m d h hs => by have h1 := read_own A m d L X (hT.up h) hs hL8; rw [hp1] at h1; exact h1)
  have HRB : Hid (∀ X, Below w.heap.size w X → Calls Tryd.prog 21 #[.slice B n c] X fun e w' => ∃ v, e = .returned (.tuple #[v, .int .i64 qc, .int .i64 qe]) ∧ AskAt w' v p2 ∧ Below X.heap.size X w') := Lib.hid (fun X h => by have h1 := read_own B n c b X (hT.up h) (hB.up h) hb8; rw [hp2] at h1; exact h1)
  have HBQ : Hid (∀ X v, Below w.heap.size w X → AskAt X v p2 → Calls Tryd.prog 11 #[v] X fun e w' => ∃ A n c, e = .returned (.tuple #[.slice A n c, .int .i64 eh]) ∧ SlI w' w'.heap.size .u8 A n c M ∧ Below X.heap.size X w') := Lib.hid (fun X v h hv => by rw [← hM, ← heh]; exact bytes_own v p2 X (hT.up h) hv hq8)
  have HPA : Hid (∀ X, Below w.heap.size w X → AskAt X (.agg #[.int .i64 a.fn, .int .i64 a.addr, .int .i64 a.count, .int .i64 a.to, .slice A2 n2 c2, .slice A3 n3 c3]) a) := Lib.hid (fun X h => ⟨A2, n2, c2, A3, n3, c3, rfl, h2.up h, h3.up h⟩)
  have HB := Lib.hid (fun (X : World) (h : Below w.heap.size w X) => hB.up h)
  have hn3 : ¬ (300 : Int) < (n : Int) := by omega
  have e2 : (decide (2500 < n2) || decide (300 < n3)) = false := by simp; omega
  rw [e2] at HG2
  have hbl := hB.1
  clear e2 hLA hea hL8 hp1 hp2 hq8 hM heh hT h2 h3 h3i hB hb8 hk2 hk3 hkn
  subst hE1 hE2
  subst hE4
  go_in
  go_wp2_with fail
  refine HAL.out.mono ?_
  rintro e w3 ⟨rfl, hb3⟩
  have hb3w := hb2.trans (hb3.mono hb2.size)
  have hP3 := hP2.below hb3 hP2.lt
  have p3_4 : w3.cell? ⟨w.heap.size, 4, none⟩ = some (.slice A2 n2 c2) := hP3.cell 4
  have p3_5 : w3.cell? ⟨w.heap.size, 5, none⟩ = some (.slice A3 n3 c3) := hP3.cell 5
  go_wp2_with (first | ((go_at_call 10; (with_reducible refine (HG2.out _).mono ?_); rintro e w' ⟨rfl, rfl⟩)) | ((with_reducible refine at_loadT 25 2 ?_); refine wpList_load_rowG rfl 25 (.tmp 2) rfl w.heap.size rfl 25 _ _ hP3 hu rfl hsz ?_))
  refine (HBY.out w3 hb3w).mono ?_
  rintro e w4 ⟨Ax, nx, cx, rfl, sx, hb4⟩
  have hb4w := hb3w.trans (hb4.mono hb3w.size)
  have hP4 := hP3.below hb4 hP3.lt
  have hnx := sx.1
  go_wp2_with (fail)
  refine (HRX.out w4 _ _ _ hb4w sx).mono ?_
  rintro e w5 ⟨v1, rfl, ⟨A6, n6, c6, A7, n7, c7, rfl, s6, s7⟩, hb5⟩
  have hb5w := hb4w.trans (hb5.mono hb4w.size)
  have hP5 := hP4.below hb5 hP4.lt
  go_upto_region 6 with (fail)
  obtain ⟨w6, hw6⟩ : ∃ W, w5.alloc (.cells #[.int .i64 p1.fn, .int .i64 p1.addr, .int .i64 p1.count, .int .i64 p1.to, .slice A6 n6 c6, .slice A7 n7 c7] 25) = W := ⟨_, rfl⟩
  have hb6 : Below w5.heap.size w5 w6 := by rw [← hw6]; exact (Below.refl _ _).alloc (Nat.le_refl _) _
  have hb6w := hb5w.trans (hb6.mono hb5w.size)
  have hX6 : Held w6 w5.heap.size 25 #[.int .i64 p1.fn, .int .i64 p1.addr, .int .i64 p1.count, .int .i64 p1.to, .slice A6 n6 c6, .slice A7 n7 c7] := by rw [← hw6]; exact Held.new _ _ _
  have hP6 := hP5.below hb6 hP5.lt
  rw [hw6]
  clear hw6
  obtain ⟨gx, hgx⟩ : ∃ x, w5.heap.size = x := ⟨_, rfl⟩
  rw [hgx] at hX6
  rw [hgx]
  clear hgx
  go_wp2_with (fail)
  refine (HRB.out w6 hb6w).mono ?_
  rintro e w8 ⟨v2, rfl, hv2, hb8⟩
  have hb8w := hb6w.trans (hb8.mono hb6w.size)
  obtain ⟨A8, n8, c8, A9, n9, c9, rfl, s8, s9⟩ := hv2
  go_upto_region 9 with (fail)
  obtain ⟨w9, hw9⟩ : ∃ W, w8.alloc (.cells #[.int .i64 p2.fn, .int .i64 p2.addr, .int .i64 p2.count, .int .i64 p2.to, .slice A8 n8 c8, .slice A9 n9 c9] 25) = W := ⟨_, rfl⟩
  have hb9 : Below w8.heap.size w8 w9 := by rw [← hw9]; exact (Below.refl _ _).alloc (Nat.le_refl _) _
  have hb9w := hb8w.trans (hb9.mono hb8w.size)
  have hY9 : Held w9 w8.heap.size 25 #[.int .i64 p2.fn, .int .i64 p2.addr, .int .i64 p2.count, .int .i64 p2.to, .slice A8 n8 c8, .slice A9 n9 c9] := by rw [← hw9]; exact Held.new _ _ _
  rw [hw9]
  clear hw9
  obtain ⟨gy, hgy⟩ : ∃ x, w8.heap.size = x := ⟨_, rfl⟩
  rw [hgy] at hY9
  rw [hgy]
  clear hgy
  go_wp2_with ((with_reducible refine at_loadT 25 11 ?_); refine wpList_load_rowG rfl 25 (.tmp 11) rfl gy rfl 25 _ _ hY9 hu rfl hsz ?_)
  refine (HBQ.out w9 _ hb9w ⟨A8, n8, c8, A9, n9, c9, rfl, s8.up hb9, s9.up hb9⟩).mono ?_
  rintro e w10 ⟨Ay, ny, cy, rfl, sy, hb10⟩
  have hb10w := hb9w.trans (hb10.mono hb9w.size)
  have hny := sy.1
  have hY10 := hY9.below hb10 hY9.lt
  have y10 : w10.cell? ⟨gy, 0, none⟩ = some (.int .i64 p2.fn) := hY10.cell 0
  have hnn : ((ny : Int) != (n : Int)) = false := by simp; omega
  have hbn := hbl
  have HE := Lib.hid hnl
  have HMB := Lib.hid hML
  have HNX := Lib.hid hMb
  have HLN := Lib.hid hbl
  have HNY := Lib.hid hny
  have SB := HB.out w10 hb10w
  have HSB := Lib.hid SB
  have HSY := Lib.hid sy
  have hnm : (n : Int) ≤ 300 := by omega
  clear hnl hML hMb hbl hny SB sy hbn
  go_wp2_with fail
  go_loopw [16] (fun i wr => ∃ j m : Nat, j ≤ n ∧ i = .int .i64 j ∧ wr = w10.drewN m) (fun i _ => n - (intOf i).toNat)
  case atStart => exact ⟨0, 0, Nat.zero_le _, rfl, rfl⟩
  case round =>
    obtain ⟨j, m, hj, rfl, rfl⟩ := hrel
    by_cases hlt : j < n
    · obtain ⟨g, off, x, rfl, _, hx, hc⟩ := HSB.out.2.2.2.2.at_ (i := j) (by have := HLN.out; omega)
      obtain ⟨g', off', y, rfl, _, hy, hc'⟩ := HSY.out.2.2.2.2.at_ (i := j) (by have := HMB.out; have := HLN.out; omega)
      have hjny : j < ny := by have := HMB.out; have := HLN.out; have := HNY.out; omega
      have hltI : (j : Int) < (n : Int) := by omega
      have hjnyI : (j : Int) < (ny : Int) := by omega
      have hw1 : IntKind.i64.wrap ((n : Int) - 1) = (n : Int) - 1 := IntWalk.i64_in _ (by omega)
      by_cases he : y = x
      · have hb : (y != x) = false := by simpa using he
        clear hx hy he
        go_wp2
        go_quiet (fail)
        go_wp2
        go_roundw
        case rel => exact ⟨j + 1, _, by omega, by go_num, rfl⟩
        case measure => simp [intOf]; omega
      · have hb : (y != x) = true := by simpa using he
        have hh : p2.fn = 15 ∧ j + 1 = n := by
          by_cases h1 : j + 1 < n
          · exfalso
            have := HE.out j (by have := HLN.out; omega)
            rw [hx, hy] at this
            exact he (Option.some.inj this)
          · refine ⟨?_, by omega⟩
            by_cases h2 : p2.fn = 15
            · exact h2
            · exfalso
              have := HNX.out h2
              rw [this, hx] at hy
              exact he (Option.some.inj hy).symm
        have t15 : (p2.fn != 15) = false := by simpa using hh.1
        have tj : ((j : Int) != (n : Int) - 1) = false := by simp; omega
        clear hx hy he hh
        go_wp2
        go_quiet (fail)
        go_wp2
        go_roundw
        case rel => exact ⟨j + 1, _, by omega, by go_num, rfl⟩
        case measure => simp [intOf]; omega
    · go_wp2
      go_ret
      exact ⟨rfl, below_drewN hb10w _⟩
end Go.Proofs.YtflbiichdjhaeaaDoor
namespace Go.Proofs.YtflbiichdjhaeaaDoor
open Go.RowKit
set_option linter.unusedVariables false

set_option maxRecDepth 100000 in
set_option maxHeartbeats 4000000 in
theorem back_some_bad (a : AskP) (b : List Int) (A2 : Option Addr) (n2 c2 : Nat) (A3 : Option Addr) (n3 c3 : Nat) (B : Option Addr) (n c : Nat) (w : World) (hT : LimT w)
    (h2 : SlB w w.heap.size A2 n2 c2 a.bits) (h3 : SlI w w.heap.size .u16 A3 n3 c3 a.regs) (h3i : Reg16 a.regs) (hB : SlI w w.heap.size .u8 B n c b) (hb8 : Byte8 b) (L : List Int) (ea : Int) (hLA : askL a = L) (hea : errV (mayP a) = ea) (hL8 : Byte8 L) (p1 : AskP) (pc pe : Int) (hp1 : readP L = (p1, pc, pe))
    (p2 : AskP) (qc qe : Int) (hp2 : readP b = (p2, qc, qe)) (hq8 : Reg16 p2.regs) (M : List Int) (eh : Int) (hM : askL p2 = M) (heh : errV (mayP p2) = eh) (hk2 : n2 ≤ 2500) (hk3 : n3 ≤ 300) (hkn : n ≤ 300) (hE1 : ea = 0) (hE2 : qe = 190) (hE3 : pe = 0) (hE5 : pc = 0) (hp1r : p1 = a) (hL253 : L.length ≤ 253) :
    Calls Tryd.prog 7 #[.agg #[.int .i64 a.fn, .int .i64 a.addr, .int .i64 a.count, .int .i64 a.to, .slice A2 n2 c2, .slice A3 n3 c3], .slice B n c] w fun e w' => e = .returned (.bool true) ∧ Below w.heap.size w w' := by
  obtain ⟨w2, hw2⟩ : ∃ w2, w.alloc (.cells #[.int .i64 a.fn, .int .i64 a.addr, .int .i64 a.count, .int .i64 a.to, .slice A2 n2 c2, .slice A3 n3 c3] 25) = w2 := ⟨_, rfl⟩
  have hb2 : Below w.heap.size w w2 := by rw [← hw2]; exact (Below.refl _ w).alloc (Nat.le_refl _) _
  have hP2 : Held w2 w.heap.size 25 #[.int .i64 a.fn, .int .i64 a.addr, .int .i64 a.count, .int .i64 a.to, .slice A2 n2 c2, .slice A3 n3 c3] := by rw [← hw2]; exact Held.new w _ _
  have HG2 := Lib.hid (fun X => great_any A2 A3 n2 c2 n3 c3 X)
  have hu := Tryd.underlying25
  have hsz : (Tryd.prog.info? 25).map (·.size) = some 6 := by kernel_rfl
  have HAL := Lib.hid (alive_own w2 (hT.up hb2))
  have HBY : Hid (∀ X, Below w.heap.size w X → Calls Tryd.prog 11 #[.agg #[.int .i64 a.fn, .int .i64 a.addr, .int .i64 a.count, .int .i64 a.to, .slice A2 n2 c2, .slice A3 n3 c3]] X fun e w' => ∃ A n c, e = .returned (.tuple #[.slice A n c, .int .i64 ea]) ∧ SlI w' w'.heap.size .u8 A n c L ∧ Below X.heap.size X w') := Lib.hid (fun X h => by rw [← hLA, ← hea]; exact bytes_own (.agg #[.int .i64 a.fn, .int .i64 a.addr, .int .i64 a.count, .int .i64 a.to, .slice A2 n2 c2, .slice A3 n3 c3]) a X (hT.up h) ⟨A2, n2, c2, A3, n3, c3, rfl, h2.up h, h3.up h⟩ h3i)
  have HRX : Hid (∀ X A m d, Below w.heap.size w X → SlI X X.heap.size .u8 A m d L → Calls Tryd.prog 21 #[.slice A m d] X fun e w' => ∃ v, e = .returned (.tuple #[v, .int .i64 pc, .int .i64 pe]) ∧ AskAt w' v p1 ∧ Below X.heap.size X w') := Lib.hid (fun X A m d h hs => by have h1 := read_own A m d L X (hT.up h) hs hL8; rw [hp1] at h1; exact h1)
  have HRB : Hid (∀ X, Below w.heap.size w X → Calls Tryd.prog 21 #[.slice B n c] X fun e w' => ∃ v, e = .returned (.tuple #[v, .int .i64 qc, .int .i64 qe]) ∧ AskAt w' v p2 ∧ Below X.heap.size X w') := Lib.hid (fun X h => by have h1 := read_own B n c b X (hT.up h) (hB.up h) hb8; rw [hp2] at h1; exact h1)
  have HBQ : Hid (∀ X v, Below w.heap.size w X → AskAt X v p2 → Calls Tryd.prog 11 #[v] X fun e w' => ∃ A n c, e = .returned (.tuple #[.slice A n c, .int .i64 eh]) ∧ SlI w' w'.heap.size .u8 A n c M ∧ Below X.heap.size X w') := Lib.hid (fun X v h hv => by rw [← hM, ← heh]; exact bytes_own v p2 X (hT.up h) hv hq8)
  have HPA : Hid (∀ X, Below w.heap.size w X → AskAt X (.agg #[.int .i64 a.fn, .int .i64 a.addr, .int .i64 a.count, .int .i64 a.to, .slice A2 n2 c2, .slice A3 n3 c3]) a) := Lib.hid (fun X h => ⟨A2, n2, c2, A3, n3, c3, rfl, h2.up h, h3.up h⟩)
  have HB := Lib.hid (fun (X : World) (h : Below w.heap.size w X) => hB.up h)
  have hn3 : ¬ (300 : Int) < (n : Int) := by omega
  have e2 : (decide (2500 < n2) || decide (300 < n3)) = false := by simp; omega
  rw [e2] at HG2
  have hbl := hB.1
  clear e2 hLA hea hL8 hp1 hp2 hq8 hM heh hT h2 h3 h3i hB hb8 hk2 hk3 hkn
  subst hE1 hE2
  subst hE3 hE5
  have HP1 := Lib.hid hp1r
  clear hp1r
  go_in
  go_wp2_with fail
  refine HAL.out.mono ?_
  rintro e w3 ⟨rfl, hb3⟩
  have hb3w := hb2.trans (hb3.mono hb2.size)
  have hP3 := hP2.below hb3 hP2.lt
  have p3_4 : w3.cell? ⟨w.heap.size, 4, none⟩ = some (.slice A2 n2 c2) := hP3.cell 4
  have p3_5 : w3.cell? ⟨w.heap.size, 5, none⟩ = some (.slice A3 n3 c3) := hP3.cell 5
  go_wp2_with (first | ((go_at_call 10; (with_reducible refine (HG2.out _).mono ?_); rintro e w' ⟨rfl, rfl⟩)) | ((with_reducible refine at_loadT 25 2 ?_); refine wpList_load_rowG rfl 25 (.tmp 2) rfl w.heap.size rfl 25 _ _ hP3 hu rfl hsz ?_))
  refine (HBY.out w3 hb3w).mono ?_
  rintro e w4 ⟨Ax, nx, cx, rfl, sx, hb4⟩
  have hb4w := hb3w.trans (hb4.mono hb3w.size)
  have hP4 := hP3.below hb4 hP3.lt
  have hnx := sx.1
  go_wp2_with (fail)
  refine (HRX.out w4 _ _ _ hb4w sx).mono ?_
  rintro e w5 ⟨v1, rfl, ⟨A6, n6, c6, A7, n7, c7, rfl, s6, s7⟩, hb5⟩
  have hb5w := hb4w.trans (hb5.mono hb4w.size)
  have hP5 := hP4.below hb5 hP4.lt
  go_upto_region 6 with (fail)
  obtain ⟨w6, hw6⟩ : ∃ W, w5.alloc (.cells #[.int .i64 p1.fn, .int .i64 p1.addr, .int .i64 p1.count, .int .i64 p1.to, .slice A6 n6 c6, .slice A7 n7 c7] 25) = W := ⟨_, rfl⟩
  have hb6 : Below w5.heap.size w5 w6 := by rw [← hw6]; exact (Below.refl _ _).alloc (Nat.le_refl _) _
  have hb6w := hb5w.trans (hb6.mono hb5w.size)
  have hX6 : Held w6 w5.heap.size 25 #[.int .i64 p1.fn, .int .i64 p1.addr, .int .i64 p1.count, .int .i64 p1.to, .slice A6 n6 c6, .slice A7 n7 c7] := by rw [← hw6]; exact Held.new _ _ _
  have hP6 := hP5.below hb6 hP5.lt
  rw [hw6]
  clear hw6
  obtain ⟨gx, hgx⟩ : ∃ x, w5.heap.size = x := ⟨_, rfl⟩
  rw [hgx] at hX6
  rw [hgx]
  clear hgx
  have hnx1 : ¬ (nx : Int) > 253 := by omega
  go_wp2_with (first | ((with_reducible refine at_loadT 25 2 ?_); refine wpList_load_rowG rfl 25 (.tmp 2) rfl w.heap.size rfl 25 _ _ hP6 hu rfl hsz ?_) | ((with_reducible refine at_loadT 25 8 ?_); refine wpList_load_rowG rfl 25 (.tmp 8) rfl gx rfl 25 _ _ hX6 hu rfl hsz ?_))
  have HSM : Hid (Calls Tryd.prog 23 #[.agg #[.int .i64 p1.fn, .int .i64 p1.addr, .int .i64 p1.count, .int .i64 p1.to, .slice A6 n6 c6, .slice A7 n7 c7], .agg #[.int .i64 a.fn, .int .i64 a.addr, .int .i64 a.count, .int .i64 a.to, .slice A2 n2 c2, .slice A3 n3 c3]] w6 fun e w' => e = .returned (.bool true) ∧ Below w6.heap.size w6 w') := Lib.hid (by
    have h1 := same_ref (.agg #[.int .i64 p1.fn, .int .i64 p1.addr, .int .i64 p1.count, .int .i64 p1.to, .slice A6 n6 c6, .slice A7 n7 c7]) (.agg #[.int .i64 a.fn, .int .i64 a.addr, .int .i64 a.count, .int .i64 a.to, .slice A2 n2 c2, .slice A3 n3 c3]) p1 a w6 ⟨A6, n6, c6, A7, n7, c7, rfl, s6.up hb6, s7.up hb6⟩ (HPA.out w6 hb6w)
    rw [decide_eq_true HP1.out] at h1
    exact h1)
  refine HSM.out.mono ?_
  rintro e w7 ⟨rfl, hb7⟩
  have hb7w := hb6w.trans (hb7.mono hb6w.size)
  clear HSM
  go_wp2_with (fail)
  refine (HRB.out w7 hb7w).mono ?_
  rintro e w8 ⟨v2, rfl, hv2, hb8⟩
  have hb8w := hb7w.trans (hb8.mono hb7w.size)
  obtain ⟨A8, n8, c8, A9, n9, c9, rfl, s8, s9⟩ := hv2
  go_upto_region 9 with (fail)
  obtain ⟨w9, hw9⟩ : ∃ W, w8.alloc (.cells #[.int .i64 p2.fn, .int .i64 p2.addr, .int .i64 p2.count, .int .i64 p2.to, .slice A8 n8 c8, .slice A9 n9 c9] 25) = W := ⟨_, rfl⟩
  have hb9 : Below w8.heap.size w8 w9 := by rw [← hw9]; exact (Below.refl _ _).alloc (Nat.le_refl _) _
  have hb9w := hb8w.trans (hb9.mono hb8w.size)
  have hY9 : Held w9 w8.heap.size 25 #[.int .i64 p2.fn, .int .i64 p2.addr, .int .i64 p2.count, .int .i64 p2.to, .slice A8 n8 c8, .slice A9 n9 c9] := by rw [← hw9]; exact Held.new _ _ _
  rw [hw9]
  clear hw9
  obtain ⟨gy, hgy⟩ : ∃ x, w8.heap.size = x := ⟨_, rfl⟩
  rw [hgy] at hY9
  rw [hgy]
  clear hgy
  go_wp2_with ((with_reducible refine at_loadT 25 11 ?_); refine wpList_load_rowG rfl 25 (.tmp 11) rfl gy rfl 25 _ _ hY9 hu rfl hsz ?_)
  refine (HBQ.out w9 _ hb9w ⟨A8, n8, c8, A9, n9, c9, rfl, s8.up hb9, s9.up hb9⟩).mono ?_
  rintro e w10 ⟨Ay, ny, cy, rfl, sy, hb10⟩
  have hb10w := hb9w.trans (hb10.mono hb9w.size)
  have hny := sy.1
  have hY10 := hY9.below hb10 hY9.lt
  have y10 : w10.cell? ⟨gy, 0, none⟩ = some (.int .i64 p2.fn) := hY10.cell 0
  go_wp2_with fail
  go_ret
  exact ⟨rfl, hb10w⟩
set_option maxRecDepth 100000 in
set_option maxHeartbeats 4000000 in
theorem back_some_good (a : AskP) (b : List Int) (A2 : Option Addr) (n2 c2 : Nat) (A3 : Option Addr) (n3 c3 : Nat) (B : Option Addr) (n c : Nat) (w : World) (hT : LimT w)
    (h2 : SlB w w.heap.size A2 n2 c2 a.bits) (h3 : SlI w w.heap.size .u16 A3 n3 c3 a.regs) (h3i : Reg16 a.regs) (hB : SlI w w.heap.size .u8 B n c b) (hb8 : Byte8 b) (L : List Int) (ea : Int) (hLA : askL a = L) (hea : errV (mayP a) = ea) (hL8 : Byte8 L) (p1 : AskP) (pc pe : Int) (hp1 : readP L = (p1, pc, pe))
    (p2 : AskP) (qc qe : Int) (hp2 : readP b = (p2, qc, qe)) (hq8 : Reg16 p2.regs) (M : List Int) (eh : Int) (hM : askL p2 = M) (heh : errV (mayP p2) = eh) (hk2 : n2 ≤ 2500) (hk3 : n3 ≤ 300) (hkn : n ≤ 300) (hE1 : ea = 0) (hE2 : qe = 0) (hE3 : pe = 0) (hE5 : pc = 0) (hp1r : p1 = a) (hL253 : L.length ≤ 253) (hE4 : eh = 0) (hML : M.length = b.length) (hMb : p2.fn ≠ 15 → M = b) (hnl : ∀ i, i + 1 < b.length → M[i]? = b[i]?) :
    Calls Tryd.prog 7 #[.agg #[.int .i64 a.fn, .int .i64 a.addr, .int .i64 a.count, .int .i64 a.to, .slice A2 n2 c2, .slice A3 n3 c3], .slice B n c] w fun e w' => e = .returned (.bool true) ∧ Below w.heap.size w w' := by
  obtain ⟨w2, hw2⟩ : ∃ w2, w.alloc (.cells #[.int .i64 a.fn, .int .i64 a.addr, .int .i64 a.count, .int .i64 a.to, .slice A2 n2 c2, .slice A3 n3 c3] 25) = w2 := ⟨_, rfl⟩
  have hb2 : Below w.heap.size w w2 := by rw [← hw2]; exact (Below.refl _ w).alloc (Nat.le_refl _) _
  have hP2 : Held w2 w.heap.size 25 #[.int .i64 a.fn, .int .i64 a.addr, .int .i64 a.count, .int .i64 a.to, .slice A2 n2 c2, .slice A3 n3 c3] := by rw [← hw2]; exact Held.new w _ _
  have HG2 := Lib.hid (fun X => great_any A2 A3 n2 c2 n3 c3 X)
  have hu := Tryd.underlying25
  have hsz : (Tryd.prog.info? 25).map (·.size) = some 6 := by kernel_rfl
  have HAL := Lib.hid (alive_own w2 (hT.up hb2))
  have HBY : Hid (∀ X, Below w.heap.size w X → Calls Tryd.prog 11 #[.agg #[.int .i64 a.fn, .int .i64 a.addr, .int .i64 a.count, .int .i64 a.to, .slice A2 n2 c2, .slice A3 n3 c3]] X fun e w' => ∃ A n c, e = .returned (.tuple #[.slice A n c, .int .i64 ea]) ∧ SlI w' w'.heap.size .u8 A n c L ∧ Below X.heap.size X w') := Lib.hid (fun X h => by rw [← hLA, ← hea]; exact bytes_own (.agg #[.int .i64 a.fn, .int .i64 a.addr, .int .i64 a.count, .int .i64 a.to, .slice A2 n2 c2, .slice A3 n3 c3]) a X (hT.up h) ⟨A2, n2, c2, A3, n3, c3, rfl, h2.up h, h3.up h⟩ h3i)
  have HRX : Hid (∀ X A m d, Below w.heap.size w X → SlI X X.heap.size .u8 A m d L → Calls Tryd.prog 21 #[.slice A m d] X fun e w' => ∃ v, e = .returned (.tuple #[v, .int .i64 pc, .int .i64 pe]) ∧ AskAt w' v p1 ∧ Below X.heap.size X w') := Lib.hid (fun X A m d h hs => by have h1 := read_own A m d L X (hT.up h) hs hL8; rw [hp1] at h1; exact h1)
  have HRB : Hid (∀ X, Below w.heap.size w X → Calls Tryd.prog 21 #[.slice B n c] X fun e w' => ∃ v, e = .returned (.tuple #[v, .int .i64 qc, .int .i64 qe]) ∧ AskAt w' v p2 ∧ Below X.heap.size X w') := Lib.hid (fun X h => by have h1 := read_own B n c b X (hT.up h) (hB.up h) hb8; rw [hp2] at h1; exact h1)
  have HBQ : Hid (∀ X v, Below w.heap.size w X → AskAt X v p2 → Calls Tryd.prog 11 #[v] X fun e w' => ∃ A n c, e = .returned (.tuple #[.slice A n c, .int .i64 eh]) ∧ SlI w' w'.heap.size .u8 A n c M ∧ Below X.heap.size X w') := Lib.hid (fun X v h hv => by rw [← hM, ← heh]; exact bytes_own v p2 X (hT.up h) hv hq8)
  have HPA : Hid (∀ X, Below w.heap.size w X → AskAt X (.agg #[.int .i64 a.fn, .int .i64 a.addr, .int .i64 a.count, .int .i64 a.to, .slice A2 n2 c2, .slice A3 n3 c3]) a) := Lib.hid (fun X h => ⟨A2, n2, c2, A3, n3, c3, rfl, h2.up h, h3.up h⟩)
  have HB := Lib.hid (fun (X : World) (h : Below w.heap.size w X) => hB.up h)
  have hn3 : ¬ (300 : Int) < (n : Int) := by omega
  have e2 : (decide (2500 < n2) || decide (300 < n3)) = false := by simp; omega
  rw [e2] at HG2
  have hbl := hB.1
  clear e2 hLA hea hL8 hp1 hp2 hq8 hM heh hT h2 h3 h3i hB hb8 hk2 hk3 hkn
  subst hE1 hE2
  subst hE3 hE5
  have HP1 := Lib.hid hp1r
  clear hp1r
  subst hE4
  go_in
  go_wp2_with fail
  refine HAL.out.mono ?_
  rintro e w3 ⟨rfl, hb3⟩
  have hb3w := hb2.trans (hb3.mono hb2.size)
  have hP3 := hP2.below hb3 hP2.lt
  have p3_4 : w3.cell? ⟨w.heap.size, 4, none⟩ = some (.slice A2 n2 c2) := hP3.cell 4
  have p3_5 : w3.cell? ⟨w.heap.size, 5, none⟩ = some (.slice A3 n3 c3) := hP3.cell 5
  go_wp2_with (first | ((go_at_call 10; (with_reducible refine (HG2.out _).mono ?_); rintro e w' ⟨rfl, rfl⟩)) | ((with_reducible refine at_loadT 25 2 ?_); refine wpList_load_rowG rfl 25 (.tmp 2) rfl w.heap.size rfl 25 _ _ hP3 hu rfl hsz ?_))
  refine (HBY.out w3 hb3w).mono ?_
  rintro e w4 ⟨Ax, nx, cx, rfl, sx, hb4⟩
  have hb4w := hb3w.trans (hb4.mono hb3w.size)
  have hP4 := hP3.below hb4 hP3.lt
  have hnx := sx.1
  go_wp2_with (fail)
  refine (HRX.out w4 _ _ _ hb4w sx).mono ?_
  rintro e w5 ⟨v1, rfl, ⟨A6, n6, c6, A7, n7, c7, rfl, s6, s7⟩, hb5⟩
  have hb5w := hb4w.trans (hb5.mono hb4w.size)
  have hP5 := hP4.below hb5 hP4.lt
  go_upto_region 6 with (fail)
  obtain ⟨w6, hw6⟩ : ∃ W, w5.alloc (.cells #[.int .i64 p1.fn, .int .i64 p1.addr, .int .i64 p1.count, .int .i64 p1.to, .slice A6 n6 c6, .slice A7 n7 c7] 25) = W := ⟨_, rfl⟩
  have hb6 : Below w5.heap.size w5 w6 := by rw [← hw6]; exact (Below.refl _ _).alloc (Nat.le_refl _) _
  have hb6w := hb5w.trans (hb6.mono hb5w.size)
  have hX6 : Held w6 w5.heap.size 25 #[.int .i64 p1.fn, .int .i64 p1.addr, .int .i64 p1.count, .int .i64 p1.to, .slice A6 n6 c6, .slice A7 n7 c7] := by rw [← hw6]; exact Held.new _ _ _
  have hP6 := hP5.below hb6 hP5.lt
  rw [hw6]
  clear hw6
  obtain ⟨gx, hgx⟩ : ∃ x, w5.heap.size = x := ⟨_, rfl⟩
  rw [hgx] at hX6
  rw [hgx]
  clear hgx
  have hnx1 : ¬ (nx : Int) > 253 := by omega
  go_wp2_with (first | ((with_reducible refine at_loadT 25 2 ?_); refine wpList_load_rowG rfl 25 (.tmp 2) rfl w.heap.size rfl 25 _ _ hP6 hu rfl hsz ?_) | ((with_reducible refine at_loadT 25 8 ?_); refine wpList_load_rowG rfl 25 (.tmp 8) rfl gx rfl 25 _ _ hX6 hu rfl hsz ?_))
  have HSM : Hid (Calls Tryd.prog 23 #[.agg #[.int .i64 p1.fn, .int .i64 p1.addr, .int .i64 p1.count, .int .i64 p1.to, .slice A6 n6 c6, .slice A7 n7 c7], .agg #[.int .i64 a.fn, .int .i64 a.addr, .int .i64 a.count, .int .i64 a.to, .slice A2 n2 c2, .slice A3 n3 c3]] w6 fun e w' => e = .returned (.bool true) ∧ Below w6.heap.size w6 w') := Lib.hid (by
    have h1 := same_ref (.agg #[.int .i64 p1.fn, .int .i64 p1.addr, .int .i64 p1.count, .int .i64 p1.to, .slice A6 n6 c6, .slice A7 n7 c7]) (.agg #[.int .i64 a.fn, .int .i64 a.addr, .int .i64 a.count, .int .i64 a.to, .slice A2 n2 c2, .slice A3 n3 c3]) p1 a w6 ⟨A6, n6, c6, A7, n7, c7, rfl, s6.up hb6, s7.up hb6⟩ (HPA.out w6 hb6w)
    rw [decide_eq_true HP1.out] at h1
    exact h1)
  refine HSM.out.mono ?_
  rintro e w7 ⟨rfl, hb7⟩
  have hb7w := hb6w.trans (hb7.mono hb6w.size)
  clear HSM
  go_wp2_with (fail)
  refine (HRB.out w7 hb7w).mono ?_
  rintro e w8 ⟨v2, rfl, hv2, hb8⟩
  have hb8w := hb7w.trans (hb8.mono hb7w.size)
  obtain ⟨A8, n8, c8, A9, n9, c9, rfl, s8, s9⟩ := hv2
  go_upto_region 9 with (fail)
  obtain ⟨w9, hw9⟩ : ∃ W, w8.alloc (.cells #[.int .i64 p2.fn, .int .i64 p2.addr, .int .i64 p2.count, .int .i64 p2.to, .slice A8 n8 c8, .slice A9 n9 c9] 25) = W := ⟨_, rfl⟩
  have hb9 : Below w8.heap.size w8 w9 := by rw [← hw9]; exact (Below.refl _ _).alloc (Nat.le_refl _) _
  have hb9w := hb8w.trans (hb9.mono hb8w.size)
  have hY9 : Held w9 w8.heap.size 25 #[.int .i64 p2.fn, .int .i64 p2.addr, .int .i64 p2.count, .int .i64 p2.to, .slice A8 n8 c8, .slice A9 n9 c9] := by rw [← hw9]; exact Held.new _ _ _
  rw [hw9]
  clear hw9
  obtain ⟨gy, hgy⟩ : ∃ x, w8.heap.size = x := ⟨_, rfl⟩
  rw [hgy] at hY9
  rw [hgy]
  clear hgy
  go_wp2_with ((with_reducible refine at_loadT 25 11 ?_); refine wpList_load_rowG rfl 25 (.tmp 11) rfl gy rfl 25 _ _ hY9 hu rfl hsz ?_)
  refine (HBQ.out w9 _ hb9w ⟨A8, n8, c8, A9, n9, c9, rfl, s8.up hb9, s9.up hb9⟩).mono ?_
  rintro e w10 ⟨Ay, ny, cy, rfl, sy, hb10⟩
  have hb10w := hb9w.trans (hb10.mono hb9w.size)
  have hny := sy.1
  have hY10 := hY9.below hb10 hY9.lt
  have y10 : w10.cell? ⟨gy, 0, none⟩ = some (.int .i64 p2.fn) := hY10.cell 0
  have hnn : ((ny : Int) != (n : Int)) = false := by simp; omega
  have hbn := hbl
  have HE := Lib.hid hnl
  have HMB := Lib.hid hML
  have HNX := Lib.hid hMb
  have HLN := Lib.hid hbl
  have HNY := Lib.hid hny
  have SB := HB.out w10 hb10w
  have HSB := Lib.hid SB
  have HSY := Lib.hid sy
  have hnm : (n : Int) ≤ 300 := by omega
  clear hnl hML hMb hbl hny SB sy hbn
  go_wp2_with fail
  go_loopw [16] (fun i wr => ∃ j m : Nat, j ≤ n ∧ i = .int .i64 j ∧ wr = w10.drewN m) (fun i _ => n - (intOf i).toNat)
  case atStart => exact ⟨0, 0, Nat.zero_le _, rfl, rfl⟩
  case round =>
    obtain ⟨j, m, hj, rfl, rfl⟩ := hrel
    by_cases hlt : j < n
    · obtain ⟨g, off, x, rfl, _, hx, hc⟩ := HSB.out.2.2.2.2.at_ (i := j) (by have := HLN.out; omega)
      obtain ⟨g', off', y, rfl, _, hy, hc'⟩ := HSY.out.2.2.2.2.at_ (i := j) (by have := HMB.out; have := HLN.out; omega)
      have hjny : j < ny := by have := HMB.out; have := HLN.out; have := HNY.out; omega
      have hltI : (j : Int) < (n : Int) := by omega
      have hjnyI : (j : Int) < (ny : Int) := by omega
      have hw1 : IntKind.i64.wrap ((n : Int) - 1) = (n : Int) - 1 := IntWalk.i64_in _ (by omega)
      by_cases he : y = x
      · have hb : (y != x) = false := by simpa using he
        clear hx hy he
        go_wp2
        go_quiet (fail)
        go_wp2
        go_roundw
        case rel => exact ⟨j + 1, _, by omega, by go_num, rfl⟩
        case measure => simp [intOf]; omega
      · have hb : (y != x) = true := by simpa using he
        have hh : p2.fn = 15 ∧ j + 1 = n := by
          by_cases h1 : j + 1 < n
          · exfalso
            have := HE.out j (by have := HLN.out; omega)
            rw [hx, hy] at this
            exact he (Option.some.inj this)
          · refine ⟨?_, by omega⟩
            by_cases h2 : p2.fn = 15
            · exact h2
            · exfalso
              have := HNX.out h2
              rw [this, hx] at hy
              exact he (Option.some.inj hy).symm
        have t15 : (p2.fn != 15) = false := by simpa using hh.1
        have tj : ((j : Int) != (n : Int) - 1) = false := by simp; omega
        clear hx hy he hh
        go_wp2
        go_quiet (fail)
        go_wp2
        go_roundw
        case rel => exact ⟨j + 1, _, by omega, by go_num, rfl⟩
        case measure => simp [intOf]; omega
    · go_wp2
      go_ret
      exact ⟨rfl, below_drewN hb10w _⟩
end Go.Proofs.YtflbiichdjhaeaaDoor
namespace Go.Proofs.YtflbiichdjhaeaaDoor
open Go.RowKit
set_option linter.unusedVariables false
set_option maxRecDepth 100000 in
set_option maxHeartbeats 4000000 in
theorem back_g2 (a : AskP) (b : List Int) (A2 : Option Addr) (n2 c2 : Nat) (A3 : Option Addr) (n3 c3 : Nat) (B : Option Addr) (n c : Nat) (w : World) (hT : LimT w)
    (h2 : SlB w w.heap.size A2 n2 c2 a.bits) (h3 : SlI w w.heap.size .u16 A3 n3 c3 a.regs) (h3i : Reg16 a.regs) (hB : SlI w w.heap.size .u8 B n c b) (hb8 : Byte8 b) (e2 : (decide (2500 < n2) || decide (300 < n3)) = true) :
    Calls Tryd.prog 7 #[.agg #[.int .i64 a.fn, .int .i64 a.addr, .int .i64 a.count, .int .i64 a.to, .slice A2 n2 c2, .slice A3 n3 c3], .slice B n c] w fun e w' => e = .returned (.bool true) ∧ Below w.heap.size w w' := by
  obtain ⟨w2, hw2⟩ : ∃ w2, w.alloc (.cells #[.int .i64 a.fn, .int .i64 a.addr, .int .i64 a.count, .int .i64 a.to, .slice A2 n2 c2, .slice A3 n3 c3] 25) = w2 := ⟨_, rfl⟩
  have hb2 : Below w.heap.size w w2 := by rw [← hw2]; exact (Below.refl _ w).alloc (Nat.le_refl _) _
  have hP2 : Held w2 w.heap.size 25 #[.int .i64 a.fn, .int .i64 a.addr, .int .i64 a.count, .int .i64 a.to, .slice A2 n2 c2, .slice A3 n3 c3] := by rw [← hw2]; exact Held.new w _ _
  have HG2 := Lib.hid (fun X => great_any A2 A3 n2 c2 n3 c3 X)
  have hu := Tryd.underlying25
  have hsz : (Tryd.prog.info? 25).map (·.size) = some 6 := by kernel_rfl
  have HAL := Lib.hid (alive_own w2 (hT.up hb2))
  clear hT h2 h3 h3i hB hb8
  rw [e2] at HG2
  clear e2
  go_in
  go_wp2_with fail
  refine HAL.out.mono ?_
  rintro e w3 ⟨rfl, hb3⟩
  have hb3w := hb2.trans (hb3.mono hb2.size)
  have hP3 := hP2.below hb3 hP2.lt
  have p3_4 : w3.cell? ⟨w.heap.size, 4, none⟩ = some (.slice A2 n2 c2) := hP3.cell 4
  have p3_5 : w3.cell? ⟨w.heap.size, 5, none⟩ = some (.slice A3 n3 c3) := hP3.cell 5
  go_wp2_with ((go_at_call 10; (with_reducible refine (HG2.out _).mono ?_); rintro e w' ⟨rfl, rfl⟩))
  go_ret
  exact ⟨rfl, hb3w⟩
set_option maxRecDepth 100000 in
set_option maxHeartbeats 4000000 in
theorem back_g5 (a : AskP) (b : List Int) (A2 : Option Addr) (n2 c2 : Nat) (A3 : Option Addr) (n3 c3 : Nat) (B : Option Addr) (n c : Nat) (w : World) (hT : LimT w)
    (h2 : SlB w w.heap.size A2 n2 c2 a.bits) (h3 : SlI w w.heap.size .u16 A3 n3 c3 a.regs) (h3i : Reg16 a.regs) (hB : SlI w w.heap.size .u8 B n c b) (hb8 : Byte8 b) (e2 : (decide (2500 < n2) || decide (300 < n3)) = false) (hn3 : (300 : Int) < (n : Int)) :
    Calls Tryd.prog 7 #[.agg #[.int .i64 a.fn, .int .i64 a.addr, .int .i64 a.count, .int .i64 a.to, .slice A2 n2 c2, .slice A3 n3 c3], .slice B n c] w fun e w' => e = .returned (.bool true) ∧ Below w.heap.size w w' := by
  obtain ⟨w2, hw2⟩ : ∃ w2, w.alloc (.cells #[.int .i64 a.fn, .int .i64 a.addr, .int .i64 a.count, .int .i64 a.to, .slice A2 n2 c2, .slice A3 n3 c3] 25) = w2 := ⟨_, rfl⟩
  have hb2 : Below w.heap.size w w2 := by rw [← hw2]; exact (Below.refl _ w).alloc (Nat.le_refl _) _
  have hP2 : Held w2 w.heap.size 25 #[.int .i64 a.fn, .int .i64 a.addr, .int .i64 a.count, .int .i64 a.to, .slice A2 n2 c2, .slice A3 n3 c3] := by rw [← hw2]; exact Held.new w _ _
  have HG2 := Lib.hid (fun X => great_any A2 A3 n2 c2 n3 c3 X)
  have hu := Tryd.underlying25
  have hsz : (Tryd.prog.info? 25).map (·.size) = some 6 := by kernel_rfl
  have HAL := Lib.hid (alive_own w2 (hT.up hb2))
  clear hT h2 h3 h3i hB hb8
  rw [e2] at HG2
  clear e2
  go_in
  go_wp2_with fail
  refine HAL.out.mono ?_
  rintro e w3 ⟨rfl, hb3⟩
  have hb3w := hb2.trans (hb3.mono hb2.size)
  have hP3 := hP2.below hb3 hP2.lt
  have p3_4 : w3.cell? ⟨w.heap.size, 4, none⟩ = some (.slice A2 n2 c2) := hP3.cell 4
  have p3_5 : w3.cell? ⟨w.heap.size, 5, none⟩ = some (.slice A3 n3 c3) := hP3.cell 5
  go_wp2_with ((go_at_call 10; (with_reducible refine (HG2.out _).mono ?_); rintro e w' ⟨rfl, rfl⟩))
  go_ret
  exact ⟨rfl, hb3w⟩
theorem read_bad (b : List Int) (h : (readP b).2.2 ≠ 0) : (readP b).1 = ask0 ∧ (readP b).2.2 = 190 := by
  unfold readP at h ⊢
  split
  · exact ⟨rfl, rfl⟩
  split
  · exact ⟨rfl, rfl⟩
  split
  · exact ⟨rfl, rfl⟩
  split
  · rename_i h1 _ _ h2 _ _ h3 h4
    rw [if_neg h1, h2, h3] at h
    simp [h4] at h
  · exact ⟨rfl, rfl⟩
theorem law_back (a : AskP) (b : List Int) (A2 : Option Addr) (n2 c2 : Nat) (A3 : Option Addr) (n3 c3 : Nat) (B : Option Addr) (n c : Nat) (w : World) (hT : LimT w)
    (h2 : SlB w w.heap.size A2 n2 c2 a.bits) (h3 : SlI w w.heap.size .u16 A3 n3 c3 a.regs) (h3i : Reg16 a.regs) (hB : SlI w w.heap.size .u8 B n c b) (hb8 : Byte8 b) :
    Calls Tryd.prog 7 #[.agg #[.int .i64 a.fn, .int .i64 a.addr, .int .i64 a.count, .int .i64 a.to, .slice A2 n2 c2, .slice A3 n3 c3], .slice B n c] w fun e w' => e = .returned (.bool true) ∧ Below w.heap.size w w' := by
  by_cases k2 : 2500 < n2 ∨ 300 < n3
  · exact back_g2 a b A2 n2 c2 A3 n3 c3 B n c w hT h2 h3 h3i hB hb8 (by simp; omega)
  by_cases k5 : 300 < n
  · exact back_g5 a b A2 n2 c2 A3 n3 c3 B n c w hT h2 h3 h3i hB hb8 (by simp; omega) (by omega)
  have h0 : Byte8 ([] : List Int) := fun x hx => by cases hx
  have r0 : Reg16 ask0.regs := fun x hx => by cases hx
  by_cases hg : (readP b).2.2 = 0
  · obtain ⟨q, hq, hp, hm, hl⟩ := read_to b hg
    obtain ⟨y1, y2, y3, y4⟩ := bytes_read b q hp hb8
    have hM : askL q = bytesP q := by unfold askL; rw [if_pos hm]
    cases hma : mayP a with
    | false => exact back_none_good a b A2 n2 c2 A3 n3 c3 B n c w hT h2 h3 h3i hB hb8 [] 190 (by unfold askL; rw [hma]; rfl) (by rw [hma]; rfl) h0 _ _ _ rfl q 0 0 hq y4 _ _ rfl rfl (by omega) (by omega) (by omega) rfl rfl (by rw [hm]; rfl) (by rw [hM]; exact y1) (by rw [hM]; exact y2) (by rw [hM]; exact y3)
    | true =>
      obtain ⟨z1, z2, z3, -⟩ := read_bytes a hma
      have hMa : askL a = bytesP a := by unfold askL; rw [if_pos hma]
      exact back_some_good a b A2 n2 c2 A3 n3 c3 B n c w hT h2 h3 h3i hB hb8 (bytesP a) 0 hMa (by rw [hma]; rfl) (byte8_bytes a hma h3i) a 0 0 z1 q 0 0 hq y4 _ _ rfl rfl (by omega) (by omega) (by omega) rfl rfl rfl rfl rfl z3 (by rw [hm]; rfl) (by rw [hM]; exact y1) (by rw [hM]; exact y2) (by rw [hM]; exact y3)
  · obtain ⟨q1, q2⟩ := read_bad b hg
    obtain ⟨p2, qc, qe, hr⟩ : ∃ p2 qc qe, readP b = (p2, qc, qe) := ⟨_, _, _, rfl⟩
    rw [hr] at q1 q2
    simp only at q1 q2
    subst q1 q2
    cases hma : mayP a with
    | false => exact back_none_bad a b A2 n2 c2 A3 n3 c3 B n c w hT h2 h3 h3i hB hb8 [] 190 (by unfold askL; rw [hma]; rfl) (by rw [hma]; rfl) h0 _ _ _ rfl ask0 qc 190 hr r0 _ _ rfl rfl (by omega) (by omega) (by omega) rfl rfl
    | true =>
      obtain ⟨z1, z2, z3, -⟩ := read_bytes a hma
      have hMa : askL a = bytesP a := by unfold askL; rw [if_pos hma]
      exact back_some_bad a b A2 n2 c2 A3 n3 c3 B n c w hT h2 h3 h3i hB hb8 (bytesP a) 0 hMa (by rw [hma]; rfl) (byte8_bytes a hma h3i) a 0 0 z1 ask0 qc 190 hr r0 _ _ rfl rfl (by omega) (by omega) (by omega) rfl rfl rfl rfl rfl z3
end Go.Proofs.YtflbiichdjhaeaaDoor
