/- The law PduReplies: exc. -/
import Derived.Test.YtflbiichdjhaeaaDoorPduAlive
import Derived.Test.YtflbiichdjhaeaaDoorPduSame
import Derived.Test.YtflbiichdjhaeaaDoorPduAnswer
import Derived.Test.YtflbiichdjhaeaaDoorPduRa
import Derived.Test.YtflbiichdjhaeaaDoorQuiet
namespace Go.Proofs.YtflbiichdjhaeaaDoor
open Go.RowKit
set_option linter.unusedVariables false

set_option maxRecDepth 100000 in
set_option maxHeartbeats 4000000 in
theorem rep_exc_none (a : AskP) (r : RepP) (b : List Int) (A2 : Option Addr) (n2 c2 : Nat) (A3 : Option Addr) (n3 c3 : Nat) (A4 : Option Addr) (n4 c4 : Nat) (A5 : Option Addr) (n5 c5 : Nat) (B : Option Addr) (n c : Nat) (w : World) (hT : LimT w)
    (h2 : SlB w w.heap.size A2 n2 c2 a.bits) (h3 : SlI w w.heap.size .u16 A3 n3 c3 a.regs) (h3i : Reg16 a.regs) (h4 : SlB w w.heap.size A4 n4 c4 r.bits) (h5 : SlI w w.heap.size .u16 A5 n5 c5 r.regs) (h5i : Reg16 r.regs) (hB : SlI w w.heap.size .u8 B n c b) (hb8 : Byte8 b) (L : List Int) (ea : Int) (hLA : (answerP a r).getD [] = L) (hea : errV (answerP a r).isSome = ea) (hL8 : Byte8 L) (hLn : L.length ≤ 253) (p1 : RepP) (ef : Int) (hp1 : (readAnswerP a L).getD rep0 = p1) (hef : errV (readAnswerP a L).isSome = ef)
    (p2 : RepP) (eg : Int) (hp2 : (readAnswerP a b).getD rep0 = p2) (heg : errV (readAnswerP a b).isSome = eg) (hq8 : Reg16 p2.regs) (hq1 : p2.bits.length ≤ 100000) (hq2 : p2.regs.length ≤ 100000) (M : List Int) (eh : Int) (hM : (answerP a p2).getD [] = M) (heh : errV (answerP a p2).isSome = eh) (hk2 : n2 ≤ 2500) (hk3 : n3 ≤ 300) (hk4 : n4 ≤ 2500) (hk5 : n5 ≤ 300) (hkn : n ≤ 300) (hE1 : ea = 0) (hE2 : eg = 190) (hE3 : ef = 0) (hp1r : p1 = r) (hL2 : 2 ≤ L.length) (hL253 : L.length ≤ 253) (hL0 : 128 ≤ L.getD 0 0 ↔ 0 < r.code) (hrc : 0 < r.code) :
    Calls Tryd.prog 5 #[.agg #[.int .i64 a.fn, .int .i64 a.addr, .int .i64 a.count, .int .i64 a.to, .slice A2 n2 c2, .slice A3 n3 c3], .agg #[.int .i64 r.fn, .int .i64 r.code, .slice A4 n4 c4, .slice A5 n5 c5], .slice B n c] w fun e w' => e = .returned (.bool true) ∧ Below w.heap.size w w' := by
  obtain ⟨w2, hw2⟩ : ∃ w2, (w.alloc (.cells #[.int .i64 a.fn, .int .i64 a.addr, .int .i64 a.count, .int .i64 a.to, .slice A2 n2 c2, .slice A3 n3 c3] 25)).alloc (.cells #[.int .i64 r.fn, .int .i64 r.code, .slice A4 n4 c4, .slice A5 n5 c5] 34) = w2 := ⟨_, rfl⟩
  have hb2 : Below w.heap.size w w2 := by rw [← hw2]; exact (((Below.refl _ w).alloc (Nat.le_refl _) _).alloc (by simp) _)
  have hP2 : Held w2 w.heap.size 25 #[.int .i64 a.fn, .int .i64 a.addr, .int .i64 a.count, .int .i64 a.to, .slice A2 n2 c2, .slice A3 n3 c3] := by rw [← hw2]; exact (Held.new w _ _).alloc _
  have hQ2 : Held w2 (w.heap.size + 1) 34 #[.int .i64 r.fn, .int .i64 r.code, .slice A4 n4 c4, .slice A5 n5 c5] := by rw [← hw2]; have := Held.new (w.alloc (.cells #[.int .i64 a.fn, .int .i64 a.addr, .int .i64 a.count, .int .i64 a.to, .slice A2 n2 c2, .slice A3 n3 c3] 25)) 34 #[.int .i64 r.fn, .int .i64 r.code, .slice A4 n4 c4, .slice A5 n5 c5]; rw [World.size_alloc] at this; exact this
  have HG2 := Lib.hid (fun X => great_any A2 A3 n2 c2 n3 c3 X)
  have HG4 := Lib.hid (fun X => great_any A4 A5 n4 c4 n5 c5 X)
  have hu := Tryd.underlying25
  have hu4 := Tryd.underlying34
  have hsz : (Tryd.prog.info? 25).map (·.size) = some 6 := by kernel_rfl
  have hsz4 : (Tryd.prog.info? 34).map (·.size) = some 4 := by kernel_rfl
  have g4n := h4.1
  have g5n := h5.1
  have L4 : r.bits.length ≤ 100000 := by omega
  have L5 : r.regs.length ≤ 100000 := by omega
  have HAL := Lib.hid (alive_own w2 (hT.up hb2))
  have HAN : Hid (∀ X, Below w.heap.size w X → Calls Tryd.prog 13 #[.agg #[.int .i64 a.fn, .int .i64 a.addr, .int .i64 a.count, .int .i64 a.to, .slice A2 n2 c2, .slice A3 n3 c3], .agg #[.int .i64 r.fn, .int .i64 r.code, .slice A4 n4 c4, .slice A5 n5 c5]] X fun e w' => ∃ A n c, e = .returned (.tuple #[.slice A n c, .int .i64 ea]) ∧ SlI w' w'.heap.size .u8 A n c L ∧ Below X.heap.size X w') := Lib.hid (fun X h => by rw [← hLA, ← hea]; exact answer_own (.agg #[.int .i64 a.fn, .int .i64 a.addr, .int .i64 a.count, .int .i64 a.to, .slice A2 n2 c2, .slice A3 n3 c3]) (.agg #[.int .i64 r.fn, .int .i64 r.code, .slice A4 n4 c4, .slice A5 n5 c5]) a r X (hT.up h) ⟨A2, n2, c2, A3, n3, c3, rfl, h2.up h, h3.up h⟩ ⟨A4, n4, c4, A5, n5, c5, rfl, h4.up h, h5.up h⟩ h3i h5i L4 L5)
  have HRX : Hid (∀ X A m d, Below w.heap.size w X → SlI X X.heap.size .u8 A m d L → Calls Tryd.prog 15 #[.agg #[.int .i64 a.fn, .int .i64 a.addr, .int .i64 a.count, .int .i64 a.to, .slice A2 n2 c2, .slice A3 n3 c3], .slice A m d] X fun e w' => ∃ v, e = .returned (.tuple #[v, .int .i64 ef]) ∧ RepAt w' v p1 ∧ Below X.heap.size X w') := Lib.hid (fun X A m d h hs => by rw [← hp1, ← hef]; exact readanswer_own (.agg #[.int .i64 a.fn, .int .i64 a.addr, .int .i64 a.count, .int .i64 a.to, .slice A2 n2 c2, .slice A3 n3 c3]) a A m d L X (hT.up h) ⟨A2, n2, c2, A3, n3, c3, rfl, h2.up h, h3.up h⟩ h3i hs hL8 (by have := hs.1; omega))
  have HRA : Hid (∀ X, Below w.heap.size w X → Calls Tryd.prog 15 #[.agg #[.int .i64 a.fn, .int .i64 a.addr, .int .i64 a.count, .int .i64 a.to, .slice A2 n2 c2, .slice A3 n3 c3], .slice B n c] X fun e w' => ∃ v, e = .returned (.tuple #[v, .int .i64 eg]) ∧ RepAt w' v p2 ∧ Below X.heap.size X w') := Lib.hid (fun X h => by rw [← hp2, ← heg]; exact readanswer_own (.agg #[.int .i64 a.fn, .int .i64 a.addr, .int .i64 a.count, .int .i64 a.to, .slice A2 n2 c2, .slice A3 n3 c3]) a B n c b X (hT.up h) ⟨A2, n2, c2, A3, n3, c3, rfl, h2.up h, h3.up h⟩ h3i (hB.up h) hb8 (by omega))
  have HAQ : Hid (∀ X v, Below w.heap.size w X → RepAt X v p2 → Calls Tryd.prog 13 #[.agg #[.int .i64 a.fn, .int .i64 a.addr, .int .i64 a.count, .int .i64 a.to, .slice A2 n2 c2, .slice A3 n3 c3], v] X fun e w' => ∃ A n c, e = .returned (.tuple #[.slice A n c, .int .i64 eh]) ∧ SlI w' w'.heap.size .u8 A n c M ∧ Below X.heap.size X w') := Lib.hid (fun X v h hv => by rw [← hM, ← heh]; exact answer_own (.agg #[.int .i64 a.fn, .int .i64 a.addr, .int .i64 a.count, .int .i64 a.to, .slice A2 n2 c2, .slice A3 n3 c3]) v a p2 X (hT.up h) ⟨A2, n2, c2, A3, n3, c3, rfl, h2.up h, h3.up h⟩ hv h3i hq8 hq1 hq2)
  have HQR : Hid (∀ X, Below w.heap.size w X → RepAt X (.agg #[.int .i64 r.fn, .int .i64 r.code, .slice A4 n4 c4, .slice A5 n5 c5]) r) := Lib.hid (fun X h => ⟨A4, n4, c4, A5, n5, c5, rfl, h4.up h, h5.up h⟩)
  have HB := Lib.hid (fun (X : World) (h : Below w.heap.size w X) => hB.up h)
  have e2 : (decide (2500 < n2) || decide (300 < n3)) = false := by simp; omega
  have e4 : (decide (2500 < n4) || decide (300 < n5)) = false := by simp; omega
  have hn3 : ¬ (300 : Int) < (n : Int) := by omega
  rw [e2] at HG2
  rw [e4] at HG4
  clear e2 e4 hLA hea hL8 hLn hp1 hef hp2 heg hq8 hq1 hq2 hM heh hT h2 h3 h4 h5 h3i h5i hB hb8 L4 L5 g4n g5n hk2 hk3 hk4 hk5 hkn
  have hb2w := hb2
  subst hE1 hE2
  subst hE3
  have HP1 := Lib.hid hp1r
  clear hp1r
  go_in
  go_wp2_with fail
  refine HAL.out.mono ?_
  rintro e w3 ⟨rfl, hb3⟩
  have hb3w := hb2w.trans (hb3.mono hb2w.size)
  have hP3 := hP2.below hb3 hP2.lt
  have hQ3 := hQ2.below hb3 hQ2.lt
  have p3_4 : w3.cell? ⟨w.heap.size, 4, none⟩ = some (.slice A2 n2 c2) := hP3.cell 4
  have p3_5 : w3.cell? ⟨w.heap.size, 5, none⟩ = some (.slice A3 n3 c3) := hP3.cell 5
  have q3_2 : w3.cell? ⟨w.heap.size + 1, 2, none⟩ = some (.slice A4 n4 c4) := hQ3.cell 2
  have q3_3 : w3.cell? ⟨w.heap.size + 1, 3, none⟩ = some (.slice A5 n5 c5) := hQ3.cell 3
  go_wp2_with (first | (first
  | (go_at_call 10; (with_reducible refine (HG2.out _).mono ?_); rintro e w' ⟨rfl, rfl⟩)
  | (go_at_call 10; (with_reducible refine (HG4.out _).mono ?_); rintro e w' ⟨rfl, rfl⟩)) | (first | ((with_reducible refine at_loadT 25 3 ?_); refine wpList_load_rowG rfl 25 (.tmp 3) rfl w.heap.size rfl 25 _ _ hP3 hu rfl hsz ?_) | ((with_reducible refine at_loadT 34 4 ?_); refine wpList_load_rowG rfl 34 (.tmp 4) rfl (w.heap.size + 1) rfl 34 _ _ hQ3 hu4 rfl hsz4 ?_)))
  refine (HAN.out w3 hb3w).mono ?_
  rintro e w4 ⟨Ax, nx, cx, rfl, sx, hb4⟩
  have hb4w := hb3w.trans (hb4.mono hb3w.size)
  have hP4 := hP3.below hb4 hP3.lt
  have hQ4 := hQ3.below hb4 hQ3.lt
  go_wp2_with (first | ((with_reducible refine at_loadT 25 3 ?_); refine wpList_load_rowG rfl 25 (.tmp 3) rfl w.heap.size rfl 25 _ _ hP4 hu rfl hsz ?_) | ((with_reducible refine at_loadT 34 4 ?_); refine wpList_load_rowG rfl 34 (.tmp 4) rfl (w.heap.size + 1) rfl 34 _ _ hQ4 hu4 rfl hsz4 ?_))
  refine (HRX.out w4 _ _ _ hb4w sx).mono ?_
  rintro e w5 ⟨v1, rfl, ⟨A6, n6, c6, A7, n7, c7, rfl, s6, s7⟩, hb5⟩
  have hb5w := hb4w.trans (hb5.mono hb4w.size)
  have hP5 := hP4.below hb5 hP4.lt
  have hQ5 := hQ4.below hb5 hQ4.lt
  go_upto_region 6 with (fail)
  obtain ⟨w6, hw6⟩ : ∃ W, w5.alloc (.cells #[.int .i64 p1.fn, .int .i64 p1.code, .slice A6 n6 c6, .slice A7 n7 c7] 34) = W := ⟨_, rfl⟩
  have hb6 : Below w5.heap.size w5 w6 := by rw [← hw6]; exact (Below.refl _ _).alloc (Nat.le_refl _) _
  have hb6w := hb5w.trans (hb6.mono hb5w.size)
  have hX6 : Held w6 w5.heap.size 34 #[.int .i64 p1.fn, .int .i64 p1.code, .slice A6 n6 c6, .slice A7 n7 c7] := by rw [← hw6]; exact Held.new _ _ _
  rw [hw6]
  clear hw6
  have hP6 := hP5.below hb6 hP5.lt
  have hQ6 := hQ5.below hb6 hQ5.lt
  obtain ⟨w7, hw7⟩ : ∃ W : World, w6.drew = W := ⟨_, rfl⟩
  have hb7 : Below w6.heap.size w6 w7 := by rw [← hw7]; exact (Below.refl _ _).drew
  have hb7w := hb6w.trans (hb7.mono hb6w.size)
  have hz7 := hb7w.size
  have hP7 := hP6.below hb7 hP6.lt
  have hQ7 := hQ6.below hb7 hQ6.lt
  have hX7 := hX6.below hb7 hX6.lt
  obtain ⟨gx, ox, x0, rfl, hgx, hxx, hcx⟩ := sx.2.2.2.2.at_ (i := 0) (by omega)
  rw [Nat.add_zero] at hcx
  have g0 : L.getD 0 0 = x0 := by rw [List.getD, hxx]; rfl
  rw [g0] at hL0
  have hnx := sx.1
  have HX : Hid (∀ W, Below w7.heap.size w7 W → W.cell? ⟨gx, ox, none⟩ = some (.int .u8 x0)) := Lib.hid (fun W h => ((((hb5.trans (hb6.mono hb5.size)).trans (hb7.mono (Nat.le_trans hb5.size hb6.size))).trans (h.mono (Nat.le_trans hb5.size (Nat.le_trans hb6.size hb7.size)))).cell (p := ⟨gx, ox, none⟩) hgx).trans hcx)
  have HSB : Hid (∀ X, Below w7.heap.size w7 X → Calls Tryd.prog 17 #[.agg #[.int .i64 p1.fn, .int .i64 p1.code, .slice A6 n6 c6, .slice A7 n7 c7], .agg #[.int .i64 r.fn, .int .i64 r.code, .slice A4 n4 c4, .slice A5 n5 c5]] X fun e w' => e = .returned (.bool true) ∧ Below X.heap.size X w') := Lib.hid (fun X h => by
    have := samer_ref (.agg #[.int .i64 p1.fn, .int .i64 p1.code, .slice A6 n6 c6, .slice A7 n7 c7]) (.agg #[.int .i64 r.fn, .int .i64 r.code, .slice A4 n4 c4, .slice A5 n5 c5]) p1 r X ⟨A6, n6, c6, A7, n7, c7, rfl, ((s6.up hb6).up hb7).up h, ((s7.up hb6).up hb7).up h⟩ (HQR.out X (hb7w.trans (h.mono hz7)))
    rw [decide_eq_true HP1.out] at this
    exact this)
  have hnx0 : (0 : Int) < (nx : Int) := by omega
  have hnx0' : 0 < nx := by omega
  have hnx1 : ¬ (253 : Int) < (nx : Int) := by omega
  have hnx2 : ¬ (nx : Int) < 2 := by omega
  have hnx3 : ¬ (nx : Int) ≤ 0 := by omega
  have hx128 : 128 ≤ x0 := by exact hL0.2 hrc
  clear sx s6 s7 hxx hcx hL0 hL2 hL253 g0 hnx
  refine wp_region_held (S := Below w7.heap.size w7) (by kernel_rfl) ?_
  change wpAnyH _ _ _ _ _ _ _ _ w6.drew
  rw [hw7]
  have hS := Below.refl w7.heap.size w7
  refine wpAnyH_take (i := 0) (v := ?v0_1) rfl (by kernel_rfl) (by kernel_rfl) (by kernel_rfl) (fun _ _ _ h => h) (Or.inl ⟨by rfl, ?y0_1⟩) hS ?r0_1
  case y0_1 =>
    rintro W hH
    have hXW := hX7.below hH hX7.lt
    have hQW := hQ7.below hH hQ7.lt
    have hcx := HX.out W hH
    have pp0 : W.cell? ⟨w5.heap.size, 0, none⟩ = some (.int .i64 p1.fn) := hXW.cell 0
    have pp1 : W.cell? ⟨w5.heap.size, 1, none⟩ = some (.int .i64 p1.code) := hXW.cell 1
    have pp2 : W.cell? ⟨w5.heap.size, 2, none⟩ = some (.slice A6 n6 c6) := hXW.cell 2
    have pp3 : W.cell? ⟨w5.heap.size, 3, none⟩ = some (.slice A7 n7 c7) := hXW.cell 3
    have qq0 : W.cell? ⟨w.heap.size + 1, 0, none⟩ = some (.int .i64 r.fn) := hQW.cell 0
    have qq1 : W.cell? ⟨w.heap.size + 1, 1, none⟩ = some (.int .i64 r.code) := hQW.cell 1
    have qq2 : W.cell? ⟨w.heap.size + 1, 2, none⟩ = some (.slice A4 n4 c4) := hQW.cell 2
    have qq3 : W.cell? ⟨w.heap.size + 1, 3, none⟩ = some (.slice A5 n5 c5) := hQW.cell 3
    clear hXW hQW
    go_simp
    with_reducible rfl
  simp only [Act.put]
  try simp only [List.getElem_toArray, List.getElem_cons_zero]
  try simp only [List.setIfInBounds_toArray, List.set_cons_succ, List.set_cons_zero]
  refine wpAnyH_take (i := 1) (v := ?v1_2) rfl (by kernel_rfl) (by kernel_rfl) (by kernel_rfl) (fun _ _ _ h => h) (Or.inl ⟨by rfl, ?y1_2⟩) hS ?r1_2
  case y1_2 =>
    rintro W hH
    have hXW := hX7.below hH hX7.lt
    have hQW := hQ7.below hH hQ7.lt
    have hcx := HX.out W hH
    have pp0 : W.cell? ⟨w5.heap.size, 0, none⟩ = some (.int .i64 p1.fn) := hXW.cell 0
    have pp1 : W.cell? ⟨w5.heap.size, 1, none⟩ = some (.int .i64 p1.code) := hXW.cell 1
    have pp2 : W.cell? ⟨w5.heap.size, 2, none⟩ = some (.slice A6 n6 c6) := hXW.cell 2
    have pp3 : W.cell? ⟨w5.heap.size, 3, none⟩ = some (.slice A7 n7 c7) := hXW.cell 3
    have qq0 : W.cell? ⟨w.heap.size + 1, 0, none⟩ = some (.int .i64 r.fn) := hQW.cell 0
    have qq1 : W.cell? ⟨w.heap.size + 1, 1, none⟩ = some (.int .i64 r.code) := hQW.cell 1
    have qq2 : W.cell? ⟨w.heap.size + 1, 2, none⟩ = some (.slice A4 n4 c4) := hQW.cell 2
    have qq3 : W.cell? ⟨w.heap.size + 1, 3, none⟩ = some (.slice A5 n5 c5) := hQW.cell 3
    clear hXW hQW
    go_simp
    with_reducible rfl
  simp only [Act.put]
  try simp only [List.getElem_toArray, List.getElem_cons_succ, List.getElem_cons_zero]
  try simp only [List.setIfInBounds_toArray, List.set_cons_succ, List.set_cons_zero]
  refine wpAnyH_take (i := 2) (v := ?v2_3) rfl (by kernel_rfl) (by kernel_rfl) (by kernel_rfl) (fun _ _ _ h => h) (Or.inl ⟨by rfl, ?y2_3⟩) hS ?r2_3
  case y2_3 =>
    rintro W hH
    have hXW := hX7.below hH hX7.lt
    have hQW := hQ7.below hH hQ7.lt
    have hcx := HX.out W hH
    have pp0 : W.cell? ⟨w5.heap.size, 0, none⟩ = some (.int .i64 p1.fn) := hXW.cell 0
    have pp1 : W.cell? ⟨w5.heap.size, 1, none⟩ = some (.int .i64 p1.code) := hXW.cell 1
    have pp2 : W.cell? ⟨w5.heap.size, 2, none⟩ = some (.slice A6 n6 c6) := hXW.cell 2
    have pp3 : W.cell? ⟨w5.heap.size, 3, none⟩ = some (.slice A7 n7 c7) := hXW.cell 3
    have qq0 : W.cell? ⟨w.heap.size + 1, 0, none⟩ = some (.int .i64 r.fn) := hQW.cell 0
    have qq1 : W.cell? ⟨w.heap.size + 1, 1, none⟩ = some (.int .i64 r.code) := hQW.cell 1
    have qq2 : W.cell? ⟨w.heap.size + 1, 2, none⟩ = some (.slice A4 n4 c4) := hQW.cell 2
    have qq3 : W.cell? ⟨w.heap.size + 1, 3, none⟩ = some (.slice A5 n5 c5) := hQW.cell 3
    clear hXW hQW
    go_simp
    with_reducible rfl
  simp only [Act.put]
  try simp only [List.getElem_toArray, List.getElem_cons_succ, List.getElem_cons_zero]
  try simp only [List.setIfInBounds_toArray, List.set_cons_succ, List.set_cons_zero]
  refine wpAnyH_take (i := 3) (v := ?v3_4) rfl (by kernel_rfl) (by kernel_rfl) (by kernel_rfl) (fun _ _ _ h => h) (Or.inl ⟨by rfl, ?y3_4⟩) hS ?r3_4
  case y3_4 =>
    rintro W hH
    have hXW := hX7.below hH hX7.lt
    have hQW := hQ7.below hH hQ7.lt
    have hcx := HX.out W hH
    have pp0 : W.cell? ⟨w5.heap.size, 0, none⟩ = some (.int .i64 p1.fn) := hXW.cell 0
    have pp1 : W.cell? ⟨w5.heap.size, 1, none⟩ = some (.int .i64 p1.code) := hXW.cell 1
    have pp2 : W.cell? ⟨w5.heap.size, 2, none⟩ = some (.slice A6 n6 c6) := hXW.cell 2
    have pp3 : W.cell? ⟨w5.heap.size, 3, none⟩ = some (.slice A7 n7 c7) := hXW.cell 3
    have qq0 : W.cell? ⟨w.heap.size + 1, 0, none⟩ = some (.int .i64 r.fn) := hQW.cell 0
    have qq1 : W.cell? ⟨w.heap.size + 1, 1, none⟩ = some (.int .i64 r.code) := hQW.cell 1
    have qq2 : W.cell? ⟨w.heap.size + 1, 2, none⟩ = some (.slice A4 n4 c4) := hQW.cell 2
    have qq3 : W.cell? ⟨w.heap.size + 1, 3, none⟩ = some (.slice A5 n5 c5) := hQW.cell 3
    clear hXW hQW
    go_simp
    with_reducible rfl
  simp only [Act.put]
  try simp only [List.getElem_toArray, List.getElem_cons_succ, List.getElem_cons_zero]
  try simp only [List.setIfInBounds_toArray, List.set_cons_succ, List.set_cons_zero]
  refine wpAnyH_take (i := 4) (v := ?v4_5) rfl (by kernel_rfl) (by kernel_rfl) (by kernel_rfl) (fun _ _ _ h => h) (Or.inl ⟨by rfl, ?y4_5⟩) hS ?r4_5
  case y4_5 =>
    rintro W hH
    have hXW := hX7.below hH hX7.lt
    have hQW := hQ7.below hH hQ7.lt
    have hcx := HX.out W hH
    have pp0 : W.cell? ⟨w5.heap.size, 0, none⟩ = some (.int .i64 p1.fn) := hXW.cell 0
    have pp1 : W.cell? ⟨w5.heap.size, 1, none⟩ = some (.int .i64 p1.code) := hXW.cell 1
    have pp2 : W.cell? ⟨w5.heap.size, 2, none⟩ = some (.slice A6 n6 c6) := hXW.cell 2
    have pp3 : W.cell? ⟨w5.heap.size, 3, none⟩ = some (.slice A7 n7 c7) := hXW.cell 3
    have qq0 : W.cell? ⟨w.heap.size + 1, 0, none⟩ = some (.int .i64 r.fn) := hQW.cell 0
    have qq1 : W.cell? ⟨w.heap.size + 1, 1, none⟩ = some (.int .i64 r.code) := hQW.cell 1
    have qq2 : W.cell? ⟨w.heap.size + 1, 2, none⟩ = some (.slice A4 n4 c4) := hQW.cell 2
    have qq3 : W.cell? ⟨w.heap.size + 1, 3, none⟩ = some (.slice A5 n5 c5) := hQW.cell 3
    clear hXW hQW
    go_simp
    with_reducible rfl
  simp only [Act.put]
  try simp only [List.getElem_toArray, List.getElem_cons_succ, List.getElem_cons_zero]
  try simp only [List.setIfInBounds_toArray, List.set_cons_succ, List.set_cons_zero]
  refine wpAnyH_take (i := 5) (v := ?v5_6) rfl (by kernel_rfl) (by kernel_rfl) (by kernel_rfl) (fun _ _ _ h => h) (Or.inl ⟨by rfl, ?y5_6⟩) hS ?r5_6
  case y5_6 =>
    rintro W hH
    have hXW := hX7.below hH hX7.lt
    have hQW := hQ7.below hH hQ7.lt
    have hcx := HX.out W hH
    have pp0 : W.cell? ⟨w5.heap.size, 0, none⟩ = some (.int .i64 p1.fn) := hXW.cell 0
    have pp1 : W.cell? ⟨w5.heap.size, 1, none⟩ = some (.int .i64 p1.code) := hXW.cell 1
    have pp2 : W.cell? ⟨w5.heap.size, 2, none⟩ = some (.slice A6 n6 c6) := hXW.cell 2
    have pp3 : W.cell? ⟨w5.heap.size, 3, none⟩ = some (.slice A7 n7 c7) := hXW.cell 3
    have qq0 : W.cell? ⟨w.heap.size + 1, 0, none⟩ = some (.int .i64 r.fn) := hQW.cell 0
    have qq1 : W.cell? ⟨w.heap.size + 1, 1, none⟩ = some (.int .i64 r.code) := hQW.cell 1
    have qq2 : W.cell? ⟨w.heap.size + 1, 2, none⟩ = some (.slice A4 n4 c4) := hQW.cell 2
    have qq3 : W.cell? ⟨w.heap.size + 1, 3, none⟩ = some (.slice A5 n5 c5) := hQW.cell 3
    clear hXW hQW
    go_simp
    with_reducible rfl
  simp only [Act.put]
  try simp only [List.getElem_toArray, List.getElem_cons_succ, List.getElem_cons_zero]
  try simp only [List.setIfInBounds_toArray, List.set_cons_succ, List.set_cons_zero]
  refine wpAnyH_take (i := 6) (v := ?v6_7) rfl (by kernel_rfl) (by kernel_rfl) (by kernel_rfl) (fun _ _ _ h => h) (Or.inl ⟨by rfl, ?y6_7⟩) hS ?r6_7
  case y6_7 =>
    rintro W hH
    have hXW := hX7.below hH hX7.lt
    have hQW := hQ7.below hH hQ7.lt
    have hcx := HX.out W hH
    have pp0 : W.cell? ⟨w5.heap.size, 0, none⟩ = some (.int .i64 p1.fn) := hXW.cell 0
    have pp1 : W.cell? ⟨w5.heap.size, 1, none⟩ = some (.int .i64 p1.code) := hXW.cell 1
    have pp2 : W.cell? ⟨w5.heap.size, 2, none⟩ = some (.slice A6 n6 c6) := hXW.cell 2
    have pp3 : W.cell? ⟨w5.heap.size, 3, none⟩ = some (.slice A7 n7 c7) := hXW.cell 3
    have qq0 : W.cell? ⟨w.heap.size + 1, 0, none⟩ = some (.int .i64 r.fn) := hQW.cell 0
    have qq1 : W.cell? ⟨w.heap.size + 1, 1, none⟩ = some (.int .i64 r.code) := hQW.cell 1
    have qq2 : W.cell? ⟨w.heap.size + 1, 2, none⟩ = some (.slice A4 n4 c4) := hQW.cell 2
    have qq3 : W.cell? ⟨w.heap.size + 1, 3, none⟩ = some (.slice A5 n5 c5) := hQW.cell 3
    clear hXW hQW
    go_simp
    with_reducible rfl
  simp only [Act.put]
  try simp only [List.getElem_toArray, List.getElem_cons_succ, List.getElem_cons_zero]
  try simp only [List.setIfInBounds_toArray, List.set_cons_succ, List.set_cons_zero]
  refine wpAnyH_take (i := 7) (v := ?v7_8) rfl (by kernel_rfl) (by kernel_rfl) (by kernel_rfl) (fun _ _ _ h => h) (Or.inl ⟨by rfl, ?y7_8⟩) hS ?r7_8
  case y7_8 =>
    rintro W hH
    have hXW := hX7.below hH hX7.lt
    have hQW := hQ7.below hH hQ7.lt
    have hcx := HX.out W hH
    have pp0 : W.cell? ⟨w5.heap.size, 0, none⟩ = some (.int .i64 p1.fn) := hXW.cell 0
    have pp1 : W.cell? ⟨w5.heap.size, 1, none⟩ = some (.int .i64 p1.code) := hXW.cell 1
    have pp2 : W.cell? ⟨w5.heap.size, 2, none⟩ = some (.slice A6 n6 c6) := hXW.cell 2
    have pp3 : W.cell? ⟨w5.heap.size, 3, none⟩ = some (.slice A7 n7 c7) := hXW.cell 3
    have qq0 : W.cell? ⟨w.heap.size + 1, 0, none⟩ = some (.int .i64 r.fn) := hQW.cell 0
    have qq1 : W.cell? ⟨w.heap.size + 1, 1, none⟩ = some (.int .i64 r.code) := hQW.cell 1
    have qq2 : W.cell? ⟨w.heap.size + 1, 2, none⟩ = some (.slice A4 n4 c4) := hQW.cell 2
    have qq3 : W.cell? ⟨w.heap.size + 1, 3, none⟩ = some (.slice A5 n5 c5) := hQW.cell 3
    clear hXW hQW
    go_simp
    with_reducible rfl
  simp only [Act.put]
  try simp only [List.getElem_toArray, List.getElem_cons_succ, List.getElem_cons_zero]
  try simp only [List.setIfInBounds_toArray, List.set_cons_succ, List.set_cons_zero]
  refine wpAnyH_ready (rs := [8]) (by kernel_rfl) (by simp) ?_
  refine AllReadyH.cons rfl (fun K' hK' => ?_) AllReadyH.nil
  go_simp
  refine (HSB.out _ hS).mono ?_
  rintro e wn ⟨rfl, hn⟩
  have hS7 := hS.trans (hn.mono hS.size)
  clear hS hn
  go_simp
  refine hK'.out _ _ hS7 (fun hS => ?_)
  clear hK' K'
  refine wpAnyH_take (i := 9) (v := ?v9_9) rfl (by kernel_rfl) (by kernel_rfl) (by kernel_rfl) (fun _ _ _ h => h) (Or.inl ⟨by rfl, ?y9_9⟩) hS ?r9_9
  case y9_9 =>
    rintro W hH
    have hXW := hX7.below hH hX7.lt
    have hQW := hQ7.below hH hQ7.lt
    have hcx := HX.out W hH
    have pp0 : W.cell? ⟨w5.heap.size, 0, none⟩ = some (.int .i64 p1.fn) := hXW.cell 0
    have pp1 : W.cell? ⟨w5.heap.size, 1, none⟩ = some (.int .i64 p1.code) := hXW.cell 1
    have pp2 : W.cell? ⟨w5.heap.size, 2, none⟩ = some (.slice A6 n6 c6) := hXW.cell 2
    have pp3 : W.cell? ⟨w5.heap.size, 3, none⟩ = some (.slice A7 n7 c7) := hXW.cell 3
    have qq0 : W.cell? ⟨w.heap.size + 1, 0, none⟩ = some (.int .i64 r.fn) := hQW.cell 0
    have qq1 : W.cell? ⟨w.heap.size + 1, 1, none⟩ = some (.int .i64 r.code) := hQW.cell 1
    have qq2 : W.cell? ⟨w.heap.size + 1, 2, none⟩ = some (.slice A4 n4 c4) := hQW.cell 2
    have qq3 : W.cell? ⟨w.heap.size + 1, 3, none⟩ = some (.slice A5 n5 c5) := hQW.cell 3
    clear hXW hQW
    go_simp
    with_reducible rfl
  simp only [Act.put]
  try simp only [List.getElem_toArray, List.getElem_cons_succ, List.getElem_cons_zero]
  try simp only [List.setIfInBounds_toArray, List.set_cons_succ, List.set_cons_zero]
  refine wpAnyH_take (i := 10) (v := ?v10_10) rfl (by kernel_rfl) (by kernel_rfl) (by kernel_rfl) (fun _ _ _ h => h) (Or.inl ⟨by rfl, ?y10_10⟩) hS ?r10_10
  case y10_10 =>
    rintro W hH
    have hXW := hX7.below hH hX7.lt
    have hQW := hQ7.below hH hQ7.lt
    have hcx := HX.out W hH
    have pp0 : W.cell? ⟨w5.heap.size, 0, none⟩ = some (.int .i64 p1.fn) := hXW.cell 0
    have pp1 : W.cell? ⟨w5.heap.size, 1, none⟩ = some (.int .i64 p1.code) := hXW.cell 1
    have pp2 : W.cell? ⟨w5.heap.size, 2, none⟩ = some (.slice A6 n6 c6) := hXW.cell 2
    have pp3 : W.cell? ⟨w5.heap.size, 3, none⟩ = some (.slice A7 n7 c7) := hXW.cell 3
    have qq0 : W.cell? ⟨w.heap.size + 1, 0, none⟩ = some (.int .i64 r.fn) := hQW.cell 0
    have qq1 : W.cell? ⟨w.heap.size + 1, 1, none⟩ = some (.int .i64 r.code) := hQW.cell 1
    have qq2 : W.cell? ⟨w.heap.size + 1, 2, none⟩ = some (.slice A4 n4 c4) := hQW.cell 2
    have qq3 : W.cell? ⟨w.heap.size + 1, 3, none⟩ = some (.slice A5 n5 c5) := hQW.cell 3
    clear hXW hQW
    go_simp
    with_reducible rfl
  simp only [Act.put]
  try simp only [List.getElem_toArray, List.getElem_cons_succ, List.getElem_cons_zero]
  try simp only [List.setIfInBounds_toArray, List.set_cons_succ, List.set_cons_zero]
  refine wpAnyH_take (i := 11) (v := ?v11_11) rfl (by kernel_rfl) (by kernel_rfl) (by kernel_rfl) (fun _ _ _ h => h) (Or.inl ⟨by rfl, ?y11_11⟩) hS ?r11_11
  case y11_11 =>
    rintro W hH
    have hXW := hX7.below hH hX7.lt
    have hQW := hQ7.below hH hQ7.lt
    have hcx := HX.out W hH
    have pp0 : W.cell? ⟨w5.heap.size, 0, none⟩ = some (.int .i64 p1.fn) := hXW.cell 0
    have pp1 : W.cell? ⟨w5.heap.size, 1, none⟩ = some (.int .i64 p1.code) := hXW.cell 1
    have pp2 : W.cell? ⟨w5.heap.size, 2, none⟩ = some (.slice A6 n6 c6) := hXW.cell 2
    have pp3 : W.cell? ⟨w5.heap.size, 3, none⟩ = some (.slice A7 n7 c7) := hXW.cell 3
    have qq0 : W.cell? ⟨w.heap.size + 1, 0, none⟩ = some (.int .i64 r.fn) := hQW.cell 0
    have qq1 : W.cell? ⟨w.heap.size + 1, 1, none⟩ = some (.int .i64 r.code) := hQW.cell 1
    have qq2 : W.cell? ⟨w.heap.size + 1, 2, none⟩ = some (.slice A4 n4 c4) := hQW.cell 2
    have qq3 : W.cell? ⟨w.heap.size + 1, 3, none⟩ = some (.slice A5 n5 c5) := hQW.cell 3
    clear hXW hQW
    go_simp
    with_reducible rfl
  simp only [Act.put]
  try simp only [List.getElem_toArray, List.getElem_cons_succ, List.getElem_cons_zero]
  try simp only [List.setIfInBounds_toArray, List.set_cons_succ, List.set_cons_zero]
  refine wpAnyH_take (i := 12) (v := ?v12_12) rfl (by kernel_rfl) (by kernel_rfl) (by kernel_rfl) (fun _ _ _ h => h) (Or.inl ⟨by rfl, ?y12_12⟩) hS ?r12_12
  case y12_12 =>
    rintro W hH
    have hXW := hX7.below hH hX7.lt
    have hQW := hQ7.below hH hQ7.lt
    have hcx := HX.out W hH
    have pp0 : W.cell? ⟨w5.heap.size, 0, none⟩ = some (.int .i64 p1.fn) := hXW.cell 0
    have pp1 : W.cell? ⟨w5.heap.size, 1, none⟩ = some (.int .i64 p1.code) := hXW.cell 1
    have pp2 : W.cell? ⟨w5.heap.size, 2, none⟩ = some (.slice A6 n6 c6) := hXW.cell 2
    have pp3 : W.cell? ⟨w5.heap.size, 3, none⟩ = some (.slice A7 n7 c7) := hXW.cell 3
    have qq0 : W.cell? ⟨w.heap.size + 1, 0, none⟩ = some (.int .i64 r.fn) := hQW.cell 0
    have qq1 : W.cell? ⟨w.heap.size + 1, 1, none⟩ = some (.int .i64 r.code) := hQW.cell 1
    have qq2 : W.cell? ⟨w.heap.size + 1, 2, none⟩ = some (.slice A4 n4 c4) := hQW.cell 2
    have qq3 : W.cell? ⟨w.heap.size + 1, 3, none⟩ = some (.slice A5 n5 c5) := hQW.cell 3
    clear hXW hQW
    go_simp
    with_reducible rfl
  simp only [Act.put]
  try simp only [List.getElem_toArray, List.getElem_cons_succ, List.getElem_cons_zero]
  try simp only [List.setIfInBounds_toArray, List.set_cons_succ, List.set_cons_zero]
  refine wpAnyH_take (i := 13) (v := ?v13_13) rfl (by kernel_rfl) (by kernel_rfl) (by kernel_rfl) (fun _ _ _ h => h) (Or.inl ⟨by rfl, ?y13_13⟩) hS ?r13_13
  case y13_13 =>
    rintro W hH
    have hXW := hX7.below hH hX7.lt
    have hQW := hQ7.below hH hQ7.lt
    have hcx := HX.out W hH
    have pp0 : W.cell? ⟨w5.heap.size, 0, none⟩ = some (.int .i64 p1.fn) := hXW.cell 0
    have pp1 : W.cell? ⟨w5.heap.size, 1, none⟩ = some (.int .i64 p1.code) := hXW.cell 1
    have pp2 : W.cell? ⟨w5.heap.size, 2, none⟩ = some (.slice A6 n6 c6) := hXW.cell 2
    have pp3 : W.cell? ⟨w5.heap.size, 3, none⟩ = some (.slice A7 n7 c7) := hXW.cell 3
    have qq0 : W.cell? ⟨w.heap.size + 1, 0, none⟩ = some (.int .i64 r.fn) := hQW.cell 0
    have qq1 : W.cell? ⟨w.heap.size + 1, 1, none⟩ = some (.int .i64 r.code) := hQW.cell 1
    have qq2 : W.cell? ⟨w.heap.size + 1, 2, none⟩ = some (.slice A4 n4 c4) := hQW.cell 2
    have qq3 : W.cell? ⟨w.heap.size + 1, 3, none⟩ = some (.slice A5 n5 c5) := hQW.cell 3
    clear hXW hQW
    go_simp
    with_reducible rfl
  simp only [Act.put]
  try simp only [List.getElem_toArray, List.getElem_cons_succ, List.getElem_cons_zero]
  try simp only [List.setIfInBounds_toArray, List.set_cons_succ, List.set_cons_zero]
  refine wpAnyH_take (i := 14) (v := ?v14_14) rfl (by kernel_rfl) (by kernel_rfl) (by kernel_rfl) (fun _ _ _ h => h) (Or.inl ⟨by rfl, ?y14_14⟩) hS ?r14_14
  case y14_14 =>
    rintro W hH
    have hXW := hX7.below hH hX7.lt
    have hQW := hQ7.below hH hQ7.lt
    have hcx := HX.out W hH
    have pp0 : W.cell? ⟨w5.heap.size, 0, none⟩ = some (.int .i64 p1.fn) := hXW.cell 0
    have pp1 : W.cell? ⟨w5.heap.size, 1, none⟩ = some (.int .i64 p1.code) := hXW.cell 1
    have pp2 : W.cell? ⟨w5.heap.size, 2, none⟩ = some (.slice A6 n6 c6) := hXW.cell 2
    have pp3 : W.cell? ⟨w5.heap.size, 3, none⟩ = some (.slice A7 n7 c7) := hXW.cell 3
    have qq0 : W.cell? ⟨w.heap.size + 1, 0, none⟩ = some (.int .i64 r.fn) := hQW.cell 0
    have qq1 : W.cell? ⟨w.heap.size + 1, 1, none⟩ = some (.int .i64 r.code) := hQW.cell 1
    have qq2 : W.cell? ⟨w.heap.size + 1, 2, none⟩ = some (.slice A4 n4 c4) := hQW.cell 2
    have qq3 : W.cell? ⟨w.heap.size + 1, 3, none⟩ = some (.slice A5 n5 c5) := hQW.cell 3
    clear hXW hQW
    go_simp
    with_reducible rfl
  simp only [Act.put]
  try simp only [List.getElem_toArray, List.getElem_cons_succ, List.getElem_cons_zero]
  try simp only [List.setIfInBounds_toArray, List.set_cons_succ, List.set_cons_zero]
  refine wpAnyH_take (i := 15) (v := ?v15_15) rfl (by kernel_rfl) (by kernel_rfl) (by kernel_rfl) (fun _ _ _ h => h) (Or.inl ⟨by rfl, ?y15_15⟩) hS ?r15_15
  case y15_15 =>
    rintro W hH
    have hXW := hX7.below hH hX7.lt
    have hQW := hQ7.below hH hQ7.lt
    have hcx := HX.out W hH
    have pp0 : W.cell? ⟨w5.heap.size, 0, none⟩ = some (.int .i64 p1.fn) := hXW.cell 0
    have pp1 : W.cell? ⟨w5.heap.size, 1, none⟩ = some (.int .i64 p1.code) := hXW.cell 1
    have pp2 : W.cell? ⟨w5.heap.size, 2, none⟩ = some (.slice A6 n6 c6) := hXW.cell 2
    have pp3 : W.cell? ⟨w5.heap.size, 3, none⟩ = some (.slice A7 n7 c7) := hXW.cell 3
    have qq0 : W.cell? ⟨w.heap.size + 1, 0, none⟩ = some (.int .i64 r.fn) := hQW.cell 0
    have qq1 : W.cell? ⟨w.heap.size + 1, 1, none⟩ = some (.int .i64 r.code) := hQW.cell 1
    have qq2 : W.cell? ⟨w.heap.size + 1, 2, none⟩ = some (.slice A4 n4 c4) := hQW.cell 2
    have qq3 : W.cell? ⟨w.heap.size + 1, 3, none⟩ = some (.slice A5 n5 c5) := hQW.cell 3
    clear hXW hQW
    go_simp
    with_reducible rfl
  simp only [Act.put]
  try simp only [List.getElem_toArray, List.getElem_cons_succ, List.getElem_cons_zero]
  try simp only [List.setIfInBounds_toArray, List.set_cons_succ, List.set_cons_zero]
  refine wpAnyH_take (i := 16) (v := ?v16_16) rfl (by kernel_rfl) (by kernel_rfl) (by kernel_rfl) (fun _ _ _ h => h) (Or.inl ⟨by rfl, ?y16_16⟩) hS ?r16_16
  case y16_16 =>
    rintro W hH
    have hXW := hX7.below hH hX7.lt
    have hQW := hQ7.below hH hQ7.lt
    have hcx := HX.out W hH
    have pp0 : W.cell? ⟨w5.heap.size, 0, none⟩ = some (.int .i64 p1.fn) := hXW.cell 0
    have pp1 : W.cell? ⟨w5.heap.size, 1, none⟩ = some (.int .i64 p1.code) := hXW.cell 1
    have pp2 : W.cell? ⟨w5.heap.size, 2, none⟩ = some (.slice A6 n6 c6) := hXW.cell 2
    have pp3 : W.cell? ⟨w5.heap.size, 3, none⟩ = some (.slice A7 n7 c7) := hXW.cell 3
    have qq0 : W.cell? ⟨w.heap.size + 1, 0, none⟩ = some (.int .i64 r.fn) := hQW.cell 0
    have qq1 : W.cell? ⟨w.heap.size + 1, 1, none⟩ = some (.int .i64 r.code) := hQW.cell 1
    have qq2 : W.cell? ⟨w.heap.size + 1, 2, none⟩ = some (.slice A4 n4 c4) := hQW.cell 2
    have qq3 : W.cell? ⟨w.heap.size + 1, 3, none⟩ = some (.slice A5 n5 c5) := hQW.cell 3
    clear hXW hQW
    go_simp
    with_reducible rfl
  simp only [Act.put]
  try simp only [List.getElem_toArray, List.getElem_cons_succ, List.getElem_cons_zero]
  try simp only [List.setIfInBounds_toArray, List.set_cons_succ, List.set_cons_zero]
  refine wpAnyH_take (i := 17) (v := ?v17_17) rfl (by kernel_rfl) (by kernel_rfl) (by kernel_rfl) (fun _ _ _ h => h) (Or.inl ⟨by rfl, ?y17_17⟩) hS ?r17_17
  case y17_17 =>
    rintro W hH
    have hXW := hX7.below hH hX7.lt
    have hQW := hQ7.below hH hQ7.lt
    have hcx := HX.out W hH
    have pp0 : W.cell? ⟨w5.heap.size, 0, none⟩ = some (.int .i64 p1.fn) := hXW.cell 0
    have pp1 : W.cell? ⟨w5.heap.size, 1, none⟩ = some (.int .i64 p1.code) := hXW.cell 1
    have pp2 : W.cell? ⟨w5.heap.size, 2, none⟩ = some (.slice A6 n6 c6) := hXW.cell 2
    have pp3 : W.cell? ⟨w5.heap.size, 3, none⟩ = some (.slice A7 n7 c7) := hXW.cell 3
    have qq0 : W.cell? ⟨w.heap.size + 1, 0, none⟩ = some (.int .i64 r.fn) := hQW.cell 0
    have qq1 : W.cell? ⟨w.heap.size + 1, 1, none⟩ = some (.int .i64 r.code) := hQW.cell 1
    have qq2 : W.cell? ⟨w.heap.size + 1, 2, none⟩ = some (.slice A4 n4 c4) := hQW.cell 2
    have qq3 : W.cell? ⟨w.heap.size + 1, 3, none⟩ = some (.slice A5 n5 c5) := hQW.cell 3
    clear hXW hQW
    go_simp
    with_reducible rfl
  simp only [Act.put]
  try simp only [List.getElem_toArray, List.getElem_cons_succ, List.getElem_cons_zero]
  try simp only [List.setIfInBounds_toArray, List.set_cons_succ, List.set_cons_zero]
  refine wpAnyH_take (i := 18) (v := ?v18_18) rfl (by kernel_rfl) (by kernel_rfl) (by kernel_rfl) (fun _ _ _ h => h) (Or.inl ⟨by rfl, ?y18_18⟩) hS ?r18_18
  case y18_18 =>
    rintro W hH
    have hXW := hX7.below hH hX7.lt
    have hQW := hQ7.below hH hQ7.lt
    have hcx := HX.out W hH
    have pp0 : W.cell? ⟨w5.heap.size, 0, none⟩ = some (.int .i64 p1.fn) := hXW.cell 0
    have pp1 : W.cell? ⟨w5.heap.size, 1, none⟩ = some (.int .i64 p1.code) := hXW.cell 1
    have pp2 : W.cell? ⟨w5.heap.size, 2, none⟩ = some (.slice A6 n6 c6) := hXW.cell 2
    have pp3 : W.cell? ⟨w5.heap.size, 3, none⟩ = some (.slice A7 n7 c7) := hXW.cell 3
    have qq0 : W.cell? ⟨w.heap.size + 1, 0, none⟩ = some (.int .i64 r.fn) := hQW.cell 0
    have qq1 : W.cell? ⟨w.heap.size + 1, 1, none⟩ = some (.int .i64 r.code) := hQW.cell 1
    have qq2 : W.cell? ⟨w.heap.size + 1, 2, none⟩ = some (.slice A4 n4 c4) := hQW.cell 2
    have qq3 : W.cell? ⟨w.heap.size + 1, 3, none⟩ = some (.slice A5 n5 c5) := hQW.cell 3
    clear hXW hQW
    go_simp
    with_reducible rfl
  simp only [Act.put]
  try simp only [List.getElem_toArray, List.getElem_cons_succ, List.getElem_cons_zero]
  try simp only [List.setIfInBounds_toArray, List.set_cons_succ, List.set_cons_zero]
  refine wpAnyH_take (i := 19) (v := ?v19_19) rfl (by kernel_rfl) (by kernel_rfl) (by kernel_rfl) (fun _ _ _ h => h) (Or.inl ⟨by rfl, ?y19_19⟩) hS ?r19_19
  case y19_19 =>
    rintro W hH
    have hXW := hX7.below hH hX7.lt
    have hQW := hQ7.below hH hQ7.lt
    have hcx := HX.out W hH
    have pp0 : W.cell? ⟨w5.heap.size, 0, none⟩ = some (.int .i64 p1.fn) := hXW.cell 0
    have pp1 : W.cell? ⟨w5.heap.size, 1, none⟩ = some (.int .i64 p1.code) := hXW.cell 1
    have pp2 : W.cell? ⟨w5.heap.size, 2, none⟩ = some (.slice A6 n6 c6) := hXW.cell 2
    have pp3 : W.cell? ⟨w5.heap.size, 3, none⟩ = some (.slice A7 n7 c7) := hXW.cell 3
    have qq0 : W.cell? ⟨w.heap.size + 1, 0, none⟩ = some (.int .i64 r.fn) := hQW.cell 0
    have qq1 : W.cell? ⟨w.heap.size + 1, 1, none⟩ = some (.int .i64 r.code) := hQW.cell 1
    have qq2 : W.cell? ⟨w.heap.size + 1, 2, none⟩ = some (.slice A4 n4 c4) := hQW.cell 2
    have qq3 : W.cell? ⟨w.heap.size + 1, 3, none⟩ = some (.slice A5 n5 c5) := hQW.cell 3
    clear hXW hQW
    go_simp
    with_reducible rfl
  simp only [Act.put]
  try simp only [List.getElem_toArray, List.getElem_cons_succ, List.getElem_cons_zero]
  try simp only [List.setIfInBounds_toArray, List.set_cons_succ, List.set_cons_zero]
  refine wpAnyH_take (i := 20) (v := ?v20_20) rfl (by kernel_rfl) (by kernel_rfl) (by kernel_rfl) (fun _ _ _ h => h) (Or.inl ⟨by rfl, ?y20_20⟩) hS ?r20_20
  case y20_20 =>
    rintro W hH
    have hXW := hX7.below hH hX7.lt
    have hQW := hQ7.below hH hQ7.lt
    have hcx := HX.out W hH
    have pp0 : W.cell? ⟨w5.heap.size, 0, none⟩ = some (.int .i64 p1.fn) := hXW.cell 0
    have pp1 : W.cell? ⟨w5.heap.size, 1, none⟩ = some (.int .i64 p1.code) := hXW.cell 1
    have pp2 : W.cell? ⟨w5.heap.size, 2, none⟩ = some (.slice A6 n6 c6) := hXW.cell 2
    have pp3 : W.cell? ⟨w5.heap.size, 3, none⟩ = some (.slice A7 n7 c7) := hXW.cell 3
    have qq0 : W.cell? ⟨w.heap.size + 1, 0, none⟩ = some (.int .i64 r.fn) := hQW.cell 0
    have qq1 : W.cell? ⟨w.heap.size + 1, 1, none⟩ = some (.int .i64 r.code) := hQW.cell 1
    have qq2 : W.cell? ⟨w.heap.size + 1, 2, none⟩ = some (.slice A4 n4 c4) := hQW.cell 2
    have qq3 : W.cell? ⟨w.heap.size + 1, 3, none⟩ = some (.slice A5 n5 c5) := hQW.cell 3
    clear hXW hQW
    go_simp
    with_reducible rfl
  simp only [Act.put]
  try simp only [List.getElem_toArray, List.getElem_cons_succ, List.getElem_cons_zero]
  try simp only [List.setIfInBounds_toArray, List.set_cons_succ, List.set_cons_zero]
  refine wpAnyH_take (i := 21) (v := ?v21_21) rfl (by kernel_rfl) (by kernel_rfl) (by kernel_rfl) (fun _ _ _ h => h) (Or.inl ⟨by rfl, ?y21_21⟩) hS ?r21_21
  case y21_21 =>
    rintro W hH
    have hXW := hX7.below hH hX7.lt
    have hQW := hQ7.below hH hQ7.lt
    have hcx := HX.out W hH
    have pp0 : W.cell? ⟨w5.heap.size, 0, none⟩ = some (.int .i64 p1.fn) := hXW.cell 0
    have pp1 : W.cell? ⟨w5.heap.size, 1, none⟩ = some (.int .i64 p1.code) := hXW.cell 1
    have pp2 : W.cell? ⟨w5.heap.size, 2, none⟩ = some (.slice A6 n6 c6) := hXW.cell 2
    have pp3 : W.cell? ⟨w5.heap.size, 3, none⟩ = some (.slice A7 n7 c7) := hXW.cell 3
    have qq0 : W.cell? ⟨w.heap.size + 1, 0, none⟩ = some (.int .i64 r.fn) := hQW.cell 0
    have qq1 : W.cell? ⟨w.heap.size + 1, 1, none⟩ = some (.int .i64 r.code) := hQW.cell 1
    have qq2 : W.cell? ⟨w.heap.size + 1, 2, none⟩ = some (.slice A4 n4 c4) := hQW.cell 2
    have qq3 : W.cell? ⟨w.heap.size + 1, 3, none⟩ = some (.slice A5 n5 c5) := hQW.cell 3
    clear hXW hQW
    go_simp
    with_reducible rfl
  simp only [Act.put]
  try simp only [List.getElem_toArray, List.getElem_cons_succ, List.getElem_cons_zero]
  try simp only [List.setIfInBounds_toArray, List.set_cons_succ, List.set_cons_zero]
  refine wpAnyH_take (i := 22) (v := ?v22_22) rfl (by kernel_rfl) (by kernel_rfl) (by kernel_rfl) (fun _ _ _ h => h) (Or.inl ⟨by rfl, ?y22_22⟩) hS ?r22_22
  case y22_22 =>
    rintro W hH
    have hXW := hX7.below hH hX7.lt
    have hQW := hQ7.below hH hQ7.lt
    have hcx := HX.out W hH
    have pp0 : W.cell? ⟨w5.heap.size, 0, none⟩ = some (.int .i64 p1.fn) := hXW.cell 0
    have pp1 : W.cell? ⟨w5.heap.size, 1, none⟩ = some (.int .i64 p1.code) := hXW.cell 1
    have pp2 : W.cell? ⟨w5.heap.size, 2, none⟩ = some (.slice A6 n6 c6) := hXW.cell 2
    have pp3 : W.cell? ⟨w5.heap.size, 3, none⟩ = some (.slice A7 n7 c7) := hXW.cell 3
    have qq0 : W.cell? ⟨w.heap.size + 1, 0, none⟩ = some (.int .i64 r.fn) := hQW.cell 0
    have qq1 : W.cell? ⟨w.heap.size + 1, 1, none⟩ = some (.int .i64 r.code) := hQW.cell 1
    have qq2 : W.cell? ⟨w.heap.size + 1, 2, none⟩ = some (.slice A4 n4 c4) := hQW.cell 2
    have qq3 : W.cell? ⟨w.heap.size + 1, 3, none⟩ = some (.slice A5 n5 c5) := hQW.cell 3
    clear hXW hQW
    go_simp
    with_reducible rfl
  simp only [Act.put]
  try simp only [List.getElem_toArray, List.getElem_cons_succ, List.getElem_cons_zero]
  try simp only [List.setIfInBounds_toArray, List.set_cons_succ, List.set_cons_zero]
  refine wpAnyH_take (i := 23) (v := ?v23_23) rfl (by kernel_rfl) (by kernel_rfl) (by kernel_rfl) (fun _ _ _ h => h) (Or.inl ⟨by rfl, ?y23_23⟩) hS ?r23_23
  case y23_23 =>
    rintro W hH
    have hXW := hX7.below hH hX7.lt
    have hQW := hQ7.below hH hQ7.lt
    have hcx := HX.out W hH
    have pp0 : W.cell? ⟨w5.heap.size, 0, none⟩ = some (.int .i64 p1.fn) := hXW.cell 0
    have pp1 : W.cell? ⟨w5.heap.size, 1, none⟩ = some (.int .i64 p1.code) := hXW.cell 1
    have pp2 : W.cell? ⟨w5.heap.size, 2, none⟩ = some (.slice A6 n6 c6) := hXW.cell 2
    have pp3 : W.cell? ⟨w5.heap.size, 3, none⟩ = some (.slice A7 n7 c7) := hXW.cell 3
    have qq0 : W.cell? ⟨w.heap.size + 1, 0, none⟩ = some (.int .i64 r.fn) := hQW.cell 0
    have qq1 : W.cell? ⟨w.heap.size + 1, 1, none⟩ = some (.int .i64 r.code) := hQW.cell 1
    have qq2 : W.cell? ⟨w.heap.size + 1, 2, none⟩ = some (.slice A4 n4 c4) := hQW.cell 2
    have qq3 : W.cell? ⟨w.heap.size + 1, 3, none⟩ = some (.slice A5 n5 c5) := hQW.cell 3
    clear hXW hQW
    go_simp
    with_reducible rfl
  simp only [Act.put]
  try simp only [List.getElem_toArray, List.getElem_cons_succ, List.getElem_cons_zero]
  try simp only [List.setIfInBounds_toArray, List.set_cons_succ, List.set_cons_zero]
  refine wpAnyH_take (i := 24) (v := ?v24_24) rfl (by kernel_rfl) (by kernel_rfl) (by kernel_rfl) (fun _ _ _ h => h) (Or.inl ⟨by rfl, ?y24_24⟩) hS ?r24_24
  case y24_24 =>
    rintro W hH
    have hXW := hX7.below hH hX7.lt
    have hQW := hQ7.below hH hQ7.lt
    have hcx := HX.out W hH
    have pp0 : W.cell? ⟨w5.heap.size, 0, none⟩ = some (.int .i64 p1.fn) := hXW.cell 0
    have pp1 : W.cell? ⟨w5.heap.size, 1, none⟩ = some (.int .i64 p1.code) := hXW.cell 1
    have pp2 : W.cell? ⟨w5.heap.size, 2, none⟩ = some (.slice A6 n6 c6) := hXW.cell 2
    have pp3 : W.cell? ⟨w5.heap.size, 3, none⟩ = some (.slice A7 n7 c7) := hXW.cell 3
    have qq0 : W.cell? ⟨w.heap.size + 1, 0, none⟩ = some (.int .i64 r.fn) := hQW.cell 0
    have qq1 : W.cell? ⟨w.heap.size + 1, 1, none⟩ = some (.int .i64 r.code) := hQW.cell 1
    have qq2 : W.cell? ⟨w.heap.size + 1, 2, none⟩ = some (.slice A4 n4 c4) := hQW.cell 2
    have qq3 : W.cell? ⟨w.heap.size + 1, 3, none⟩ = some (.slice A5 n5 c5) := hQW.cell 3
    clear hXW hQW
    go_simp
    with_reducible rfl
  simp only [Act.put]
  try simp only [List.getElem_toArray, List.getElem_cons_succ, List.getElem_cons_zero]
  try simp only [List.setIfInBounds_toArray, List.set_cons_succ, List.set_cons_zero]
  refine wpAnyH_take (i := 25) (v := ?v25_25) rfl (by kernel_rfl) (by kernel_rfl) (by kernel_rfl) (fun _ _ _ h => h) (Or.inl ⟨by rfl, ?y25_25⟩) hS ?r25_25
  case y25_25 =>
    rintro W hH
    have hXW := hX7.below hH hX7.lt
    have hQW := hQ7.below hH hQ7.lt
    have hcx := HX.out W hH
    have pp0 : W.cell? ⟨w5.heap.size, 0, none⟩ = some (.int .i64 p1.fn) := hXW.cell 0
    have pp1 : W.cell? ⟨w5.heap.size, 1, none⟩ = some (.int .i64 p1.code) := hXW.cell 1
    have pp2 : W.cell? ⟨w5.heap.size, 2, none⟩ = some (.slice A6 n6 c6) := hXW.cell 2
    have pp3 : W.cell? ⟨w5.heap.size, 3, none⟩ = some (.slice A7 n7 c7) := hXW.cell 3
    have qq0 : W.cell? ⟨w.heap.size + 1, 0, none⟩ = some (.int .i64 r.fn) := hQW.cell 0
    have qq1 : W.cell? ⟨w.heap.size + 1, 1, none⟩ = some (.int .i64 r.code) := hQW.cell 1
    have qq2 : W.cell? ⟨w.heap.size + 1, 2, none⟩ = some (.slice A4 n4 c4) := hQW.cell 2
    have qq3 : W.cell? ⟨w.heap.size + 1, 3, none⟩ = some (.slice A5 n5 c5) := hQW.cell 3
    clear hXW hQW
    go_simp
    with_reducible rfl
  simp only [Act.put]
  try simp only [List.getElem_toArray, List.getElem_cons_succ, List.getElem_cons_zero]
  try simp only [List.setIfInBounds_toArray, List.set_cons_succ, List.set_cons_zero]
  refine wpAnyH_take (i := 26) (v := ?v26_26) rfl (by kernel_rfl) (by kernel_rfl) (by kernel_rfl) (fun _ _ _ h => h) (Or.inl ⟨by rfl, ?y26_26⟩) hS ?r26_26
  case y26_26 =>
    rintro W hH
    have hXW := hX7.below hH hX7.lt
    have hQW := hQ7.below hH hQ7.lt
    have hcx := HX.out W hH
    have pp0 : W.cell? ⟨w5.heap.size, 0, none⟩ = some (.int .i64 p1.fn) := hXW.cell 0
    have pp1 : W.cell? ⟨w5.heap.size, 1, none⟩ = some (.int .i64 p1.code) := hXW.cell 1
    have pp2 : W.cell? ⟨w5.heap.size, 2, none⟩ = some (.slice A6 n6 c6) := hXW.cell 2
    have pp3 : W.cell? ⟨w5.heap.size, 3, none⟩ = some (.slice A7 n7 c7) := hXW.cell 3
    have qq0 : W.cell? ⟨w.heap.size + 1, 0, none⟩ = some (.int .i64 r.fn) := hQW.cell 0
    have qq1 : W.cell? ⟨w.heap.size + 1, 1, none⟩ = some (.int .i64 r.code) := hQW.cell 1
    have qq2 : W.cell? ⟨w.heap.size + 1, 2, none⟩ = some (.slice A4 n4 c4) := hQW.cell 2
    have qq3 : W.cell? ⟨w.heap.size + 1, 3, none⟩ = some (.slice A5 n5 c5) := hQW.cell 3
    clear hXW hQW
    go_simp
    with_reducible rfl
  simp only [Act.put]
  try simp only [List.getElem_toArray, List.getElem_cons_succ, List.getElem_cons_zero]
  try simp only [List.setIfInBounds_toArray, List.set_cons_succ, List.set_cons_zero]
  refine wpAnyH_take (i := 27) (v := ?v27_27) rfl (by kernel_rfl) (by kernel_rfl) (by kernel_rfl) (fun _ _ _ h => h) (Or.inl ⟨by rfl, ?y27_27⟩) hS ?r27_27
  case y27_27 =>
    rintro W hH
    have hXW := hX7.below hH hX7.lt
    have hQW := hQ7.below hH hQ7.lt
    have hcx := HX.out W hH
    have pp0 : W.cell? ⟨w5.heap.size, 0, none⟩ = some (.int .i64 p1.fn) := hXW.cell 0
    have pp1 : W.cell? ⟨w5.heap.size, 1, none⟩ = some (.int .i64 p1.code) := hXW.cell 1
    have pp2 : W.cell? ⟨w5.heap.size, 2, none⟩ = some (.slice A6 n6 c6) := hXW.cell 2
    have pp3 : W.cell? ⟨w5.heap.size, 3, none⟩ = some (.slice A7 n7 c7) := hXW.cell 3
    have qq0 : W.cell? ⟨w.heap.size + 1, 0, none⟩ = some (.int .i64 r.fn) := hQW.cell 0
    have qq1 : W.cell? ⟨w.heap.size + 1, 1, none⟩ = some (.int .i64 r.code) := hQW.cell 1
    have qq2 : W.cell? ⟨w.heap.size + 1, 2, none⟩ = some (.slice A4 n4 c4) := hQW.cell 2
    have qq3 : W.cell? ⟨w.heap.size + 1, 3, none⟩ = some (.slice A5 n5 c5) := hQW.cell 3
    clear hXW hQW
    go_simp
    with_reducible rfl
  simp only [Act.put]
  try simp only [List.getElem_toArray, List.getElem_cons_succ, List.getElem_cons_zero]
  try simp only [List.setIfInBounds_toArray, List.set_cons_succ, List.set_cons_zero]
  refine wpAnyH_take (i := 28) (v := ?v28_28) rfl (by kernel_rfl) (by kernel_rfl) (by kernel_rfl) (fun _ _ _ h => h) (Or.inl ⟨by rfl, ?y28_28⟩) hS ?r28_28
  case y28_28 =>
    rintro W hH
    have hXW := hX7.below hH hX7.lt
    have hQW := hQ7.below hH hQ7.lt
    have hcx := HX.out W hH
    have pp0 : W.cell? ⟨w5.heap.size, 0, none⟩ = some (.int .i64 p1.fn) := hXW.cell 0
    have pp1 : W.cell? ⟨w5.heap.size, 1, none⟩ = some (.int .i64 p1.code) := hXW.cell 1
    have pp2 : W.cell? ⟨w5.heap.size, 2, none⟩ = some (.slice A6 n6 c6) := hXW.cell 2
    have pp3 : W.cell? ⟨w5.heap.size, 3, none⟩ = some (.slice A7 n7 c7) := hXW.cell 3
    have qq0 : W.cell? ⟨w.heap.size + 1, 0, none⟩ = some (.int .i64 r.fn) := hQW.cell 0
    have qq1 : W.cell? ⟨w.heap.size + 1, 1, none⟩ = some (.int .i64 r.code) := hQW.cell 1
    have qq2 : W.cell? ⟨w.heap.size + 1, 2, none⟩ = some (.slice A4 n4 c4) := hQW.cell 2
    have qq3 : W.cell? ⟨w.heap.size + 1, 3, none⟩ = some (.slice A5 n5 c5) := hQW.cell 3
    clear hXW hQW
    go_simp
    with_reducible rfl
  simp only [Act.put]
  try simp only [List.getElem_toArray, List.getElem_cons_succ, List.getElem_cons_zero]
  try simp only [List.setIfInBounds_toArray, List.set_cons_succ, List.set_cons_zero]
  refine wpAnyH_take (i := 29) (v := ?v29_29) rfl (by kernel_rfl) (by kernel_rfl) (by kernel_rfl) (fun _ _ _ h => h) (Or.inl ⟨by rfl, ?y29_29⟩) hS ?r29_29
  case y29_29 =>
    rintro W hH
    have hXW := hX7.below hH hX7.lt
    have hQW := hQ7.below hH hQ7.lt
    have hcx := HX.out W hH
    have pp0 : W.cell? ⟨w5.heap.size, 0, none⟩ = some (.int .i64 p1.fn) := hXW.cell 0
    have pp1 : W.cell? ⟨w5.heap.size, 1, none⟩ = some (.int .i64 p1.code) := hXW.cell 1
    have pp2 : W.cell? ⟨w5.heap.size, 2, none⟩ = some (.slice A6 n6 c6) := hXW.cell 2
    have pp3 : W.cell? ⟨w5.heap.size, 3, none⟩ = some (.slice A7 n7 c7) := hXW.cell 3
    have qq0 : W.cell? ⟨w.heap.size + 1, 0, none⟩ = some (.int .i64 r.fn) := hQW.cell 0
    have qq1 : W.cell? ⟨w.heap.size + 1, 1, none⟩ = some (.int .i64 r.code) := hQW.cell 1
    have qq2 : W.cell? ⟨w.heap.size + 1, 2, none⟩ = some (.slice A4 n4 c4) := hQW.cell 2
    have qq3 : W.cell? ⟨w.heap.size + 1, 3, none⟩ = some (.slice A5 n5 c5) := hQW.cell 3
    clear hXW hQW
    go_simp
    with_reducible rfl
  simp only [Act.put]
  try simp only [List.getElem_toArray, List.getElem_cons_succ, List.getElem_cons_zero]
  try simp only [List.setIfInBounds_toArray, List.set_cons_succ, List.set_cons_zero]
  refine wpAnyH_take (i := 30) (v := ?v30_30) rfl (by kernel_rfl) (by kernel_rfl) (by kernel_rfl) (fun _ _ _ h => h) (Or.inl ⟨by rfl, ?y30_30⟩) hS ?r30_30
  case y30_30 =>
    rintro W hH
    have hXW := hX7.below hH hX7.lt
    have hQW := hQ7.below hH hQ7.lt
    have hcx := HX.out W hH
    have pp0 : W.cell? ⟨w5.heap.size, 0, none⟩ = some (.int .i64 p1.fn) := hXW.cell 0
    have pp1 : W.cell? ⟨w5.heap.size, 1, none⟩ = some (.int .i64 p1.code) := hXW.cell 1
    have pp2 : W.cell? ⟨w5.heap.size, 2, none⟩ = some (.slice A6 n6 c6) := hXW.cell 2
    have pp3 : W.cell? ⟨w5.heap.size, 3, none⟩ = some (.slice A7 n7 c7) := hXW.cell 3
    have qq0 : W.cell? ⟨w.heap.size + 1, 0, none⟩ = some (.int .i64 r.fn) := hQW.cell 0
    have qq1 : W.cell? ⟨w.heap.size + 1, 1, none⟩ = some (.int .i64 r.code) := hQW.cell 1
    have qq2 : W.cell? ⟨w.heap.size + 1, 2, none⟩ = some (.slice A4 n4 c4) := hQW.cell 2
    have qq3 : W.cell? ⟨w.heap.size + 1, 3, none⟩ = some (.slice A5 n5 c5) := hQW.cell 3
    clear hXW hQW
    go_simp
    with_reducible rfl
  simp only [Act.put]
  try simp only [List.getElem_toArray, List.getElem_cons_succ, List.getElem_cons_zero]
  try simp only [List.setIfInBounds_toArray, List.set_cons_succ, List.set_cons_zero]
  refine wpAnyH_take (i := 31) (v := ?v31_31) rfl (by kernel_rfl) (by kernel_rfl) (by kernel_rfl) (fun _ _ _ h => h) (Or.inl ⟨by rfl, ?y31_31⟩) hS ?r31_31
  case y31_31 =>
    rintro W hH
    have hXW := hX7.below hH hX7.lt
    have hQW := hQ7.below hH hQ7.lt
    have hcx := HX.out W hH
    have pp0 : W.cell? ⟨w5.heap.size, 0, none⟩ = some (.int .i64 p1.fn) := hXW.cell 0
    have pp1 : W.cell? ⟨w5.heap.size, 1, none⟩ = some (.int .i64 p1.code) := hXW.cell 1
    have pp2 : W.cell? ⟨w5.heap.size, 2, none⟩ = some (.slice A6 n6 c6) := hXW.cell 2
    have pp3 : W.cell? ⟨w5.heap.size, 3, none⟩ = some (.slice A7 n7 c7) := hXW.cell 3
    have qq0 : W.cell? ⟨w.heap.size + 1, 0, none⟩ = some (.int .i64 r.fn) := hQW.cell 0
    have qq1 : W.cell? ⟨w.heap.size + 1, 1, none⟩ = some (.int .i64 r.code) := hQW.cell 1
    have qq2 : W.cell? ⟨w.heap.size + 1, 2, none⟩ = some (.slice A4 n4 c4) := hQW.cell 2
    have qq3 : W.cell? ⟨w.heap.size + 1, 3, none⟩ = some (.slice A5 n5 c5) := hQW.cell 3
    clear hXW hQW
    go_simp
    with_reducible rfl
  simp only [Act.put]
  try simp only [List.getElem_toArray, List.getElem_cons_succ, List.getElem_cons_zero]
  try simp only [List.setIfInBounds_toArray, List.set_cons_succ, List.set_cons_zero]
  refine wpAnyH_done (by kernel_rfl) ?_ _
  have hbSw := hb7w.trans (hS.mono hz7)
  have hPS := hP7.below hS hP7.lt
  go_wp2_with (first | ((with_reducible refine at_loadT 25 3 ?_); refine wpList_load_rowG rfl 25 (.tmp 3) rfl w.heap.size rfl 25 _ _ hPS hu rfl hsz ?_) | ((with_reducible refine at_loadT 34 4 ?_); refine wpList_load_rowG rfl 34 (.tmp 4) rfl (w.heap.size + 1) rfl 34 _ _ hQS hu4 rfl hsz4 ?_))
  refine (HRA.out _ hbSw).mono ?_
  rintro e w8 ⟨v2, rfl, hv2, hb8⟩
  have hb8w := hbSw.trans (hb8.mono hbSw.size)
  have hP8 := hPS.below hb8 hPS.lt
  obtain ⟨A8, n8, c8, A9, n9, c9, rfl, s8, s9⟩ := hv2
  go_upto_region 9 with (fail)
  obtain ⟨w9, hw9⟩ : ∃ W, w8.alloc (.cells #[.int .i64 p2.fn, .int .i64 p2.code, .slice A8 n8 c8, .slice A9 n9 c9] 34) = W := ⟨_, rfl⟩
  have hb9 : Below w8.heap.size w8 w9 := by rw [← hw9]; exact (Below.refl _ _).alloc (Nat.le_refl _) _
  have hb9w := hb8w.trans (hb9.mono hb8w.size)
  have hY9 : Held w9 w8.heap.size 34 #[.int .i64 p2.fn, .int .i64 p2.code, .slice A8 n8 c8, .slice A9 n9 c9] := by rw [← hw9]; exact Held.new _ _ _
  rw [hw9]
  clear hw9
  have hP9 := hP8.below hb9 hP8.lt
  go_wp2_with (first | ((with_reducible refine at_loadT 25 3 ?_); refine wpList_load_rowG rfl 25 (.tmp 3) rfl w.heap.size rfl 25 _ _ hP9 hu rfl hsz ?_) | ((with_reducible refine at_loadT 34 12 ?_); refine wpList_load_rowG rfl 34 (.tmp 12) rfl w8.heap.size rfl 34 _ _ hY9 hu4 rfl hsz4 ?_))
  refine (HAQ.out w9 _ hb9w ⟨A8, n8, c8, A9, n9, c9, rfl, s8.up hb9, s9.up hb9⟩).mono ?_
  rintro e w10 ⟨Ay, ny, cy, rfl, sy, hb10⟩
  have hb10w := hb9w.trans (hb10.mono hb9w.size)
  go_wp2_with fail
  go_ret
  exact ⟨rfl, hb10w⟩
set_option maxRecDepth 100000 in
set_option maxHeartbeats 4000000 in
theorem rep_exc_some (a : AskP) (r : RepP) (b : List Int) (A2 : Option Addr) (n2 c2 : Nat) (A3 : Option Addr) (n3 c3 : Nat) (A4 : Option Addr) (n4 c4 : Nat) (A5 : Option Addr) (n5 c5 : Nat) (B : Option Addr) (n c : Nat) (w : World) (hT : LimT w)
    (h2 : SlB w w.heap.size A2 n2 c2 a.bits) (h3 : SlI w w.heap.size .u16 A3 n3 c3 a.regs) (h3i : Reg16 a.regs) (h4 : SlB w w.heap.size A4 n4 c4 r.bits) (h5 : SlI w w.heap.size .u16 A5 n5 c5 r.regs) (h5i : Reg16 r.regs) (hB : SlI w w.heap.size .u8 B n c b) (hb8 : Byte8 b) (L : List Int) (ea : Int) (hLA : (answerP a r).getD [] = L) (hea : errV (answerP a r).isSome = ea) (hL8 : Byte8 L) (hLn : L.length ≤ 253) (p1 : RepP) (ef : Int) (hp1 : (readAnswerP a L).getD rep0 = p1) (hef : errV (readAnswerP a L).isSome = ef)
    (p2 : RepP) (eg : Int) (hp2 : (readAnswerP a b).getD rep0 = p2) (heg : errV (readAnswerP a b).isSome = eg) (hq8 : Reg16 p2.regs) (hq1 : p2.bits.length ≤ 100000) (hq2 : p2.regs.length ≤ 100000) (M : List Int) (eh : Int) (hM : (answerP a p2).getD [] = M) (heh : errV (answerP a p2).isSome = eh) (hk2 : n2 ≤ 2500) (hk3 : n3 ≤ 300) (hk4 : n4 ≤ 2500) (hk5 : n5 ≤ 300) (hkn : n ≤ 300) (hE1 : ea = 0) (hE2 : eg = 0) (hE3 : ef = 0) (hp1r : p1 = r) (hL2 : 2 ≤ L.length) (hL253 : L.length ≤ 253) (hL0 : 128 ≤ L.getD 0 0 ↔ 0 < r.code) (hrc : 0 < r.code) (hE4 : eh = 0) (hMb : M = b) :
    Calls Tryd.prog 5 #[.agg #[.int .i64 a.fn, .int .i64 a.addr, .int .i64 a.count, .int .i64 a.to, .slice A2 n2 c2, .slice A3 n3 c3], .agg #[.int .i64 r.fn, .int .i64 r.code, .slice A4 n4 c4, .slice A5 n5 c5], .slice B n c] w fun e w' => e = .returned (.bool true) ∧ Below w.heap.size w w' := by
  obtain ⟨w2, hw2⟩ : ∃ w2, (w.alloc (.cells #[.int .i64 a.fn, .int .i64 a.addr, .int .i64 a.count, .int .i64 a.to, .slice A2 n2 c2, .slice A3 n3 c3] 25)).alloc (.cells #[.int .i64 r.fn, .int .i64 r.code, .slice A4 n4 c4, .slice A5 n5 c5] 34) = w2 := ⟨_, rfl⟩
  have hb2 : Below w.heap.size w w2 := by rw [← hw2]; exact (((Below.refl _ w).alloc (Nat.le_refl _) _).alloc (by simp) _)
  have hP2 : Held w2 w.heap.size 25 #[.int .i64 a.fn, .int .i64 a.addr, .int .i64 a.count, .int .i64 a.to, .slice A2 n2 c2, .slice A3 n3 c3] := by rw [← hw2]; exact (Held.new w _ _).alloc _
  have hQ2 : Held w2 (w.heap.size + 1) 34 #[.int .i64 r.fn, .int .i64 r.code, .slice A4 n4 c4, .slice A5 n5 c5] := by rw [← hw2]; have := Held.new (w.alloc (.cells #[.int .i64 a.fn, .int .i64 a.addr, .int .i64 a.count, .int .i64 a.to, .slice A2 n2 c2, .slice A3 n3 c3] 25)) 34 #[.int .i64 r.fn, .int .i64 r.code, .slice A4 n4 c4, .slice A5 n5 c5]; rw [World.size_alloc] at this; exact this
  have HG2 := Lib.hid (fun X => great_any A2 A3 n2 c2 n3 c3 X)
  have HG4 := Lib.hid (fun X => great_any A4 A5 n4 c4 n5 c5 X)
  have hu := Tryd.underlying25
  have hu4 := Tryd.underlying34
  have hsz : (Tryd.prog.info? 25).map (·.size) = some 6 := by kernel_rfl
  have hsz4 : (Tryd.prog.info? 34).map (·.size) = some 4 := by kernel_rfl
  have g4n := h4.1
  have g5n := h5.1
  have L4 : r.bits.length ≤ 100000 := by omega
  have L5 : r.regs.length ≤ 100000 := by omega
  have HAL := Lib.hid (alive_own w2 (hT.up hb2))
  have HAN : Hid (∀ X, Below w.heap.size w X → Calls Tryd.prog 13 #[.agg #[.int .i64 a.fn, .int .i64 a.addr, .int .i64 a.count, .int .i64 a.to, .slice A2 n2 c2, .slice A3 n3 c3], .agg #[.int .i64 r.fn, .int .i64 r.code, .slice A4 n4 c4, .slice A5 n5 c5]] X fun e w' => ∃ A n c, e = .returned (.tuple #[.slice A n c, .int .i64 ea]) ∧ SlI w' w'.heap.size .u8 A n c L ∧ Below X.heap.size X w') := Lib.hid (fun X h => by rw [← hLA, ← hea]; exact answer_own (.agg #[.int .i64 a.fn, .int .i64 a.addr, .int .i64 a.count, .int .i64 a.to, .slice A2 n2 c2, .slice A3 n3 c3]) (.agg #[.int .i64 r.fn, .int .i64 r.code, .slice A4 n4 c4, .slice A5 n5 c5]) a r X (hT.up h) ⟨A2, n2, c2, A3, n3, c3, rfl, h2.up h, h3.up h⟩ ⟨A4, n4, c4, A5, n5, c5, rfl, h4.up h, h5.up h⟩ h3i h5i L4 L5)
  have HRX : Hid (∀ X A m d, Below w.heap.size w X → SlI X X.heap.size .u8 A m d L → Calls Tryd.prog 15 #[.agg #[.int .i64 a.fn, .int .i64 a.addr, .int .i64 a.count, .int .i64 a.to, .slice A2 n2 c2, .slice A3 n3 c3], .slice A m d] X fun e w' => ∃ v, e = .returned (.tuple #[v, .int .i64 ef]) ∧ RepAt w' v p1 ∧ Below X.heap.size X w') := Lib.hid (fun X A m d h hs => by rw [← hp1, ← hef]; exact readanswer_own (.agg #[.int .i64 a.fn, .int .i64 a.addr, .int .i64 a.count, .int .i64 a.to, .slice A2 n2 c2, .slice A3 n3 c3]) a A m d L X (hT.up h) ⟨A2, n2, c2, A3, n3, c3, rfl, h2.up h, h3.up h⟩ h3i hs hL8 (by have := hs.1; omega))
  have HRA : Hid (∀ X, Below w.heap.size w X → Calls Tryd.prog 15 #[.agg #[.int .i64 a.fn, .int .i64 a.addr, .int .i64 a.count, .int .i64 a.to, .slice A2 n2 c2, .slice A3 n3 c3], .slice B n c] X fun e w' => ∃ v, e = .returned (.tuple #[v, .int .i64 eg]) ∧ RepAt w' v p2 ∧ Below X.heap.size X w') := Lib.hid (fun X h => by rw [← hp2, ← heg]; exact readanswer_own (.agg #[.int .i64 a.fn, .int .i64 a.addr, .int .i64 a.count, .int .i64 a.to, .slice A2 n2 c2, .slice A3 n3 c3]) a B n c b X (hT.up h) ⟨A2, n2, c2, A3, n3, c3, rfl, h2.up h, h3.up h⟩ h3i (hB.up h) hb8 (by omega))
  have HAQ : Hid (∀ X v, Below w.heap.size w X → RepAt X v p2 → Calls Tryd.prog 13 #[.agg #[.int .i64 a.fn, .int .i64 a.addr, .int .i64 a.count, .int .i64 a.to, .slice A2 n2 c2, .slice A3 n3 c3], v] X fun e w' => ∃ A n c, e = .returned (.tuple #[.slice A n c, .int .i64 eh]) ∧ SlI w' w'.heap.size .u8 A n c M ∧ Below X.heap.size X w') := Lib.hid (fun X v h hv => by rw [← hM, ← heh]; exact answer_own (.agg #[.int .i64 a.fn, .int .i64 a.addr, .int .i64 a.count, .int .i64 a.to, .slice A2 n2 c2, .slice A3 n3 c3]) v a p2 X (hT.up h) ⟨A2, n2, c2, A3, n3, c3, rfl, h2.up h, h3.up h⟩ hv h3i hq8 hq1 hq2)
  have HQR : Hid (∀ X, Below w.heap.size w X → RepAt X (.agg #[.int .i64 r.fn, .int .i64 r.code, .slice A4 n4 c4, .slice A5 n5 c5]) r) := Lib.hid (fun X h => ⟨A4, n4, c4, A5, n5, c5, rfl, h4.up h, h5.up h⟩)
  have HB := Lib.hid (fun (X : World) (h : Below w.heap.size w X) => hB.up h)
  have e2 : (decide (2500 < n2) || decide (300 < n3)) = false := by simp; omega
  have e4 : (decide (2500 < n4) || decide (300 < n5)) = false := by simp; omega
  have hn3 : ¬ (300 : Int) < (n : Int) := by omega
  rw [e2] at HG2
  rw [e4] at HG4
  clear e2 e4 hLA hea hL8 hLn hp1 hef hp2 heg hq8 hq1 hq2 hM heh hT h2 h3 h4 h5 h3i h5i hB hb8 L4 L5 g4n g5n hk2 hk3 hk4 hk5 hkn
  have hb2w := hb2
  subst hE1 hE2
  subst hE3
  have HP1 := Lib.hid hp1r
  clear hp1r
  subst hE4
  go_in
  go_wp2_with fail
  refine HAL.out.mono ?_
  rintro e w3 ⟨rfl, hb3⟩
  have hb3w := hb2w.trans (hb3.mono hb2w.size)
  have hP3 := hP2.below hb3 hP2.lt
  have hQ3 := hQ2.below hb3 hQ2.lt
  have p3_4 : w3.cell? ⟨w.heap.size, 4, none⟩ = some (.slice A2 n2 c2) := hP3.cell 4
  have p3_5 : w3.cell? ⟨w.heap.size, 5, none⟩ = some (.slice A3 n3 c3) := hP3.cell 5
  have q3_2 : w3.cell? ⟨w.heap.size + 1, 2, none⟩ = some (.slice A4 n4 c4) := hQ3.cell 2
  have q3_3 : w3.cell? ⟨w.heap.size + 1, 3, none⟩ = some (.slice A5 n5 c5) := hQ3.cell 3
  go_wp2_with (first | (first
  | (go_at_call 10; (with_reducible refine (HG2.out _).mono ?_); rintro e w' ⟨rfl, rfl⟩)
  | (go_at_call 10; (with_reducible refine (HG4.out _).mono ?_); rintro e w' ⟨rfl, rfl⟩)) | (first | ((with_reducible refine at_loadT 25 3 ?_); refine wpList_load_rowG rfl 25 (.tmp 3) rfl w.heap.size rfl 25 _ _ hP3 hu rfl hsz ?_) | ((with_reducible refine at_loadT 34 4 ?_); refine wpList_load_rowG rfl 34 (.tmp 4) rfl (w.heap.size + 1) rfl 34 _ _ hQ3 hu4 rfl hsz4 ?_)))
  refine (HAN.out w3 hb3w).mono ?_
  rintro e w4 ⟨Ax, nx, cx, rfl, sx, hb4⟩
  have hb4w := hb3w.trans (hb4.mono hb3w.size)
  have hP4 := hP3.below hb4 hP3.lt
  have hQ4 := hQ3.below hb4 hQ3.lt
  go_wp2_with (first | ((with_reducible refine at_loadT 25 3 ?_); refine wpList_load_rowG rfl 25 (.tmp 3) rfl w.heap.size rfl 25 _ _ hP4 hu rfl hsz ?_) | ((with_reducible refine at_loadT 34 4 ?_); refine wpList_load_rowG rfl 34 (.tmp 4) rfl (w.heap.size + 1) rfl 34 _ _ hQ4 hu4 rfl hsz4 ?_))
  refine (HRX.out w4 _ _ _ hb4w sx).mono ?_
  rintro e w5 ⟨v1, rfl, ⟨A6, n6, c6, A7, n7, c7, rfl, s6, s7⟩, hb5⟩
  have hb5w := hb4w.trans (hb5.mono hb4w.size)
  have hP5 := hP4.below hb5 hP4.lt
  have hQ5 := hQ4.below hb5 hQ4.lt
  go_upto_region 6 with (fail)
  obtain ⟨w6, hw6⟩ : ∃ W, w5.alloc (.cells #[.int .i64 p1.fn, .int .i64 p1.code, .slice A6 n6 c6, .slice A7 n7 c7] 34) = W := ⟨_, rfl⟩
  have hb6 : Below w5.heap.size w5 w6 := by rw [← hw6]; exact (Below.refl _ _).alloc (Nat.le_refl _) _
  have hb6w := hb5w.trans (hb6.mono hb5w.size)
  have hX6 : Held w6 w5.heap.size 34 #[.int .i64 p1.fn, .int .i64 p1.code, .slice A6 n6 c6, .slice A7 n7 c7] := by rw [← hw6]; exact Held.new _ _ _
  rw [hw6]
  clear hw6
  have hP6 := hP5.below hb6 hP5.lt
  have hQ6 := hQ5.below hb6 hQ5.lt
  obtain ⟨w7, hw7⟩ : ∃ W : World, w6.drew = W := ⟨_, rfl⟩
  have hb7 : Below w6.heap.size w6 w7 := by rw [← hw7]; exact (Below.refl _ _).drew
  have hb7w := hb6w.trans (hb7.mono hb6w.size)
  have hz7 := hb7w.size
  have hP7 := hP6.below hb7 hP6.lt
  have hQ7 := hQ6.below hb7 hQ6.lt
  have hX7 := hX6.below hb7 hX6.lt
  obtain ⟨gx, ox, x0, rfl, hgx, hxx, hcx⟩ := sx.2.2.2.2.at_ (i := 0) (by omega)
  rw [Nat.add_zero] at hcx
  have g0 : L.getD 0 0 = x0 := by rw [List.getD, hxx]; rfl
  rw [g0] at hL0
  have hnx := sx.1
  have HX : Hid (∀ W, Below w7.heap.size w7 W → W.cell? ⟨gx, ox, none⟩ = some (.int .u8 x0)) := Lib.hid (fun W h => ((((hb5.trans (hb6.mono hb5.size)).trans (hb7.mono (Nat.le_trans hb5.size hb6.size))).trans (h.mono (Nat.le_trans hb5.size (Nat.le_trans hb6.size hb7.size)))).cell (p := ⟨gx, ox, none⟩) hgx).trans hcx)
  have HSB : Hid (∀ X, Below w7.heap.size w7 X → Calls Tryd.prog 17 #[.agg #[.int .i64 p1.fn, .int .i64 p1.code, .slice A6 n6 c6, .slice A7 n7 c7], .agg #[.int .i64 r.fn, .int .i64 r.code, .slice A4 n4 c4, .slice A5 n5 c5]] X fun e w' => e = .returned (.bool true) ∧ Below X.heap.size X w') := Lib.hid (fun X h => by
    have := samer_ref (.agg #[.int .i64 p1.fn, .int .i64 p1.code, .slice A6 n6 c6, .slice A7 n7 c7]) (.agg #[.int .i64 r.fn, .int .i64 r.code, .slice A4 n4 c4, .slice A5 n5 c5]) p1 r X ⟨A6, n6, c6, A7, n7, c7, rfl, ((s6.up hb6).up hb7).up h, ((s7.up hb6).up hb7).up h⟩ (HQR.out X (hb7w.trans (h.mono hz7)))
    rw [decide_eq_true HP1.out] at this
    exact this)
  have hnx0 : (0 : Int) < (nx : Int) := by omega
  have hnx0' : 0 < nx := by omega
  have hnx1 : ¬ (253 : Int) < (nx : Int) := by omega
  have hnx2 : ¬ (nx : Int) < 2 := by omega
  have hnx3 : ¬ (nx : Int) ≤ 0 := by omega
  have hx128 : 128 ≤ x0 := by exact hL0.2 hrc
  clear sx s6 s7 hxx hcx hL0 hL2 hL253 g0 hnx
  refine wp_region_held (S := Below w7.heap.size w7) (by kernel_rfl) ?_
  change wpAnyH _ _ _ _ _ _ _ _ w6.drew
  rw [hw7]
  have hS := Below.refl w7.heap.size w7
  refine wpAnyH_take (i := 0) (v := ?v0_1) rfl (by kernel_rfl) (by kernel_rfl) (by kernel_rfl) (fun _ _ _ h => h) (Or.inl ⟨by rfl, ?y0_1⟩) hS ?r0_1
  case y0_1 =>
    rintro W hH
    have hXW := hX7.below hH hX7.lt
    have hQW := hQ7.below hH hQ7.lt
    have hcx := HX.out W hH
    have pp0 : W.cell? ⟨w5.heap.size, 0, none⟩ = some (.int .i64 p1.fn) := hXW.cell 0
    have pp1 : W.cell? ⟨w5.heap.size, 1, none⟩ = some (.int .i64 p1.code) := hXW.cell 1
    have pp2 : W.cell? ⟨w5.heap.size, 2, none⟩ = some (.slice A6 n6 c6) := hXW.cell 2
    have pp3 : W.cell? ⟨w5.heap.size, 3, none⟩ = some (.slice A7 n7 c7) := hXW.cell 3
    have qq0 : W.cell? ⟨w.heap.size + 1, 0, none⟩ = some (.int .i64 r.fn) := hQW.cell 0
    have qq1 : W.cell? ⟨w.heap.size + 1, 1, none⟩ = some (.int .i64 r.code) := hQW.cell 1
    have qq2 : W.cell? ⟨w.heap.size + 1, 2, none⟩ = some (.slice A4 n4 c4) := hQW.cell 2
    have qq3 : W.cell? ⟨w.heap.size + 1, 3, none⟩ = some (.slice A5 n5 c5) := hQW.cell 3
    clear hXW hQW
    go_simp
    with_reducible rfl
  simp only [Act.put]
  try simp only [List.getElem_toArray, List.getElem_cons_zero]
  try simp only [List.setIfInBounds_toArray, List.set_cons_succ, List.set_cons_zero]
  refine wpAnyH_take (i := 1) (v := ?v1_2) rfl (by kernel_rfl) (by kernel_rfl) (by kernel_rfl) (fun _ _ _ h => h) (Or.inl ⟨by rfl, ?y1_2⟩) hS ?r1_2
  case y1_2 =>
    rintro W hH
    have hXW := hX7.below hH hX7.lt
    have hQW := hQ7.below hH hQ7.lt
    have hcx := HX.out W hH
    have pp0 : W.cell? ⟨w5.heap.size, 0, none⟩ = some (.int .i64 p1.fn) := hXW.cell 0
    have pp1 : W.cell? ⟨w5.heap.size, 1, none⟩ = some (.int .i64 p1.code) := hXW.cell 1
    have pp2 : W.cell? ⟨w5.heap.size, 2, none⟩ = some (.slice A6 n6 c6) := hXW.cell 2
    have pp3 : W.cell? ⟨w5.heap.size, 3, none⟩ = some (.slice A7 n7 c7) := hXW.cell 3
    have qq0 : W.cell? ⟨w.heap.size + 1, 0, none⟩ = some (.int .i64 r.fn) := hQW.cell 0
    have qq1 : W.cell? ⟨w.heap.size + 1, 1, none⟩ = some (.int .i64 r.code) := hQW.cell 1
    have qq2 : W.cell? ⟨w.heap.size + 1, 2, none⟩ = some (.slice A4 n4 c4) := hQW.cell 2
    have qq3 : W.cell? ⟨w.heap.size + 1, 3, none⟩ = some (.slice A5 n5 c5) := hQW.cell 3
    clear hXW hQW
    go_simp
    with_reducible rfl
  simp only [Act.put]
  try simp only [List.getElem_toArray, List.getElem_cons_succ, List.getElem_cons_zero]
  try simp only [List.setIfInBounds_toArray, List.set_cons_succ, List.set_cons_zero]
  refine wpAnyH_take (i := 2) (v := ?v2_3) rfl (by kernel_rfl) (by kernel_rfl) (by kernel_rfl) (fun _ _ _ h => h) (Or.inl ⟨by rfl, ?y2_3⟩) hS ?r2_3
  case y2_3 =>
    rintro W hH
    have hXW := hX7.below hH hX7.lt
    have hQW := hQ7.below hH hQ7.lt
    have hcx := HX.out W hH
    have pp0 : W.cell? ⟨w5.heap.size, 0, none⟩ = some (.int .i64 p1.fn) := hXW.cell 0
    have pp1 : W.cell? ⟨w5.heap.size, 1, none⟩ = some (.int .i64 p1.code) := hXW.cell 1
    have pp2 : W.cell? ⟨w5.heap.size, 2, none⟩ = some (.slice A6 n6 c6) := hXW.cell 2
    have pp3 : W.cell? ⟨w5.heap.size, 3, none⟩ = some (.slice A7 n7 c7) := hXW.cell 3
    have qq0 : W.cell? ⟨w.heap.size + 1, 0, none⟩ = some (.int .i64 r.fn) := hQW.cell 0
    have qq1 : W.cell? ⟨w.heap.size + 1, 1, none⟩ = some (.int .i64 r.code) := hQW.cell 1
    have qq2 : W.cell? ⟨w.heap.size + 1, 2, none⟩ = some (.slice A4 n4 c4) := hQW.cell 2
    have qq3 : W.cell? ⟨w.heap.size + 1, 3, none⟩ = some (.slice A5 n5 c5) := hQW.cell 3
    clear hXW hQW
    go_simp
    with_reducible rfl
  simp only [Act.put]
  try simp only [List.getElem_toArray, List.getElem_cons_succ, List.getElem_cons_zero]
  try simp only [List.setIfInBounds_toArray, List.set_cons_succ, List.set_cons_zero]
  refine wpAnyH_take (i := 3) (v := ?v3_4) rfl (by kernel_rfl) (by kernel_rfl) (by kernel_rfl) (fun _ _ _ h => h) (Or.inl ⟨by rfl, ?y3_4⟩) hS ?r3_4
  case y3_4 =>
    rintro W hH
    have hXW := hX7.below hH hX7.lt
    have hQW := hQ7.below hH hQ7.lt
    have hcx := HX.out W hH
    have pp0 : W.cell? ⟨w5.heap.size, 0, none⟩ = some (.int .i64 p1.fn) := hXW.cell 0
    have pp1 : W.cell? ⟨w5.heap.size, 1, none⟩ = some (.int .i64 p1.code) := hXW.cell 1
    have pp2 : W.cell? ⟨w5.heap.size, 2, none⟩ = some (.slice A6 n6 c6) := hXW.cell 2
    have pp3 : W.cell? ⟨w5.heap.size, 3, none⟩ = some (.slice A7 n7 c7) := hXW.cell 3
    have qq0 : W.cell? ⟨w.heap.size + 1, 0, none⟩ = some (.int .i64 r.fn) := hQW.cell 0
    have qq1 : W.cell? ⟨w.heap.size + 1, 1, none⟩ = some (.int .i64 r.code) := hQW.cell 1
    have qq2 : W.cell? ⟨w.heap.size + 1, 2, none⟩ = some (.slice A4 n4 c4) := hQW.cell 2
    have qq3 : W.cell? ⟨w.heap.size + 1, 3, none⟩ = some (.slice A5 n5 c5) := hQW.cell 3
    clear hXW hQW
    go_simp
    with_reducible rfl
  simp only [Act.put]
  try simp only [List.getElem_toArray, List.getElem_cons_succ, List.getElem_cons_zero]
  try simp only [List.setIfInBounds_toArray, List.set_cons_succ, List.set_cons_zero]
  refine wpAnyH_take (i := 4) (v := ?v4_5) rfl (by kernel_rfl) (by kernel_rfl) (by kernel_rfl) (fun _ _ _ h => h) (Or.inl ⟨by rfl, ?y4_5⟩) hS ?r4_5
  case y4_5 =>
    rintro W hH
    have hXW := hX7.below hH hX7.lt
    have hQW := hQ7.below hH hQ7.lt
    have hcx := HX.out W hH
    have pp0 : W.cell? ⟨w5.heap.size, 0, none⟩ = some (.int .i64 p1.fn) := hXW.cell 0
    have pp1 : W.cell? ⟨w5.heap.size, 1, none⟩ = some (.int .i64 p1.code) := hXW.cell 1
    have pp2 : W.cell? ⟨w5.heap.size, 2, none⟩ = some (.slice A6 n6 c6) := hXW.cell 2
    have pp3 : W.cell? ⟨w5.heap.size, 3, none⟩ = some (.slice A7 n7 c7) := hXW.cell 3
    have qq0 : W.cell? ⟨w.heap.size + 1, 0, none⟩ = some (.int .i64 r.fn) := hQW.cell 0
    have qq1 : W.cell? ⟨w.heap.size + 1, 1, none⟩ = some (.int .i64 r.code) := hQW.cell 1
    have qq2 : W.cell? ⟨w.heap.size + 1, 2, none⟩ = some (.slice A4 n4 c4) := hQW.cell 2
    have qq3 : W.cell? ⟨w.heap.size + 1, 3, none⟩ = some (.slice A5 n5 c5) := hQW.cell 3
    clear hXW hQW
    go_simp
    with_reducible rfl
  simp only [Act.put]
  try simp only [List.getElem_toArray, List.getElem_cons_succ, List.getElem_cons_zero]
  try simp only [List.setIfInBounds_toArray, List.set_cons_succ, List.set_cons_zero]
  refine wpAnyH_take (i := 5) (v := ?v5_6) rfl (by kernel_rfl) (by kernel_rfl) (by kernel_rfl) (fun _ _ _ h => h) (Or.inl ⟨by rfl, ?y5_6⟩) hS ?r5_6
  case y5_6 =>
    rintro W hH
    have hXW := hX7.below hH hX7.lt
    have hQW := hQ7.below hH hQ7.lt
    have hcx := HX.out W hH
    have pp0 : W.cell? ⟨w5.heap.size, 0, none⟩ = some (.int .i64 p1.fn) := hXW.cell 0
    have pp1 : W.cell? ⟨w5.heap.size, 1, none⟩ = some (.int .i64 p1.code) := hXW.cell 1
    have pp2 : W.cell? ⟨w5.heap.size, 2, none⟩ = some (.slice A6 n6 c6) := hXW.cell 2
    have pp3 : W.cell? ⟨w5.heap.size, 3, none⟩ = some (.slice A7 n7 c7) := hXW.cell 3
    have qq0 : W.cell? ⟨w.heap.size + 1, 0, none⟩ = some (.int .i64 r.fn) := hQW.cell 0
    have qq1 : W.cell? ⟨w.heap.size + 1, 1, none⟩ = some (.int .i64 r.code) := hQW.cell 1
    have qq2 : W.cell? ⟨w.heap.size + 1, 2, none⟩ = some (.slice A4 n4 c4) := hQW.cell 2
    have qq3 : W.cell? ⟨w.heap.size + 1, 3, none⟩ = some (.slice A5 n5 c5) := hQW.cell 3
    clear hXW hQW
    go_simp
    with_reducible rfl
  simp only [Act.put]
  try simp only [List.getElem_toArray, List.getElem_cons_succ, List.getElem_cons_zero]
  try simp only [List.setIfInBounds_toArray, List.set_cons_succ, List.set_cons_zero]
  refine wpAnyH_take (i := 6) (v := ?v6_7) rfl (by kernel_rfl) (by kernel_rfl) (by kernel_rfl) (fun _ _ _ h => h) (Or.inl ⟨by rfl, ?y6_7⟩) hS ?r6_7
  case y6_7 =>
    rintro W hH
    have hXW := hX7.below hH hX7.lt
    have hQW := hQ7.below hH hQ7.lt
    have hcx := HX.out W hH
    have pp0 : W.cell? ⟨w5.heap.size, 0, none⟩ = some (.int .i64 p1.fn) := hXW.cell 0
    have pp1 : W.cell? ⟨w5.heap.size, 1, none⟩ = some (.int .i64 p1.code) := hXW.cell 1
    have pp2 : W.cell? ⟨w5.heap.size, 2, none⟩ = some (.slice A6 n6 c6) := hXW.cell 2
    have pp3 : W.cell? ⟨w5.heap.size, 3, none⟩ = some (.slice A7 n7 c7) := hXW.cell 3
    have qq0 : W.cell? ⟨w.heap.size + 1, 0, none⟩ = some (.int .i64 r.fn) := hQW.cell 0
    have qq1 : W.cell? ⟨w.heap.size + 1, 1, none⟩ = some (.int .i64 r.code) := hQW.cell 1
    have qq2 : W.cell? ⟨w.heap.size + 1, 2, none⟩ = some (.slice A4 n4 c4) := hQW.cell 2
    have qq3 : W.cell? ⟨w.heap.size + 1, 3, none⟩ = some (.slice A5 n5 c5) := hQW.cell 3
    clear hXW hQW
    go_simp
    with_reducible rfl
  simp only [Act.put]
  try simp only [List.getElem_toArray, List.getElem_cons_succ, List.getElem_cons_zero]
  try simp only [List.setIfInBounds_toArray, List.set_cons_succ, List.set_cons_zero]
  refine wpAnyH_take (i := 7) (v := ?v7_8) rfl (by kernel_rfl) (by kernel_rfl) (by kernel_rfl) (fun _ _ _ h => h) (Or.inl ⟨by rfl, ?y7_8⟩) hS ?r7_8
  case y7_8 =>
    rintro W hH
    have hXW := hX7.below hH hX7.lt
    have hQW := hQ7.below hH hQ7.lt
    have hcx := HX.out W hH
    have pp0 : W.cell? ⟨w5.heap.size, 0, none⟩ = some (.int .i64 p1.fn) := hXW.cell 0
    have pp1 : W.cell? ⟨w5.heap.size, 1, none⟩ = some (.int .i64 p1.code) := hXW.cell 1
    have pp2 : W.cell? ⟨w5.heap.size, 2, none⟩ = some (.slice A6 n6 c6) := hXW.cell 2
    have pp3 : W.cell? ⟨w5.heap.size, 3, none⟩ = some (.slice A7 n7 c7) := hXW.cell 3
    have qq0 : W.cell? ⟨w.heap.size + 1, 0, none⟩ = some (.int .i64 r.fn) := hQW.cell 0
    have qq1 : W.cell? ⟨w.heap.size + 1, 1, none⟩ = some (.int .i64 r.code) := hQW.cell 1
    have qq2 : W.cell? ⟨w.heap.size + 1, 2, none⟩ = some (.slice A4 n4 c4) := hQW.cell 2
    have qq3 : W.cell? ⟨w.heap.size + 1, 3, none⟩ = some (.slice A5 n5 c5) := hQW.cell 3
    clear hXW hQW
    go_simp
    with_reducible rfl
  simp only [Act.put]
  try simp only [List.getElem_toArray, List.getElem_cons_succ, List.getElem_cons_zero]
  try simp only [List.setIfInBounds_toArray, List.set_cons_succ, List.set_cons_zero]
  refine wpAnyH_ready (rs := [8]) (by kernel_rfl) (by simp) ?_
  refine AllReadyH.cons rfl (fun K' hK' => ?_) AllReadyH.nil
  go_simp
  refine (HSB.out _ hS).mono ?_
  rintro e wn ⟨rfl, hn⟩
  have hS7 := hS.trans (hn.mono hS.size)
  clear hS hn
  go_simp
  refine hK'.out _ _ hS7 (fun hS => ?_)
  clear hK' K'
  refine wpAnyH_take (i := 9) (v := ?v9_9) rfl (by kernel_rfl) (by kernel_rfl) (by kernel_rfl) (fun _ _ _ h => h) (Or.inl ⟨by rfl, ?y9_9⟩) hS ?r9_9
  case y9_9 =>
    rintro W hH
    have hXW := hX7.below hH hX7.lt
    have hQW := hQ7.below hH hQ7.lt
    have hcx := HX.out W hH
    have pp0 : W.cell? ⟨w5.heap.size, 0, none⟩ = some (.int .i64 p1.fn) := hXW.cell 0
    have pp1 : W.cell? ⟨w5.heap.size, 1, none⟩ = some (.int .i64 p1.code) := hXW.cell 1
    have pp2 : W.cell? ⟨w5.heap.size, 2, none⟩ = some (.slice A6 n6 c6) := hXW.cell 2
    have pp3 : W.cell? ⟨w5.heap.size, 3, none⟩ = some (.slice A7 n7 c7) := hXW.cell 3
    have qq0 : W.cell? ⟨w.heap.size + 1, 0, none⟩ = some (.int .i64 r.fn) := hQW.cell 0
    have qq1 : W.cell? ⟨w.heap.size + 1, 1, none⟩ = some (.int .i64 r.code) := hQW.cell 1
    have qq2 : W.cell? ⟨w.heap.size + 1, 2, none⟩ = some (.slice A4 n4 c4) := hQW.cell 2
    have qq3 : W.cell? ⟨w.heap.size + 1, 3, none⟩ = some (.slice A5 n5 c5) := hQW.cell 3
    clear hXW hQW
    go_simp
    with_reducible rfl
  simp only [Act.put]
  try simp only [List.getElem_toArray, List.getElem_cons_succ, List.getElem_cons_zero]
  try simp only [List.setIfInBounds_toArray, List.set_cons_succ, List.set_cons_zero]
  refine wpAnyH_take (i := 10) (v := ?v10_10) rfl (by kernel_rfl) (by kernel_rfl) (by kernel_rfl) (fun _ _ _ h => h) (Or.inl ⟨by rfl, ?y10_10⟩) hS ?r10_10
  case y10_10 =>
    rintro W hH
    have hXW := hX7.below hH hX7.lt
    have hQW := hQ7.below hH hQ7.lt
    have hcx := HX.out W hH
    have pp0 : W.cell? ⟨w5.heap.size, 0, none⟩ = some (.int .i64 p1.fn) := hXW.cell 0
    have pp1 : W.cell? ⟨w5.heap.size, 1, none⟩ = some (.int .i64 p1.code) := hXW.cell 1
    have pp2 : W.cell? ⟨w5.heap.size, 2, none⟩ = some (.slice A6 n6 c6) := hXW.cell 2
    have pp3 : W.cell? ⟨w5.heap.size, 3, none⟩ = some (.slice A7 n7 c7) := hXW.cell 3
    have qq0 : W.cell? ⟨w.heap.size + 1, 0, none⟩ = some (.int .i64 r.fn) := hQW.cell 0
    have qq1 : W.cell? ⟨w.heap.size + 1, 1, none⟩ = some (.int .i64 r.code) := hQW.cell 1
    have qq2 : W.cell? ⟨w.heap.size + 1, 2, none⟩ = some (.slice A4 n4 c4) := hQW.cell 2
    have qq3 : W.cell? ⟨w.heap.size + 1, 3, none⟩ = some (.slice A5 n5 c5) := hQW.cell 3
    clear hXW hQW
    go_simp
    with_reducible rfl
  simp only [Act.put]
  try simp only [List.getElem_toArray, List.getElem_cons_succ, List.getElem_cons_zero]
  try simp only [List.setIfInBounds_toArray, List.set_cons_succ, List.set_cons_zero]
  refine wpAnyH_take (i := 11) (v := ?v11_11) rfl (by kernel_rfl) (by kernel_rfl) (by kernel_rfl) (fun _ _ _ h => h) (Or.inl ⟨by rfl, ?y11_11⟩) hS ?r11_11
  case y11_11 =>
    rintro W hH
    have hXW := hX7.below hH hX7.lt
    have hQW := hQ7.below hH hQ7.lt
    have hcx := HX.out W hH
    have pp0 : W.cell? ⟨w5.heap.size, 0, none⟩ = some (.int .i64 p1.fn) := hXW.cell 0
    have pp1 : W.cell? ⟨w5.heap.size, 1, none⟩ = some (.int .i64 p1.code) := hXW.cell 1
    have pp2 : W.cell? ⟨w5.heap.size, 2, none⟩ = some (.slice A6 n6 c6) := hXW.cell 2
    have pp3 : W.cell? ⟨w5.heap.size, 3, none⟩ = some (.slice A7 n7 c7) := hXW.cell 3
    have qq0 : W.cell? ⟨w.heap.size + 1, 0, none⟩ = some (.int .i64 r.fn) := hQW.cell 0
    have qq1 : W.cell? ⟨w.heap.size + 1, 1, none⟩ = some (.int .i64 r.code) := hQW.cell 1
    have qq2 : W.cell? ⟨w.heap.size + 1, 2, none⟩ = some (.slice A4 n4 c4) := hQW.cell 2
    have qq3 : W.cell? ⟨w.heap.size + 1, 3, none⟩ = some (.slice A5 n5 c5) := hQW.cell 3
    clear hXW hQW
    go_simp
    with_reducible rfl
  simp only [Act.put]
  try simp only [List.getElem_toArray, List.getElem_cons_succ, List.getElem_cons_zero]
  try simp only [List.setIfInBounds_toArray, List.set_cons_succ, List.set_cons_zero]
  refine wpAnyH_take (i := 12) (v := ?v12_12) rfl (by kernel_rfl) (by kernel_rfl) (by kernel_rfl) (fun _ _ _ h => h) (Or.inl ⟨by rfl, ?y12_12⟩) hS ?r12_12
  case y12_12 =>
    rintro W hH
    have hXW := hX7.below hH hX7.lt
    have hQW := hQ7.below hH hQ7.lt
    have hcx := HX.out W hH
    have pp0 : W.cell? ⟨w5.heap.size, 0, none⟩ = some (.int .i64 p1.fn) := hXW.cell 0
    have pp1 : W.cell? ⟨w5.heap.size, 1, none⟩ = some (.int .i64 p1.code) := hXW.cell 1
    have pp2 : W.cell? ⟨w5.heap.size, 2, none⟩ = some (.slice A6 n6 c6) := hXW.cell 2
    have pp3 : W.cell? ⟨w5.heap.size, 3, none⟩ = some (.slice A7 n7 c7) := hXW.cell 3
    have qq0 : W.cell? ⟨w.heap.size + 1, 0, none⟩ = some (.int .i64 r.fn) := hQW.cell 0
    have qq1 : W.cell? ⟨w.heap.size + 1, 1, none⟩ = some (.int .i64 r.code) := hQW.cell 1
    have qq2 : W.cell? ⟨w.heap.size + 1, 2, none⟩ = some (.slice A4 n4 c4) := hQW.cell 2
    have qq3 : W.cell? ⟨w.heap.size + 1, 3, none⟩ = some (.slice A5 n5 c5) := hQW.cell 3
    clear hXW hQW
    go_simp
    with_reducible rfl
  simp only [Act.put]
  try simp only [List.getElem_toArray, List.getElem_cons_succ, List.getElem_cons_zero]
  try simp only [List.setIfInBounds_toArray, List.set_cons_succ, List.set_cons_zero]
  refine wpAnyH_take (i := 13) (v := ?v13_13) rfl (by kernel_rfl) (by kernel_rfl) (by kernel_rfl) (fun _ _ _ h => h) (Or.inl ⟨by rfl, ?y13_13⟩) hS ?r13_13
  case y13_13 =>
    rintro W hH
    have hXW := hX7.below hH hX7.lt
    have hQW := hQ7.below hH hQ7.lt
    have hcx := HX.out W hH
    have pp0 : W.cell? ⟨w5.heap.size, 0, none⟩ = some (.int .i64 p1.fn) := hXW.cell 0
    have pp1 : W.cell? ⟨w5.heap.size, 1, none⟩ = some (.int .i64 p1.code) := hXW.cell 1
    have pp2 : W.cell? ⟨w5.heap.size, 2, none⟩ = some (.slice A6 n6 c6) := hXW.cell 2
    have pp3 : W.cell? ⟨w5.heap.size, 3, none⟩ = some (.slice A7 n7 c7) := hXW.cell 3
    have qq0 : W.cell? ⟨w.heap.size + 1, 0, none⟩ = some (.int .i64 r.fn) := hQW.cell 0
    have qq1 : W.cell? ⟨w.heap.size + 1, 1, none⟩ = some (.int .i64 r.code) := hQW.cell 1
    have qq2 : W.cell? ⟨w.heap.size + 1, 2, none⟩ = some (.slice A4 n4 c4) := hQW.cell 2
    have qq3 : W.cell? ⟨w.heap.size + 1, 3, none⟩ = some (.slice A5 n5 c5) := hQW.cell 3
    clear hXW hQW
    go_simp
    with_reducible rfl
  simp only [Act.put]
  try simp only [List.getElem_toArray, List.getElem_cons_succ, List.getElem_cons_zero]
  try simp only [List.setIfInBounds_toArray, List.set_cons_succ, List.set_cons_zero]
  refine wpAnyH_take (i := 14) (v := ?v14_14) rfl (by kernel_rfl) (by kernel_rfl) (by kernel_rfl) (fun _ _ _ h => h) (Or.inl ⟨by rfl, ?y14_14⟩) hS ?r14_14
  case y14_14 =>
    rintro W hH
    have hXW := hX7.below hH hX7.lt
    have hQW := hQ7.below hH hQ7.lt
    have hcx := HX.out W hH
    have pp0 : W.cell? ⟨w5.heap.size, 0, none⟩ = some (.int .i64 p1.fn) := hXW.cell 0
    have pp1 : W.cell? ⟨w5.heap.size, 1, none⟩ = some (.int .i64 p1.code) := hXW.cell 1
    have pp2 : W.cell? ⟨w5.heap.size, 2, none⟩ = some (.slice A6 n6 c6) := hXW.cell 2
    have pp3 : W.cell? ⟨w5.heap.size, 3, none⟩ = some (.slice A7 n7 c7) := hXW.cell 3
    have qq0 : W.cell? ⟨w.heap.size + 1, 0, none⟩ = some (.int .i64 r.fn) := hQW.cell 0
    have qq1 : W.cell? ⟨w.heap.size + 1, 1, none⟩ = some (.int .i64 r.code) := hQW.cell 1
    have qq2 : W.cell? ⟨w.heap.size + 1, 2, none⟩ = some (.slice A4 n4 c4) := hQW.cell 2
    have qq3 : W.cell? ⟨w.heap.size + 1, 3, none⟩ = some (.slice A5 n5 c5) := hQW.cell 3
    clear hXW hQW
    go_simp
    with_reducible rfl
  simp only [Act.put]
  try simp only [List.getElem_toArray, List.getElem_cons_succ, List.getElem_cons_zero]
  try simp only [List.setIfInBounds_toArray, List.set_cons_succ, List.set_cons_zero]
  refine wpAnyH_take (i := 15) (v := ?v15_15) rfl (by kernel_rfl) (by kernel_rfl) (by kernel_rfl) (fun _ _ _ h => h) (Or.inl ⟨by rfl, ?y15_15⟩) hS ?r15_15
  case y15_15 =>
    rintro W hH
    have hXW := hX7.below hH hX7.lt
    have hQW := hQ7.below hH hQ7.lt
    have hcx := HX.out W hH
    have pp0 : W.cell? ⟨w5.heap.size, 0, none⟩ = some (.int .i64 p1.fn) := hXW.cell 0
    have pp1 : W.cell? ⟨w5.heap.size, 1, none⟩ = some (.int .i64 p1.code) := hXW.cell 1
    have pp2 : W.cell? ⟨w5.heap.size, 2, none⟩ = some (.slice A6 n6 c6) := hXW.cell 2
    have pp3 : W.cell? ⟨w5.heap.size, 3, none⟩ = some (.slice A7 n7 c7) := hXW.cell 3
    have qq0 : W.cell? ⟨w.heap.size + 1, 0, none⟩ = some (.int .i64 r.fn) := hQW.cell 0
    have qq1 : W.cell? ⟨w.heap.size + 1, 1, none⟩ = some (.int .i64 r.code) := hQW.cell 1
    have qq2 : W.cell? ⟨w.heap.size + 1, 2, none⟩ = some (.slice A4 n4 c4) := hQW.cell 2
    have qq3 : W.cell? ⟨w.heap.size + 1, 3, none⟩ = some (.slice A5 n5 c5) := hQW.cell 3
    clear hXW hQW
    go_simp
    with_reducible rfl
  simp only [Act.put]
  try simp only [List.getElem_toArray, List.getElem_cons_succ, List.getElem_cons_zero]
  try simp only [List.setIfInBounds_toArray, List.set_cons_succ, List.set_cons_zero]
  refine wpAnyH_take (i := 16) (v := ?v16_16) rfl (by kernel_rfl) (by kernel_rfl) (by kernel_rfl) (fun _ _ _ h => h) (Or.inl ⟨by rfl, ?y16_16⟩) hS ?r16_16
  case y16_16 =>
    rintro W hH
    have hXW := hX7.below hH hX7.lt
    have hQW := hQ7.below hH hQ7.lt
    have hcx := HX.out W hH
    have pp0 : W.cell? ⟨w5.heap.size, 0, none⟩ = some (.int .i64 p1.fn) := hXW.cell 0
    have pp1 : W.cell? ⟨w5.heap.size, 1, none⟩ = some (.int .i64 p1.code) := hXW.cell 1
    have pp2 : W.cell? ⟨w5.heap.size, 2, none⟩ = some (.slice A6 n6 c6) := hXW.cell 2
    have pp3 : W.cell? ⟨w5.heap.size, 3, none⟩ = some (.slice A7 n7 c7) := hXW.cell 3
    have qq0 : W.cell? ⟨w.heap.size + 1, 0, none⟩ = some (.int .i64 r.fn) := hQW.cell 0
    have qq1 : W.cell? ⟨w.heap.size + 1, 1, none⟩ = some (.int .i64 r.code) := hQW.cell 1
    have qq2 : W.cell? ⟨w.heap.size + 1, 2, none⟩ = some (.slice A4 n4 c4) := hQW.cell 2
    have qq3 : W.cell? ⟨w.heap.size + 1, 3, none⟩ = some (.slice A5 n5 c5) := hQW.cell 3
    clear hXW hQW
    go_simp
    with_reducible rfl
  simp only [Act.put]
  try simp only [List.getElem_toArray, List.getElem_cons_succ, List.getElem_cons_zero]
  try simp only [List.setIfInBounds_toArray, List.set_cons_succ, List.set_cons_zero]
  refine wpAnyH_take (i := 17) (v := ?v17_17) rfl (by kernel_rfl) (by kernel_rfl) (by kernel_rfl) (fun _ _ _ h => h) (Or.inl ⟨by rfl, ?y17_17⟩) hS ?r17_17
  case y17_17 =>
    rintro W hH
    have hXW := hX7.below hH hX7.lt
    have hQW := hQ7.below hH hQ7.lt
    have hcx := HX.out W hH
    have pp0 : W.cell? ⟨w5.heap.size, 0, none⟩ = some (.int .i64 p1.fn) := hXW.cell 0
    have pp1 : W.cell? ⟨w5.heap.size, 1, none⟩ = some (.int .i64 p1.code) := hXW.cell 1
    have pp2 : W.cell? ⟨w5.heap.size, 2, none⟩ = some (.slice A6 n6 c6) := hXW.cell 2
    have pp3 : W.cell? ⟨w5.heap.size, 3, none⟩ = some (.slice A7 n7 c7) := hXW.cell 3
    have qq0 : W.cell? ⟨w.heap.size + 1, 0, none⟩ = some (.int .i64 r.fn) := hQW.cell 0
    have qq1 : W.cell? ⟨w.heap.size + 1, 1, none⟩ = some (.int .i64 r.code) := hQW.cell 1
    have qq2 : W.cell? ⟨w.heap.size + 1, 2, none⟩ = some (.slice A4 n4 c4) := hQW.cell 2
    have qq3 : W.cell? ⟨w.heap.size + 1, 3, none⟩ = some (.slice A5 n5 c5) := hQW.cell 3
    clear hXW hQW
    go_simp
    with_reducible rfl
  simp only [Act.put]
  try simp only [List.getElem_toArray, List.getElem_cons_succ, List.getElem_cons_zero]
  try simp only [List.setIfInBounds_toArray, List.set_cons_succ, List.set_cons_zero]
  refine wpAnyH_take (i := 18) (v := ?v18_18) rfl (by kernel_rfl) (by kernel_rfl) (by kernel_rfl) (fun _ _ _ h => h) (Or.inl ⟨by rfl, ?y18_18⟩) hS ?r18_18
  case y18_18 =>
    rintro W hH
    have hXW := hX7.below hH hX7.lt
    have hQW := hQ7.below hH hQ7.lt
    have hcx := HX.out W hH
    have pp0 : W.cell? ⟨w5.heap.size, 0, none⟩ = some (.int .i64 p1.fn) := hXW.cell 0
    have pp1 : W.cell? ⟨w5.heap.size, 1, none⟩ = some (.int .i64 p1.code) := hXW.cell 1
    have pp2 : W.cell? ⟨w5.heap.size, 2, none⟩ = some (.slice A6 n6 c6) := hXW.cell 2
    have pp3 : W.cell? ⟨w5.heap.size, 3, none⟩ = some (.slice A7 n7 c7) := hXW.cell 3
    have qq0 : W.cell? ⟨w.heap.size + 1, 0, none⟩ = some (.int .i64 r.fn) := hQW.cell 0
    have qq1 : W.cell? ⟨w.heap.size + 1, 1, none⟩ = some (.int .i64 r.code) := hQW.cell 1
    have qq2 : W.cell? ⟨w.heap.size + 1, 2, none⟩ = some (.slice A4 n4 c4) := hQW.cell 2
    have qq3 : W.cell? ⟨w.heap.size + 1, 3, none⟩ = some (.slice A5 n5 c5) := hQW.cell 3
    clear hXW hQW
    go_simp
    with_reducible rfl
  simp only [Act.put]
  try simp only [List.getElem_toArray, List.getElem_cons_succ, List.getElem_cons_zero]
  try simp only [List.setIfInBounds_toArray, List.set_cons_succ, List.set_cons_zero]
  refine wpAnyH_take (i := 19) (v := ?v19_19) rfl (by kernel_rfl) (by kernel_rfl) (by kernel_rfl) (fun _ _ _ h => h) (Or.inl ⟨by rfl, ?y19_19⟩) hS ?r19_19
  case y19_19 =>
    rintro W hH
    have hXW := hX7.below hH hX7.lt
    have hQW := hQ7.below hH hQ7.lt
    have hcx := HX.out W hH
    have pp0 : W.cell? ⟨w5.heap.size, 0, none⟩ = some (.int .i64 p1.fn) := hXW.cell 0
    have pp1 : W.cell? ⟨w5.heap.size, 1, none⟩ = some (.int .i64 p1.code) := hXW.cell 1
    have pp2 : W.cell? ⟨w5.heap.size, 2, none⟩ = some (.slice A6 n6 c6) := hXW.cell 2
    have pp3 : W.cell? ⟨w5.heap.size, 3, none⟩ = some (.slice A7 n7 c7) := hXW.cell 3
    have qq0 : W.cell? ⟨w.heap.size + 1, 0, none⟩ = some (.int .i64 r.fn) := hQW.cell 0
    have qq1 : W.cell? ⟨w.heap.size + 1, 1, none⟩ = some (.int .i64 r.code) := hQW.cell 1
    have qq2 : W.cell? ⟨w.heap.size + 1, 2, none⟩ = some (.slice A4 n4 c4) := hQW.cell 2
    have qq3 : W.cell? ⟨w.heap.size + 1, 3, none⟩ = some (.slice A5 n5 c5) := hQW.cell 3
    clear hXW hQW
    go_simp
    with_reducible rfl
  simp only [Act.put]
  try simp only [List.getElem_toArray, List.getElem_cons_succ, List.getElem_cons_zero]
  try simp only [List.setIfInBounds_toArray, List.set_cons_succ, List.set_cons_zero]
  refine wpAnyH_take (i := 20) (v := ?v20_20) rfl (by kernel_rfl) (by kernel_rfl) (by kernel_rfl) (fun _ _ _ h => h) (Or.inl ⟨by rfl, ?y20_20⟩) hS ?r20_20
  case y20_20 =>
    rintro W hH
    have hXW := hX7.below hH hX7.lt
    have hQW := hQ7.below hH hQ7.lt
    have hcx := HX.out W hH
    have pp0 : W.cell? ⟨w5.heap.size, 0, none⟩ = some (.int .i64 p1.fn) := hXW.cell 0
    have pp1 : W.cell? ⟨w5.heap.size, 1, none⟩ = some (.int .i64 p1.code) := hXW.cell 1
    have pp2 : W.cell? ⟨w5.heap.size, 2, none⟩ = some (.slice A6 n6 c6) := hXW.cell 2
    have pp3 : W.cell? ⟨w5.heap.size, 3, none⟩ = some (.slice A7 n7 c7) := hXW.cell 3
    have qq0 : W.cell? ⟨w.heap.size + 1, 0, none⟩ = some (.int .i64 r.fn) := hQW.cell 0
    have qq1 : W.cell? ⟨w.heap.size + 1, 1, none⟩ = some (.int .i64 r.code) := hQW.cell 1
    have qq2 : W.cell? ⟨w.heap.size + 1, 2, none⟩ = some (.slice A4 n4 c4) := hQW.cell 2
    have qq3 : W.cell? ⟨w.heap.size + 1, 3, none⟩ = some (.slice A5 n5 c5) := hQW.cell 3
    clear hXW hQW
    go_simp
    with_reducible rfl
  simp only [Act.put]
  try simp only [List.getElem_toArray, List.getElem_cons_succ, List.getElem_cons_zero]
  try simp only [List.setIfInBounds_toArray, List.set_cons_succ, List.set_cons_zero]
  refine wpAnyH_take (i := 21) (v := ?v21_21) rfl (by kernel_rfl) (by kernel_rfl) (by kernel_rfl) (fun _ _ _ h => h) (Or.inl ⟨by rfl, ?y21_21⟩) hS ?r21_21
  case y21_21 =>
    rintro W hH
    have hXW := hX7.below hH hX7.lt
    have hQW := hQ7.below hH hQ7.lt
    have hcx := HX.out W hH
    have pp0 : W.cell? ⟨w5.heap.size, 0, none⟩ = some (.int .i64 p1.fn) := hXW.cell 0
    have pp1 : W.cell? ⟨w5.heap.size, 1, none⟩ = some (.int .i64 p1.code) := hXW.cell 1
    have pp2 : W.cell? ⟨w5.heap.size, 2, none⟩ = some (.slice A6 n6 c6) := hXW.cell 2
    have pp3 : W.cell? ⟨w5.heap.size, 3, none⟩ = some (.slice A7 n7 c7) := hXW.cell 3
    have qq0 : W.cell? ⟨w.heap.size + 1, 0, none⟩ = some (.int .i64 r.fn) := hQW.cell 0
    have qq1 : W.cell? ⟨w.heap.size + 1, 1, none⟩ = some (.int .i64 r.code) := hQW.cell 1
    have qq2 : W.cell? ⟨w.heap.size + 1, 2, none⟩ = some (.slice A4 n4 c4) := hQW.cell 2
    have qq3 : W.cell? ⟨w.heap.size + 1, 3, none⟩ = some (.slice A5 n5 c5) := hQW.cell 3
    clear hXW hQW
    go_simp
    with_reducible rfl
  simp only [Act.put]
  try simp only [List.getElem_toArray, List.getElem_cons_succ, List.getElem_cons_zero]
  try simp only [List.setIfInBounds_toArray, List.set_cons_succ, List.set_cons_zero]
  refine wpAnyH_take (i := 22) (v := ?v22_22) rfl (by kernel_rfl) (by kernel_rfl) (by kernel_rfl) (fun _ _ _ h => h) (Or.inl ⟨by rfl, ?y22_22⟩) hS ?r22_22
  case y22_22 =>
    rintro W hH
    have hXW := hX7.below hH hX7.lt
    have hQW := hQ7.below hH hQ7.lt
    have hcx := HX.out W hH
    have pp0 : W.cell? ⟨w5.heap.size, 0, none⟩ = some (.int .i64 p1.fn) := hXW.cell 0
    have pp1 : W.cell? ⟨w5.heap.size, 1, none⟩ = some (.int .i64 p1.code) := hXW.cell 1
    have pp2 : W.cell? ⟨w5.heap.size, 2, none⟩ = some (.slice A6 n6 c6) := hXW.cell 2
    have pp3 : W.cell? ⟨w5.heap.size, 3, none⟩ = some (.slice A7 n7 c7) := hXW.cell 3
    have qq0 : W.cell? ⟨w.heap.size + 1, 0, none⟩ = some (.int .i64 r.fn) := hQW.cell 0
    have qq1 : W.cell? ⟨w.heap.size + 1, 1, none⟩ = some (.int .i64 r.code) := hQW.cell 1
    have qq2 : W.cell? ⟨w.heap.size + 1, 2, none⟩ = some (.slice A4 n4 c4) := hQW.cell 2
    have qq3 : W.cell? ⟨w.heap.size + 1, 3, none⟩ = some (.slice A5 n5 c5) := hQW.cell 3
    clear hXW hQW
    go_simp
    with_reducible rfl
  simp only [Act.put]
  try simp only [List.getElem_toArray, List.getElem_cons_succ, List.getElem_cons_zero]
  try simp only [List.setIfInBounds_toArray, List.set_cons_succ, List.set_cons_zero]
  refine wpAnyH_take (i := 23) (v := ?v23_23) rfl (by kernel_rfl) (by kernel_rfl) (by kernel_rfl) (fun _ _ _ h => h) (Or.inl ⟨by rfl, ?y23_23⟩) hS ?r23_23
  case y23_23 =>
    rintro W hH
    have hXW := hX7.below hH hX7.lt
    have hQW := hQ7.below hH hQ7.lt
    have hcx := HX.out W hH
    have pp0 : W.cell? ⟨w5.heap.size, 0, none⟩ = some (.int .i64 p1.fn) := hXW.cell 0
    have pp1 : W.cell? ⟨w5.heap.size, 1, none⟩ = some (.int .i64 p1.code) := hXW.cell 1
    have pp2 : W.cell? ⟨w5.heap.size, 2, none⟩ = some (.slice A6 n6 c6) := hXW.cell 2
    have pp3 : W.cell? ⟨w5.heap.size, 3, none⟩ = some (.slice A7 n7 c7) := hXW.cell 3
    have qq0 : W.cell? ⟨w.heap.size + 1, 0, none⟩ = some (.int .i64 r.fn) := hQW.cell 0
    have qq1 : W.cell? ⟨w.heap.size + 1, 1, none⟩ = some (.int .i64 r.code) := hQW.cell 1
    have qq2 : W.cell? ⟨w.heap.size + 1, 2, none⟩ = some (.slice A4 n4 c4) := hQW.cell 2
    have qq3 : W.cell? ⟨w.heap.size + 1, 3, none⟩ = some (.slice A5 n5 c5) := hQW.cell 3
    clear hXW hQW
    go_simp
    with_reducible rfl
  simp only [Act.put]
  try simp only [List.getElem_toArray, List.getElem_cons_succ, List.getElem_cons_zero]
  try simp only [List.setIfInBounds_toArray, List.set_cons_succ, List.set_cons_zero]
  refine wpAnyH_take (i := 24) (v := ?v24_24) rfl (by kernel_rfl) (by kernel_rfl) (by kernel_rfl) (fun _ _ _ h => h) (Or.inl ⟨by rfl, ?y24_24⟩) hS ?r24_24
  case y24_24 =>
    rintro W hH
    have hXW := hX7.below hH hX7.lt
    have hQW := hQ7.below hH hQ7.lt
    have hcx := HX.out W hH
    have pp0 : W.cell? ⟨w5.heap.size, 0, none⟩ = some (.int .i64 p1.fn) := hXW.cell 0
    have pp1 : W.cell? ⟨w5.heap.size, 1, none⟩ = some (.int .i64 p1.code) := hXW.cell 1
    have pp2 : W.cell? ⟨w5.heap.size, 2, none⟩ = some (.slice A6 n6 c6) := hXW.cell 2
    have pp3 : W.cell? ⟨w5.heap.size, 3, none⟩ = some (.slice A7 n7 c7) := hXW.cell 3
    have qq0 : W.cell? ⟨w.heap.size + 1, 0, none⟩ = some (.int .i64 r.fn) := hQW.cell 0
    have qq1 : W.cell? ⟨w.heap.size + 1, 1, none⟩ = some (.int .i64 r.code) := hQW.cell 1
    have qq2 : W.cell? ⟨w.heap.size + 1, 2, none⟩ = some (.slice A4 n4 c4) := hQW.cell 2
    have qq3 : W.cell? ⟨w.heap.size + 1, 3, none⟩ = some (.slice A5 n5 c5) := hQW.cell 3
    clear hXW hQW
    go_simp
    with_reducible rfl
  simp only [Act.put]
  try simp only [List.getElem_toArray, List.getElem_cons_succ, List.getElem_cons_zero]
  try simp only [List.setIfInBounds_toArray, List.set_cons_succ, List.set_cons_zero]
  refine wpAnyH_take (i := 25) (v := ?v25_25) rfl (by kernel_rfl) (by kernel_rfl) (by kernel_rfl) (fun _ _ _ h => h) (Or.inl ⟨by rfl, ?y25_25⟩) hS ?r25_25
  case y25_25 =>
    rintro W hH
    have hXW := hX7.below hH hX7.lt
    have hQW := hQ7.below hH hQ7.lt
    have hcx := HX.out W hH
    have pp0 : W.cell? ⟨w5.heap.size, 0, none⟩ = some (.int .i64 p1.fn) := hXW.cell 0
    have pp1 : W.cell? ⟨w5.heap.size, 1, none⟩ = some (.int .i64 p1.code) := hXW.cell 1
    have pp2 : W.cell? ⟨w5.heap.size, 2, none⟩ = some (.slice A6 n6 c6) := hXW.cell 2
    have pp3 : W.cell? ⟨w5.heap.size, 3, none⟩ = some (.slice A7 n7 c7) := hXW.cell 3
    have qq0 : W.cell? ⟨w.heap.size + 1, 0, none⟩ = some (.int .i64 r.fn) := hQW.cell 0
    have qq1 : W.cell? ⟨w.heap.size + 1, 1, none⟩ = some (.int .i64 r.code) := hQW.cell 1
    have qq2 : W.cell? ⟨w.heap.size + 1, 2, none⟩ = some (.slice A4 n4 c4) := hQW.cell 2
    have qq3 : W.cell? ⟨w.heap.size + 1, 3, none⟩ = some (.slice A5 n5 c5) := hQW.cell 3
    clear hXW hQW
    go_simp
    with_reducible rfl
  simp only [Act.put]
  try simp only [List.getElem_toArray, List.getElem_cons_succ, List.getElem_cons_zero]
  try simp only [List.setIfInBounds_toArray, List.set_cons_succ, List.set_cons_zero]
  refine wpAnyH_take (i := 26) (v := ?v26_26) rfl (by kernel_rfl) (by kernel_rfl) (by kernel_rfl) (fun _ _ _ h => h) (Or.inl ⟨by rfl, ?y26_26⟩) hS ?r26_26
  case y26_26 =>
    rintro W hH
    have hXW := hX7.below hH hX7.lt
    have hQW := hQ7.below hH hQ7.lt
    have hcx := HX.out W hH
    have pp0 : W.cell? ⟨w5.heap.size, 0, none⟩ = some (.int .i64 p1.fn) := hXW.cell 0
    have pp1 : W.cell? ⟨w5.heap.size, 1, none⟩ = some (.int .i64 p1.code) := hXW.cell 1
    have pp2 : W.cell? ⟨w5.heap.size, 2, none⟩ = some (.slice A6 n6 c6) := hXW.cell 2
    have pp3 : W.cell? ⟨w5.heap.size, 3, none⟩ = some (.slice A7 n7 c7) := hXW.cell 3
    have qq0 : W.cell? ⟨w.heap.size + 1, 0, none⟩ = some (.int .i64 r.fn) := hQW.cell 0
    have qq1 : W.cell? ⟨w.heap.size + 1, 1, none⟩ = some (.int .i64 r.code) := hQW.cell 1
    have qq2 : W.cell? ⟨w.heap.size + 1, 2, none⟩ = some (.slice A4 n4 c4) := hQW.cell 2
    have qq3 : W.cell? ⟨w.heap.size + 1, 3, none⟩ = some (.slice A5 n5 c5) := hQW.cell 3
    clear hXW hQW
    go_simp
    with_reducible rfl
  simp only [Act.put]
  try simp only [List.getElem_toArray, List.getElem_cons_succ, List.getElem_cons_zero]
  try simp only [List.setIfInBounds_toArray, List.set_cons_succ, List.set_cons_zero]
  refine wpAnyH_take (i := 27) (v := ?v27_27) rfl (by kernel_rfl) (by kernel_rfl) (by kernel_rfl) (fun _ _ _ h => h) (Or.inl ⟨by rfl, ?y27_27⟩) hS ?r27_27
  case y27_27 =>
    rintro W hH
    have hXW := hX7.below hH hX7.lt
    have hQW := hQ7.below hH hQ7.lt
    have hcx := HX.out W hH
    have pp0 : W.cell? ⟨w5.heap.size, 0, none⟩ = some (.int .i64 p1.fn) := hXW.cell 0
    have pp1 : W.cell? ⟨w5.heap.size, 1, none⟩ = some (.int .i64 p1.code) := hXW.cell 1
    have pp2 : W.cell? ⟨w5.heap.size, 2, none⟩ = some (.slice A6 n6 c6) := hXW.cell 2
    have pp3 : W.cell? ⟨w5.heap.size, 3, none⟩ = some (.slice A7 n7 c7) := hXW.cell 3
    have qq0 : W.cell? ⟨w.heap.size + 1, 0, none⟩ = some (.int .i64 r.fn) := hQW.cell 0
    have qq1 : W.cell? ⟨w.heap.size + 1, 1, none⟩ = some (.int .i64 r.code) := hQW.cell 1
    have qq2 : W.cell? ⟨w.heap.size + 1, 2, none⟩ = some (.slice A4 n4 c4) := hQW.cell 2
    have qq3 : W.cell? ⟨w.heap.size + 1, 3, none⟩ = some (.slice A5 n5 c5) := hQW.cell 3
    clear hXW hQW
    go_simp
    with_reducible rfl
  simp only [Act.put]
  try simp only [List.getElem_toArray, List.getElem_cons_succ, List.getElem_cons_zero]
  try simp only [List.setIfInBounds_toArray, List.set_cons_succ, List.set_cons_zero]
  refine wpAnyH_take (i := 28) (v := ?v28_28) rfl (by kernel_rfl) (by kernel_rfl) (by kernel_rfl) (fun _ _ _ h => h) (Or.inl ⟨by rfl, ?y28_28⟩) hS ?r28_28
  case y28_28 =>
    rintro W hH
    have hXW := hX7.below hH hX7.lt
    have hQW := hQ7.below hH hQ7.lt
    have hcx := HX.out W hH
    have pp0 : W.cell? ⟨w5.heap.size, 0, none⟩ = some (.int .i64 p1.fn) := hXW.cell 0
    have pp1 : W.cell? ⟨w5.heap.size, 1, none⟩ = some (.int .i64 p1.code) := hXW.cell 1
    have pp2 : W.cell? ⟨w5.heap.size, 2, none⟩ = some (.slice A6 n6 c6) := hXW.cell 2
    have pp3 : W.cell? ⟨w5.heap.size, 3, none⟩ = some (.slice A7 n7 c7) := hXW.cell 3
    have qq0 : W.cell? ⟨w.heap.size + 1, 0, none⟩ = some (.int .i64 r.fn) := hQW.cell 0
    have qq1 : W.cell? ⟨w.heap.size + 1, 1, none⟩ = some (.int .i64 r.code) := hQW.cell 1
    have qq2 : W.cell? ⟨w.heap.size + 1, 2, none⟩ = some (.slice A4 n4 c4) := hQW.cell 2
    have qq3 : W.cell? ⟨w.heap.size + 1, 3, none⟩ = some (.slice A5 n5 c5) := hQW.cell 3
    clear hXW hQW
    go_simp
    with_reducible rfl
  simp only [Act.put]
  try simp only [List.getElem_toArray, List.getElem_cons_succ, List.getElem_cons_zero]
  try simp only [List.setIfInBounds_toArray, List.set_cons_succ, List.set_cons_zero]
  refine wpAnyH_take (i := 29) (v := ?v29_29) rfl (by kernel_rfl) (by kernel_rfl) (by kernel_rfl) (fun _ _ _ h => h) (Or.inl ⟨by rfl, ?y29_29⟩) hS ?r29_29
  case y29_29 =>
    rintro W hH
    have hXW := hX7.below hH hX7.lt
    have hQW := hQ7.below hH hQ7.lt
    have hcx := HX.out W hH
    have pp0 : W.cell? ⟨w5.heap.size, 0, none⟩ = some (.int .i64 p1.fn) := hXW.cell 0
    have pp1 : W.cell? ⟨w5.heap.size, 1, none⟩ = some (.int .i64 p1.code) := hXW.cell 1
    have pp2 : W.cell? ⟨w5.heap.size, 2, none⟩ = some (.slice A6 n6 c6) := hXW.cell 2
    have pp3 : W.cell? ⟨w5.heap.size, 3, none⟩ = some (.slice A7 n7 c7) := hXW.cell 3
    have qq0 : W.cell? ⟨w.heap.size + 1, 0, none⟩ = some (.int .i64 r.fn) := hQW.cell 0
    have qq1 : W.cell? ⟨w.heap.size + 1, 1, none⟩ = some (.int .i64 r.code) := hQW.cell 1
    have qq2 : W.cell? ⟨w.heap.size + 1, 2, none⟩ = some (.slice A4 n4 c4) := hQW.cell 2
    have qq3 : W.cell? ⟨w.heap.size + 1, 3, none⟩ = some (.slice A5 n5 c5) := hQW.cell 3
    clear hXW hQW
    go_simp
    with_reducible rfl
  simp only [Act.put]
  try simp only [List.getElem_toArray, List.getElem_cons_succ, List.getElem_cons_zero]
  try simp only [List.setIfInBounds_toArray, List.set_cons_succ, List.set_cons_zero]
  refine wpAnyH_take (i := 30) (v := ?v30_30) rfl (by kernel_rfl) (by kernel_rfl) (by kernel_rfl) (fun _ _ _ h => h) (Or.inl ⟨by rfl, ?y30_30⟩) hS ?r30_30
  case y30_30 =>
    rintro W hH
    have hXW := hX7.below hH hX7.lt
    have hQW := hQ7.below hH hQ7.lt
    have hcx := HX.out W hH
    have pp0 : W.cell? ⟨w5.heap.size, 0, none⟩ = some (.int .i64 p1.fn) := hXW.cell 0
    have pp1 : W.cell? ⟨w5.heap.size, 1, none⟩ = some (.int .i64 p1.code) := hXW.cell 1
    have pp2 : W.cell? ⟨w5.heap.size, 2, none⟩ = some (.slice A6 n6 c6) := hXW.cell 2
    have pp3 : W.cell? ⟨w5.heap.size, 3, none⟩ = some (.slice A7 n7 c7) := hXW.cell 3
    have qq0 : W.cell? ⟨w.heap.size + 1, 0, none⟩ = some (.int .i64 r.fn) := hQW.cell 0
    have qq1 : W.cell? ⟨w.heap.size + 1, 1, none⟩ = some (.int .i64 r.code) := hQW.cell 1
    have qq2 : W.cell? ⟨w.heap.size + 1, 2, none⟩ = some (.slice A4 n4 c4) := hQW.cell 2
    have qq3 : W.cell? ⟨w.heap.size + 1, 3, none⟩ = some (.slice A5 n5 c5) := hQW.cell 3
    clear hXW hQW
    go_simp
    with_reducible rfl
  simp only [Act.put]
  try simp only [List.getElem_toArray, List.getElem_cons_succ, List.getElem_cons_zero]
  try simp only [List.setIfInBounds_toArray, List.set_cons_succ, List.set_cons_zero]
  refine wpAnyH_take (i := 31) (v := ?v31_31) rfl (by kernel_rfl) (by kernel_rfl) (by kernel_rfl) (fun _ _ _ h => h) (Or.inl ⟨by rfl, ?y31_31⟩) hS ?r31_31
  case y31_31 =>
    rintro W hH
    have hXW := hX7.below hH hX7.lt
    have hQW := hQ7.below hH hQ7.lt
    have hcx := HX.out W hH
    have pp0 : W.cell? ⟨w5.heap.size, 0, none⟩ = some (.int .i64 p1.fn) := hXW.cell 0
    have pp1 : W.cell? ⟨w5.heap.size, 1, none⟩ = some (.int .i64 p1.code) := hXW.cell 1
    have pp2 : W.cell? ⟨w5.heap.size, 2, none⟩ = some (.slice A6 n6 c6) := hXW.cell 2
    have pp3 : W.cell? ⟨w5.heap.size, 3, none⟩ = some (.slice A7 n7 c7) := hXW.cell 3
    have qq0 : W.cell? ⟨w.heap.size + 1, 0, none⟩ = some (.int .i64 r.fn) := hQW.cell 0
    have qq1 : W.cell? ⟨w.heap.size + 1, 1, none⟩ = some (.int .i64 r.code) := hQW.cell 1
    have qq2 : W.cell? ⟨w.heap.size + 1, 2, none⟩ = some (.slice A4 n4 c4) := hQW.cell 2
    have qq3 : W.cell? ⟨w.heap.size + 1, 3, none⟩ = some (.slice A5 n5 c5) := hQW.cell 3
    clear hXW hQW
    go_simp
    with_reducible rfl
  simp only [Act.put]
  try simp only [List.getElem_toArray, List.getElem_cons_succ, List.getElem_cons_zero]
  try simp only [List.setIfInBounds_toArray, List.set_cons_succ, List.set_cons_zero]
  refine wpAnyH_done (by kernel_rfl) ?_ _
  have hbSw := hb7w.trans (hS.mono hz7)
  have hPS := hP7.below hS hP7.lt
  go_wp2_with (first | ((with_reducible refine at_loadT 25 3 ?_); refine wpList_load_rowG rfl 25 (.tmp 3) rfl w.heap.size rfl 25 _ _ hPS hu rfl hsz ?_) | ((with_reducible refine at_loadT 34 4 ?_); refine wpList_load_rowG rfl 34 (.tmp 4) rfl (w.heap.size + 1) rfl 34 _ _ hQS hu4 rfl hsz4 ?_))
  refine (HRA.out _ hbSw).mono ?_
  rintro e w8 ⟨v2, rfl, hv2, hb8⟩
  have hb8w := hbSw.trans (hb8.mono hbSw.size)
  have hP8 := hPS.below hb8 hPS.lt
  obtain ⟨A8, n8, c8, A9, n9, c9, rfl, s8, s9⟩ := hv2
  go_upto_region 9 with (fail)
  obtain ⟨w9, hw9⟩ : ∃ W, w8.alloc (.cells #[.int .i64 p2.fn, .int .i64 p2.code, .slice A8 n8 c8, .slice A9 n9 c9] 34) = W := ⟨_, rfl⟩
  have hb9 : Below w8.heap.size w8 w9 := by rw [← hw9]; exact (Below.refl _ _).alloc (Nat.le_refl _) _
  have hb9w := hb8w.trans (hb9.mono hb8w.size)
  have hY9 : Held w9 w8.heap.size 34 #[.int .i64 p2.fn, .int .i64 p2.code, .slice A8 n8 c8, .slice A9 n9 c9] := by rw [← hw9]; exact Held.new _ _ _
  rw [hw9]
  clear hw9
  have hP9 := hP8.below hb9 hP8.lt
  go_wp2_with (first | ((with_reducible refine at_loadT 25 3 ?_); refine wpList_load_rowG rfl 25 (.tmp 3) rfl w.heap.size rfl 25 _ _ hP9 hu rfl hsz ?_) | ((with_reducible refine at_loadT 34 12 ?_); refine wpList_load_rowG rfl 34 (.tmp 12) rfl w8.heap.size rfl 34 _ _ hY9 hu4 rfl hsz4 ?_))
  refine (HAQ.out w9 _ hb9w ⟨A8, n8, c8, A9, n9, c9, rfl, s8.up hb9, s9.up hb9⟩).mono ?_
  rintro e w10 ⟨Ay, ny, cy, rfl, sy, hb10⟩
  have hb10w := hb9w.trans (hb10.mono hb9w.size)
  have k1 := conv_sli sy
  have k2 := conv_sli (HB.out w10 hb10w)
  rw [hMb] at k1
  obtain ⟨T, hT⟩ : ∃ T, strOfNums b = T := ⟨_, rfl⟩
  rw [hT] at k1 k2
  clear sy hT
  go_wp2_with fail
  go_ret
  exact ⟨rfl, hb10w⟩
end Go.Proofs.YtflbiichdjhaeaaDoor
