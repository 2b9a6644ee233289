/- The law PduAnswers. -/
import Derived.Test.YtflbiichdjhaeaaDoorPduRr
import Derived.Test.YtflbiichdjhaeaaDoorPduAlive
import Derived.Test.YtflbiichdjhaeaaDoorPduSame
import Derived.Test.YtflbiichdjhaeaaDoorPduAnswer
import Derived.Test.YtflbiichdjhaeaaDoorPduRa
import Derived.Test.YtflbiichdjhaeaaDoorQuiet
namespace Go.Proofs.YtflbiichdjhaeaaDoor
open Go.RowKit
set_option linter.unusedVariables false

set_option maxRecDepth 100000 in
set_option maxHeartbeats 4000000 in
theorem law_answers (a : AskP) (r : RepP) (b : List Int) (A2 : Option Addr) (n2 c2 : Nat) (A3 : Option Addr) (n3 c3 : Nat) (A4 : Option Addr) (n4 c4 : Nat) (A5 : Option Addr) (n5 c5 : Nat) (B : Option Addr) (n c : Nat) (w : World) (hT : LimT w)
    (h2 : SlB w w.heap.size A2 n2 c2 a.bits) (h3 : SlI w w.heap.size .u16 A3 n3 c3 a.regs) (h3i : Reg16 a.regs) (h4 : SlB w w.heap.size A4 n4 c4 r.bits) (h5 : SlI w w.heap.size .u16 A5 n5 c5 r.regs) (h5i : Reg16 r.regs) (hB : SlI w w.heap.size .u8 B n c b) (hb8 : Byte8 b) :
    Calls Tryd.prog 4 #[.agg #[.int .i64 a.fn, .int .i64 a.addr, .int .i64 a.count, .int .i64 a.to, .slice A2 n2 c2, .slice A3 n3 c3], .agg #[.int .i64 r.fn, .int .i64 r.code, .slice A4 n4 c4, .slice A5 n5 c5], .slice B n c] w fun e w' => e = .returned (.bool true) ∧ Below w.heap.size w w' := by
  obtain ⟨w2, hw2⟩ : ∃ w2, (w.alloc (.cells #[.int .i64 a.fn, .int .i64 a.addr, .int .i64 a.count, .int .i64 a.to, .slice A2 n2 c2, .slice A3 n3 c3] 25)).alloc (.cells #[.int .i64 r.fn, .int .i64 r.code, .slice A4 n4 c4, .slice A5 n5 c5] 34) = w2 := ⟨_, rfl⟩
  have hb2 : Below w.heap.size w w2 := by rw [← hw2]; exact (((Below.refl _ w).alloc (Nat.le_refl _) _).alloc (by simp) _)
  have hP2 : Held w2 w.heap.size 25 #[.int .i64 a.fn, .int .i64 a.addr, .int .i64 a.count, .int .i64 a.to, .slice A2 n2 c2, .slice A3 n3 c3] := by rw [← hw2]; exact (Held.new w _ _).alloc _
  have hQ2 : Held w2 (w.heap.size + 1) 34 #[.int .i64 r.fn, .int .i64 r.code, .slice A4 n4 c4, .slice A5 n5 c5] := by rw [← hw2]; have := Held.new (w.alloc (.cells #[.int .i64 a.fn, .int .i64 a.addr, .int .i64 a.count, .int .i64 a.to, .slice A2 n2 c2, .slice A3 n3 c3] 25)) 34 #[.int .i64 r.fn, .int .i64 r.code, .slice A4 n4 c4, .slice A5 n5 c5]; rw [World.size_alloc] at this; exact this
  have HG2 := Lib.hid (fun X => great_any A2 A3 n2 c2 n3 c3 X)
  have HG4 := Lib.hid (fun X => great_any A4 A5 n4 c4 n5 c5 X)
  have hu := Tryd.underlying25
  have hu4 := Tryd.underlying34
  have hsz : (Tryd.prog.info? 25).map (·.size) = some 6 := by kernel_rfl
  have hsz4 : (Tryd.prog.info? 34).map (·.size) = some 4 := by kernel_rfl
  have g4n := h4.1
  have g5n := h5.1
  have L4 : n4 ≤ 2500 → r.bits.length ≤ 100000 := fun h => by omega
  have L5 : n5 ≤ 300 → r.regs.length ≤ 100000 := fun h => by omega
  obtain ⟨L, hL⟩ : ∃ L, (answerP a r).getD [] = L := ⟨_, rfl⟩
  obtain ⟨ea, hea⟩ : ∃ e, errV (answerP a r).isSome = e := ⟨_, rfl⟩
  obtain ⟨p, hp⟩ : ∃ p, (readAnswerP a b).getD rep0 = p := ⟨_, rfl⟩
  obtain ⟨ep, hep⟩ : ∃ e, errV (readAnswerP a b).isSome = e := ⟨_, rfl⟩
  have HAN : Hid (n4 ≤ 2500 → n5 ≤ 300 → ∀ X, Below w.heap.size w X → Calls Tryd.prog 13 #[.agg #[.int .i64 a.fn, .int .i64 a.addr, .int .i64 a.count, .int .i64 a.to, .slice A2 n2 c2, .slice A3 n3 c3], .agg #[.int .i64 r.fn, .int .i64 r.code, .slice A4 n4 c4, .slice A5 n5 c5]] X fun e w' => ∃ A n c, e = .returned (.tuple #[.slice A n c, .int .i64 ea]) ∧ SlI w' w'.heap.size .u8 A n c L ∧ Below X.heap.size X w') := Lib.hid (fun k4 k5 X h => by rw [← hL, ← hea]; exact answer_own (.agg #[.int .i64 a.fn, .int .i64 a.addr, .int .i64 a.count, .int .i64 a.to, .slice A2 n2 c2, .slice A3 n3 c3]) (.agg #[.int .i64 r.fn, .int .i64 r.code, .slice A4 n4 c4, .slice A5 n5 c5]) a r X (hT.up h) ⟨A2, n2, c2, A3, n3, c3, rfl, h2.up h, h3.up h⟩ ⟨A4, n4, c4, A5, n5, c5, rfl, h4.up h, h5.up h⟩ h3i h5i (L4 k4) (L5 k5))
  have HAR : Hid (∀ X, Below w.heap.size w X → Calls Tryd.prog 14 #[.agg #[.int .i64 a.fn, .int .i64 a.addr, .int .i64 a.count, .int .i64 a.to, .slice A2 n2 c2, .slice A3 n3 c3], .agg #[.int .i64 r.fn, .int .i64 r.code, .slice A4 n4 c4, .slice A5 n5 c5]] X fun e w' => ∃ A n c, e = .returned (.tuple #[.slice A n c, .int .i64 ea]) ∧ SlI w' w'.heap.size .u8 A n c L ∧ Below X.heap.size X w') := Lib.hid (fun X h => by rw [← hL, ← hea]; exact answer_ref (.agg #[.int .i64 a.fn, .int .i64 a.addr, .int .i64 a.count, .int .i64 a.to, .slice A2 n2 c2, .slice A3 n3 c3]) (.agg #[.int .i64 r.fn, .int .i64 r.code, .slice A4 n4 c4, .slice A5 n5 c5]) a r X ⟨A2, n2, c2, A3, n3, c3, rfl, h2.up h, h3.up h⟩ ⟨A4, n4, c4, A5, n5, c5, rfl, h4.up h, h5.up h⟩ h3i h5i)
  have HRA : Hid (n ≤ 1000 → ∀ X, Below w.heap.size w X → Calls Tryd.prog 15 #[.agg #[.int .i64 a.fn, .int .i64 a.addr, .int .i64 a.count, .int .i64 a.to, .slice A2 n2 c2, .slice A3 n3 c3], .slice B n c] X fun e w' => ∃ v, e = .returned (.tuple #[v, .int .i64 ep]) ∧ RepAt w' v p ∧ Below X.heap.size X w') := Lib.hid (fun hn X h => by rw [← hp, ← hep]; exact readanswer_own (.agg #[.int .i64 a.fn, .int .i64 a.addr, .int .i64 a.count, .int .i64 a.to, .slice A2 n2 c2, .slice A3 n3 c3]) a B n c b X (hT.up h) ⟨A2, n2, c2, A3, n3, c3, rfl, h2.up h, h3.up h⟩ h3i (hB.up h) hb8 hn)
  have HRR : Hid (n ≤ 1000 → ∀ X, Below w.heap.size w X → Calls Tryd.prog 16 #[.agg #[.int .i64 a.fn, .int .i64 a.addr, .int .i64 a.count, .int .i64 a.to, .slice A2 n2 c2, .slice A3 n3 c3], .slice B n c] X fun e w' => ∃ v, e = .returned (.tuple #[v, .int .i64 ep]) ∧ RepAt w' v p ∧ Below X.heap.size X w') := Lib.hid (fun hn X h => by rw [← hp, ← hep]; exact readanswer_ref (.agg #[.int .i64 a.fn, .int .i64 a.addr, .int .i64 a.count, .int .i64 a.to, .slice A2 n2 c2, .slice A3 n3 c3]) a B n c b X ⟨A2, n2, c2, A3, n3, c3, rfl, h2.up h, h3.up h⟩ h3i (hB.up h) hb8 hn)
  clear hL hea hp hep hT h2 h3 h4 h5 h3i h5i hB hb8 L4 L5 g4n g5n
  have HG2f : Hid ((decide (2500 < n2) || decide (300 < n3)) = false → True) := Lib.hid fun _ => trivial
  have HG4f : Hid ((decide (2500 < n4) || decide (300 < n5)) = false → n4 ≤ 2500 ∧ n5 ≤ 300) := Lib.hid (fun h => by simp at h; omega)
  have hb2w := hb2
  cases e2 : (decide (2500 < n2) || decide (300 < n3)) with
  | true =>
    rw [e2] at HG2
    clear e2
    go_in
    go_upto_region 1 with (fail)
    have p2_4 : w2.cell? ⟨w.heap.size, 4, none⟩ = some (.slice A2 n2 c2) := hP2.cell 4
    have p2_5 : w2.cell? ⟨w.heap.size, 5, none⟩ = some (.slice A3 n3 c3) := hP2.cell 5
    have q2_2 : w2.cell? ⟨w.heap.size + 1, 2, none⟩ = some (.slice A4 n4 c4) := hQ2.cell 2
    have q2_3 : w2.cell? ⟨w.heap.size + 1, 3, none⟩ = some (.slice A5 n5 c5) := hQ2.cell 3
    go_wp2_with (first
  | (go_at_call 10; (with_reducible refine (HG2.out _).mono ?_); rintro e w' ⟨rfl, rfl⟩)
  | (go_at_call 10; (with_reducible refine (HG4.out _).mono ?_); rintro e w' ⟨rfl, rfl⟩))
    go_ret
    exact ⟨rfl, hb2w⟩
  | false =>
  rw [e2] at HG2
  clear e2
  cases e4 : (decide (2500 < n4) || decide (300 < n5)) with
  | true =>
    rw [e4] at HG4
    clear e4
    go_in
    go_upto_region 1 with (fail)
    have p2_4 : w2.cell? ⟨w.heap.size, 4, none⟩ = some (.slice A2 n2 c2) := hP2.cell 4
    have p2_5 : w2.cell? ⟨w.heap.size, 5, none⟩ = some (.slice A3 n3 c3) := hP2.cell 5
    have q2_2 : w2.cell? ⟨w.heap.size + 1, 2, none⟩ = some (.slice A4 n4 c4) := hQ2.cell 2
    have q2_3 : w2.cell? ⟨w.heap.size + 1, 3, none⟩ = some (.slice A5 n5 c5) := hQ2.cell 3
    go_wp2_with (first
  | (go_at_call 10; (with_reducible refine (HG2.out _).mono ?_); rintro e w' ⟨rfl, rfl⟩)
  | (go_at_call 10; (with_reducible refine (HG4.out _).mono ?_); rintro e w' ⟨rfl, rfl⟩))
    go_ret
    exact ⟨rfl, hb2w⟩
  | false =>
  obtain ⟨k4, k5⟩ := HG4f.out e4
  rw [e4] at HG4
  clear e4
  have HAN' := Lib.hid (HAN.out k4 k5)
  clear HAN k4 k5
  by_cases hn3 : (300 : Int) < (n : Int)
  · skip
    go_in
    go_upto_region 1 with (fail)
    have p2_4 : w2.cell? ⟨w.heap.size, 4, none⟩ = some (.slice A2 n2 c2) := hP2.cell 4
    have p2_5 : w2.cell? ⟨w.heap.size, 5, none⟩ = some (.slice A3 n3 c3) := hP2.cell 5
    have q2_2 : w2.cell? ⟨w.heap.size + 1, 2, none⟩ = some (.slice A4 n4 c4) := hQ2.cell 2
    have q2_3 : w2.cell? ⟨w.heap.size + 1, 3, none⟩ = some (.slice A5 n5 c5) := hQ2.cell 3
    go_wp2_with (first
  | (go_at_call 10; (with_reducible refine (HG2.out _).mono ?_); rintro e w' ⟨rfl, rfl⟩)
  | (go_at_call 10; (with_reducible refine (HG4.out _).mono ?_); rintro e w' ⟨rfl, rfl⟩))
    go_ret
    exact ⟨rfl, hb2w⟩
  · have hn4 : n ≤ 1000 := by omega
    have HRA' := Lib.hid (HRA.out hn4)
    have HRR' := Lib.hid (HRR.out hn4)
    clear HRA HRR
    go_in
    go_upto_region 1 with (fail)
    have p2_4 : w2.cell? ⟨w.heap.size, 4, none⟩ = some (.slice A2 n2 c2) := hP2.cell 4
    have p2_5 : w2.cell? ⟨w.heap.size, 5, none⟩ = some (.slice A3 n3 c3) := hP2.cell 5
    have q2_2 : w2.cell? ⟨w.heap.size + 1, 2, none⟩ = some (.slice A4 n4 c4) := hQ2.cell 2
    have q2_3 : w2.cell? ⟨w.heap.size + 1, 3, none⟩ = some (.slice A5 n5 c5) := hQ2.cell 3
    go_wp2_with (first | (first
    | (go_at_call 10; (with_reducible refine (HG2.out _).mono ?_); rintro e w' ⟨rfl, rfl⟩)
    | (go_at_call 10; (with_reducible refine (HG4.out _).mono ?_); rintro e w' ⟨rfl, rfl⟩)) | (first | ((with_reducible refine at_loadT 25 3 ?_); refine wpList_load_rowG rfl 25 (.tmp 3) rfl w.heap.size rfl 25 _ _ hP2 hu rfl hsz ?_) | ((with_reducible refine at_loadT 34 4 ?_); refine wpList_load_rowG rfl 34 (.tmp 4) rfl (w.heap.size + 1) rfl 34 _ _ hQ2 hu4 rfl hsz4 ?_)))
    refine (HAN'.out w2 hb2w).mono ?_
    rintro e w3 ⟨Ax, nx, cx, rfl, sx, hb3⟩
    have hb3w := hb2w.trans (hb3.mono hb2w.size)
    have hP3 := hP2.below hb3 hP2.lt
    have hQ3 := hQ2.below hb3 hQ2.lt
    go_wp2_with (first | ((with_reducible refine at_loadT 25 3 ?_); refine wpList_load_rowG rfl 25 (.tmp 3) rfl w.heap.size rfl 25 _ _ hP3 hu rfl hsz ?_) | ((with_reducible refine at_loadT 34 4 ?_); refine wpList_load_rowG rfl 34 (.tmp 4) rfl (w.heap.size + 1) rfl 34 _ _ hQ3 hu4 rfl hsz4 ?_))
    refine (HAR.out w3 hb3w).mono ?_
    rintro e w4 ⟨Ay, ny, cy, rfl, sy, hb4⟩
    have hb4w := hb3w.trans (hb4.mono hb3w.size)
    have hP4 := hP3.below hb4 hP3.lt
    go_wp2_with (first | ((with_reducible refine at_loadT 25 3 ?_); refine wpList_load_rowG rfl 25 (.tmp 3) rfl w.heap.size rfl 25 _ _ hP4 hu rfl hsz ?_) | ((with_reducible refine at_loadT 34 4 ?_); refine wpList_load_rowG rfl 34 (.tmp 4) rfl (w.heap.size + 1) rfl 34 _ _ hQ4 hu4 rfl hsz4 ?_))
    refine (HRA'.out w4 hb4w).mono ?_
    rintro e w5 ⟨v1, rfl, ⟨A6, n6, c6, A7, n7, c7, rfl, s6, s7⟩, hb5⟩
    have hb5w := hb4w.trans (hb5.mono hb4w.size)
    have hP5 := hP4.below hb5 hP4.lt
    go_upto_region 6 with (fail)
    obtain ⟨w6, hw6⟩ : ∃ W, w5.alloc (.cells #[.int .i64 p.fn, .int .i64 p.code, .slice A6 n6 c6, .slice A7 n7 c7] 34) = W := ⟨_, rfl⟩
    have hb6 : Below w5.heap.size w5 w6 := by rw [← hw6]; exact (Below.refl _ _).alloc (Nat.le_refl _) _
    have hb6w := hb5w.trans (hb6.mono hb5w.size)
    have hX6 : Held w6 w5.heap.size 34 #[.int .i64 p.fn, .int .i64 p.code, .slice A6 n6 c6, .slice A7 n7 c7] := by rw [← hw6]; exact Held.new _ _ _
    rw [hw6]
    clear hw6
    have hP6 := hP5.below hb6 hP5.lt
    go_wp2_with (first | ((with_reducible refine at_loadT 25 3 ?_); refine wpList_load_rowG rfl 25 (.tmp 3) rfl w.heap.size rfl 25 _ _ hP6 hu rfl hsz ?_) | ((with_reducible refine at_loadT 34 4 ?_); refine wpList_load_rowG rfl 34 (.tmp 4) rfl (w.heap.size + 1) rfl 34 _ _ hQ2 hu4 rfl hsz4 ?_))
    refine (HRR'.out w6 hb6w).mono ?_
    rintro e w7 ⟨v2, rfl, ⟨A8, n8, c8, A9, n9, c9, rfl, s8, s9⟩, hb7⟩
    have hb7w := hb6w.trans (hb7.mono hb6w.size)
    have hX7 := hX6.below hb7 hX6.lt
    go_upto_region 7 with (fail)
    obtain ⟨w8, hw8⟩ : ∃ W, w7.alloc (.cells #[.int .i64 p.fn, .int .i64 p.code, .slice A8 n8 c8, .slice A9 n9 c9] 34) = W := ⟨_, rfl⟩
    have hb8 : Below w7.heap.size w7 w8 := by rw [← hw8]; exact (Below.refl _ _).alloc (Nat.le_refl _) _
    have hb8w := hb7w.trans (hb8.mono hb7w.size)
    have hX8 := hX7.below hb8 hX7.lt
    have hY8 : Held w8 w7.heap.size 34 #[.int .i64 p.fn, .int .i64 p.code, .slice A8 n8 c8, .slice A9 n9 c9] := by rw [← hw8]; exact Held.new _ _ _
    rw [hw8]
    clear hw8
    obtain ⟨T, hT⟩ : ∃ T, strOfNums L = T := ⟨_, rfl⟩
    have HC1 : Hid (∀ W, Below w8.heap.size w8 W → (convert 28 9 (.slice Ax nx cx)).run Tryd.prog W = .ok (.string T) W) := Lib.hid (fun W h => by rw [← hT]; exact conv_sli ((((((sx.up hb4).up hb5).up hb6).up hb7).up hb8).up h))
    have HC2 : Hid (∀ W, Below w8.heap.size w8 W → (convert 28 9 (.slice Ay ny cy)).run Tryd.prog W = .ok (.string T) W) := Lib.hid (fun W h => by rw [← hT]; exact conv_sli (((((sy.up hb5).up hb6).up hb7).up hb8).up h))
    have HSB : Hid (∀ X, Below w8.heap.size w8 X → Calls Tryd.prog 17 #[.agg #[.int .i64 p.fn, .int .i64 p.code, .slice A6 n6 c6, .slice A7 n7 c7], .agg #[.int .i64 p.fn, .int .i64 p.code, .slice A8 n8 c8, .slice A9 n9 c9]] X fun e w' => e = .returned (.bool true) ∧ Below X.heap.size X w') := Lib.hid (fun X h => by
      have := samer_ref (.agg #[.int .i64 p.fn, .int .i64 p.code, .slice A6 n6 c6, .slice A7 n7 c7]) (.agg #[.int .i64 p.fn, .int .i64 p.code, .slice A8 n8 c8, .slice A9 n9 c9]) p p X ⟨A6, n6, c6, A7, n7, c7, rfl, (((s6.up hb6).up hb7).up hb8).up h, (((s7.up hb6).up hb7).up hb8).up h⟩ ⟨A8, n8, c8, A9, n9, c9, rfl, (s8.up hb8).up h, (s9.up hb8).up h⟩
      rw [show decide (p = p) = true from decide_eq_true rfl] at this
      exact this)
    clear hT sx sy s6 s7 s8 s9 HAN' HAR HRA' HRR'
    have k1 := HC1.out w8 (Below.refl _ _)
    have k2 := HC2.out w8 (Below.refl _ _)
    go_wp2_with (first | ((with_reducible refine at_loadT 34 11 ?_); refine wpList_load_rowG rfl 34 (.tmp 11) rfl w5.heap.size rfl 34 _ _ hX8 hu4 rfl hsz4 ?_) | ((with_reducible refine at_loadT 34 13 ?_); refine wpList_load_rowG rfl 34 (.tmp 13) rfl w7.heap.size rfl 34 _ _ hY8 hu4 rfl hsz4 ?_))
    refine (HSB.out w8 (Below.refl _ _)).mono ?_
    rintro e wn ⟨rfl, hn⟩
    go_wp2_with fail
    go_ret
    exact ⟨rfl, hb8w.trans (hn.mono hb8w.size)⟩
end Go.Proofs.YtflbiichdjhaeaaDoor
