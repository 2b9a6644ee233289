/- The law BusRight. Printed by busrightw.py. -/
import Derived.Test.YtcipleanckeoaaaDoorBusAlive
import Derived.Test.YtcipleanckeoaaaDoorBusLawP
import Derived.Test.YtcipleanckeoaaaDoorPduRa
namespace Go.Proofs.YtcipleanckeoaaaDoor
open Go.RowKit
attribute [local go_sem] Oper.semAt_some
set_option linter.unusedVariables false
set_option linter.unusedSimpArgs false
set_option maxRecDepth 100000
theorem act_lit (w : World) (kind : Int) (A : Option Addr) (nn c : Nat) (regs : List Int) (n wth : Int) (h : SlI w w.heap.size .u16 A nn c regs) : ActAt w (.agg #[.int .i64 kind, .int .i64 0, .int .i64 0, .slice A nn c, .int .i64 0, .int .i64 n, .int .i64 0, .int .u8 wth, .slice none 0 0]) (actR kind regs n wth) := ⟨A, nn, c, none, 0, 0, rfl, h, SlI.nil _ _ _⟩
theorem actR_ok (kind : Int) (regs : List Int) (n wth : Int) (hr : Reg16 regs) (hw : 0 ≤ wth ∧ wth < 256) : (actR kind regs n wth).ok := by
  unfold ActP.ok actR
  dsimp only
  exact ⟨by omega, by omega, hw, hr, (fun x hx => by cases hx), by omega⟩
theorem repA_lit (w : World) (A : Option Addr) (nn c : Nat) (regs : List Int) (h : SlI w w.heap.size .u16 A nn c regs) : RepAt w (.agg #[.int .i64 3, .int .i64 0, .slice none 0 0, .slice A nn c]) (repA regs) := ⟨none, 0, 0, A, nn, c, rfl, SlB.nil _ _, h⟩
theorem askL_may {addr count : Int} (h : mayP (askA addr count) = true) : askL (askA addr count) = bytesP (askA addr count) := by unfold askL; rw [if_pos h]
set_option maxHeartbeats 8000000 in
theorem right22_no (unit addr : Int) (A : Option Addr) (nn c : Nat) (xs : List Int) (n wth : Int) (w : World) (hT : LimT w) (hN : NamesT w) (hS : SlI w w.heap.size .u16 A nn c xs) (h : 200 < nn ∨ mayP (askA addr nn) = false ∨ unit ≤ 0 ∨ 247 < unit) :
    Calls Tryd.prog 7 #[.int .i64 unit, .int .i64 addr, .slice A nn c, .int .i64 n, .int .u8 wth] w fun e w' => e = .returned (.bool true) ∧ Below w.heap.size w w' := by
  have HA := Lib.hid (alive22_any w hT hN)
  have HB := Lib.hid (fun (V : World) (h : Below w.heap.size w V) => bytes_own _ _ V (hT.up h) (askA_at V addr nn) (fun x hx => by cases hx))
  clear hT hN hS
  by_cases h200 : 200 < nn
  · have d1 : decide ((nn : Int) > 200) = true := decide_eq_true (by omega)
    have d1n : decide (200 < nn) = true := decide_eq_true h200
    have d1i : decide ((200 : Int) < (nn : Int)) = true := decide_eq_true (by omega)
    go_in
    go_wp2_with fail
    refine HA.out.mono ?_
    rintro e w1 ⟨rfl, b1⟩
    have HB1 := Lib.hid b1
    clear b1
    go_wp2_with fail
    go_ret
    exact ⟨rfl, HB1.out⟩
  · have d1 : decide ((nn : Int) > 200) = false := decide_eq_false (by omega)
    have d1n : decide (200 < nn) = false := decide_eq_false h200
    have d1i : decide ((200 : Int) < (nn : Int)) = false := decide_eq_false (by omega)
    go_in
    go_wp2_with fail
    refine HA.out.mono ?_
    rintro e w1 ⟨rfl, b1⟩
    obtain ⟨w2, hw2⟩ : ∃ Y, w1.alloc (.cells #[.int .i64 3, .int .i64 addr, .int .i64 nn, .int .i64 0, .slice none 0 0, .slice none 0 0] 59) = Y := ⟨_, rfl⟩
    have b2 : Below w.heap.size w w2 := by rw [← hw2]; exact b1.alloc b1.size _
    have hX : Held w2 w1.heap.size 59 #[.int .i64 3, .int .i64 addr, .int .i64 nn, .int .i64 0, .slice none 0 0, .slice none 0 0] := by rw [← hw2]; exact Held.new w1 _ _
    have x0 : w2.cell? ⟨w1.heap.size, 0, none⟩ = some (.int .i64 3) := hX.cell 0
    have x1 : w2.cell? ⟨w1.heap.size, 1, none⟩ = some (.int .i64 addr) := hX.cell 1
    have x2 : w2.cell? ⟨w1.heap.size, 2, none⟩ = some (.int .i64 nn) := hX.cell 2
    have x3 : w2.cell? ⟨w1.heap.size, 3, none⟩ = some (.int .i64 0) := hX.cell 3
    have x4 : w2.cell? ⟨w1.heap.size, 4, none⟩ = some (.slice none 0 0) := hX.cell 4
    have x5 : w2.cell? ⟨w1.heap.size, 5, none⟩ = some (.slice none 0 0) := hX.cell 5
    have fx0 := hX.frozen 0
    have fx1 := hX.frozen 1
    have fx2 := hX.frozen 2
    have fx3 := hX.frozen 3
    have fx4 := hX.frozen 4
    have fx5 := hX.frozen 5
    have HB2 := Lib.hid b2
    have HBB := Lib.hid (HB.out w2 b2)
    have HWE := Lib.hid hw2
    clear b1 b2 hX hw2
    go_wp2_with fail
    rw [HWE.out]
    refine HBB.out.mono ?_
    rintro e w3 ⟨A3, n3, c3, rfl, s3, b3⟩
    have hb3 := HB2.out.trans (b3.mono HB2.out.size)
    have HR := Lib.hid (rtuf_any unit A3 n3 c3 _ w3 s3 (askL_8 addr nn))
    obtain ⟨ev, hev⟩ : ∃ z, errV (mayP (askA addr nn)) = z := ⟨_, rfl⟩
    obtain ⟨er, her⟩ : ∃ z, (if (rtuB unit (askL (askA addr nn))).isSome then (0 : Int) else 200) = z := ⟨_, rfl⟩
    have HER := Lib.hid her
    have HH : Hid (ev ≠ 0 ∨ er ≠ 0 ∨ unit = 0) := Lib.hid (by
      rcases h with h | h | h | h
      · exact absurd h h200
      · left; rw [← hev, h]; decide
      · by_cases h0 : unit = 0
        · exact .inr (.inr h0)
        · refine .inr (.inl ?_); rw [← her, show rtuB unit (askL (askA addr nn)) = none from by unfold rtuB; exact if_neg (fun hh => by have := hh.1; omega)]; decide
      · refine .inr (.inl ?_); rw [← her, show rtuB unit (askL (askA addr nn)) = none from by unfold rtuB; exact if_neg (fun hh => by have := hh.1; omega)]; decide)
    have HB3 := Lib.hid hb3
    rw [hev]
    clear s3 b3 hb3 hev her h x0 x1 x2 x3 x4 x5 fx0 fx1 fx2 fx3 fx4 fx5
    go_wp2_with fail
    refine HR.out.mono ?_
    rintro e w4 ⟨A4, n4, c4, rfl, s4, b4, _⟩
    rw [HER.out]
    have HB4 := Lib.hid (HB3.out.trans (b4.mono HB3.out.size))
    clear s4 b4
    by_cases e1 : ev = 0
    · by_cases e2 : er = 0
      · have hu : unit = 0 := by have := HH.out; omega
        subst e1 e2 hu
        go_wp2_with fail
        go_ret
        exact ⟨rfl, HB4.out⟩
      · have t1 : (er != 0) = true := by simp [e2]
        subst e1
        go_wp2_with fail
        go_ret
        exact ⟨rfl, HB4.out⟩
    · have t1 : (ev != 0) = true := by simp [e1]
      go_wp2_with fail
      go_ret
      exact ⟨rfl, HB4.out⟩
set_option maxHeartbeats 16000000 in
theorem right22_yes (unit addr : Int) (A : Option Addr) (nn c : Nat) (xs : List Int) (n wth : Int) (w : World) (hT : LimT w) (hN : NamesT w) (hS : SlI w w.heap.size .u16 A nn c xs) (hr : Reg16 xs) (hw8 : 0 ≤ wth ∧ wth < 256) (h200 : nn ≤ 200) (hm : mayP (askA addr nn) = true) (hu : 1 ≤ unit ∧ unit ≤ 247) :
    Calls Tryd.prog 7 #[.int .i64 unit, .int .i64 addr, .slice A nn c, .int .i64 n, .int .u8 wth] w fun e w' => e = .returned (.bool true) ∧ Below w.heap.size w w' := by
  have hnn := hS.1
  have hc := count_ask hm
  have HA := Lib.hid (alive22_any w hT hN)
  have HW := Lib.hid (fun (V : World) (h : Below w.heap.size w V) => (⟨hT.up h, hN.up h, hS.up h⟩ : LimT V ∧ NamesT V ∧ SlI V V.heap.size .u16 A nn c xs))
  have hmx : mayP (askA addr xs.length) = true := by rw [hnn]; exact hm
  obtain ⟨q1, q2, q3, q4⟩ := read_ask unit addr xs hu hr hmx
  have q5 := right_ask unit addr xs hu hmx
  rw [hnn] at q2 q5
  have HQ := Lib.hid (And.intro q1 (And.intro q2 (And.intro q3 (And.intro q4 q5))))
  have HM := Lib.hid hm
  have HR := Lib.hid hr
  have HL := Lib.hid hnn
  clear hT hN hS q1 q2 q3 q4 q5 hmx hr hm
  have d1 : decide ((nn : Int) > 200) = false := decide_eq_false (by omega)
  have d1n : decide (200 < nn) = false := decide_eq_false (by omega)
  have d1i : decide ((200 : Int) < (nn : Int)) = false := decide_eq_false (by omega)
  go_in
  go_wp2_with fail
  refine HA.out.mono ?_
  rintro e w1 ⟨rfl, b1⟩
  obtain ⟨gq, hgq⟩ : ∃ q, w1.heap.size = q := ⟨_, rfl⟩
  obtain ⟨w2, hw2⟩ : ∃ Y, w1.alloc (.cells #[.int .i64 3, .int .i64 addr, .int .i64 nn, .int .i64 0, .slice none 0 0, .slice none 0 0] 59) = Y := ⟨_, rfl⟩
  have b2 : Below w.heap.size w w2 := by rw [← hw2]; exact b1.alloc b1.size _
  have hX : Held w2 gq 59 #[.int .i64 3, .int .i64 addr, .int .i64 nn, .int .i64 0, .slice none 0 0, .slice none 0 0] := by rw [← hw2, ← hgq]; exact Held.new w1 _ _
  have x0 : w2.cell? ⟨gq, 0, none⟩ = some (.int .i64 3) := hX.cell 0
  have x1 : w2.cell? ⟨gq, 1, none⟩ = some (.int .i64 addr) := hX.cell 1
  have x2 : w2.cell? ⟨gq, 2, none⟩ = some (.int .i64 nn) := hX.cell 2
  have x3 : w2.cell? ⟨gq, 3, none⟩ = some (.int .i64 0) := hX.cell 3
  have x4 : w2.cell? ⟨gq, 4, none⟩ = some (.slice none 0 0) := hX.cell 4
  have x5 : w2.cell? ⟨gq, 5, none⟩ = some (.slice none 0 0) := hX.cell 5
  have fx0 := hX.frozen 0
  have fx1 := hX.frozen 1
  have fx2 := hX.frozen 2
  have fx3 := hX.frozen 3
  have fx4 := hX.frozen 4
  have fx5 := hX.frozen 5
  have HB2 := Lib.hid b2
  have HX2 := Lib.hid hX
  have HBB := Lib.hid (bytes_own _ _ w2 (HW.out w2 b2).1 (askA_at w2 addr nn) (fun x hx => by cases hx))
  have HWE := Lib.hid hw2
  have HGE := Lib.hid hgq
  clear b1 b2 hX hw2 hgq
  go_wp2_with fail
  rw [HWE.out, HGE.out]
  refine HBB.out.mono ?_
  rintro e w3 ⟨A3, n3, c3, rfl, s3, b3⟩
  rw [askL_may HM.out] at s3
  have HB3 := Lib.hid (HB2.out.trans (b3.mono HB2.out.size))
  have h8 : Byte8 (bytesP (askA addr nn)) := by have := askL_8 addr nn; rwa [askL_may HM.out] at this
  obtain ⟨r1, r2, r3, r4, r5, r6⟩ := read_bytes _ HM.out
  have hrb : rtuB unit (bytesP (askA addr nn)) = some (rtuL unit (bytesP (askA addr nn))) := by unfold rtuB; rw [if_pos ⟨⟨by omega, hu.2⟩, by omega, r3⟩]
  have HR3 := Lib.hid (rtuf_any unit A3 n3 c3 _ w3 s3 h8)
  rw [hrb] at HR3
  have HX3 := Lib.hid (HX2.out.below b3 HX2.out.lt)
  obtain ⟨req, hreq⟩ : ∃ z, rtuL unit (bytesP (askA addr nn)) = z := ⟨_, rfl⟩
  have HRQ := Lib.hid (And.intro hreq (And.intro (show Byte8 req by rw [← hreq]; exact seal_8 unit _ (by omega) h8) (show req.length ≤ 300 by rw [← hreq, rtuL_len]; omega)))
  have hq5 : rightP req xs (-1) = rtuL unit (ansA xs) := by have := HQ.out.2.2.2.2; rw [← hreq]; exact this
  rw [hreq] at HR3
  rw [show errV (mayP (askA addr nn)) = 0 by rw [HM.out]; rfl]
  clear s3 b3 h8 r1 r2 r3 r4 r5 r6 hrb hreq x0 x1 x2 x3 x4 x5 fx0 fx1 fx2 fx3 fx4 fx5
  go_wp2_with fail
  refine HR3.out.mono ?_
  rintro e w4 ⟨A4, n4, c4, rfl, s4, b4, _⟩
  have s4 : SlI w4 w4.heap.size .u8 A4 n4 c4 req := s4
  have hb4 := HB3.out.trans (b4.mono HB3.out.size)
  have hn4 : n4 ≤ 1000 := by have := s4.1; have := HRQ.out.2.2; omega
  obtain ⟨bb, hbb⟩ : ∃ z, rtuL unit (ansA xs) = z := ⟨_, rfl⟩
  rw [hbb] at hq5
  have hb8 : Byte8 bb := by rw [← hbb]; exact seal_8 unit _ (by omega) HQ.out.2.2.1
  have hbl : bb.length = 5 + 2 * nn := by rw [← hbb, rtuL_len, HQ.out.2.2.2.1, HL.out]; omega
  have hBY : ∀ (k nk wk : Int), 0 ≤ wk ∧ wk < 256 → ∀ (V : World), Below w4.heap.size w4 V → Calls Tryd.prog 19 #[.slice A4 n4 c4, .agg #[.int .i64 k, .int .i64 0, .int .i64 0, .slice A nn c, .int .i64 0, .int .i64 nk, .int .i64 0, .int .u8 wk, .slice none 0 0]] V (SlPost V (bytesA req (actR k xs nk wk))) := fun k nk wk hwk V h =>
    bbytes_any A4 n4 c4 req _ _ V (HW.out V (hb4.trans (h.mono hb4.size))).1 (HW.out V (hb4.trans (h.mono hb4.size))).2.1 (s4.up h) hn4 HRQ.out.2.1 (act_lit V k A nn c xs nk wk (HW.out V (hb4.trans (h.mono hb4.size))).2.2) (actR_ok k xs nk wk HR.out hwk)
  have HBY := Lib.hid hBY
  have HB4 := Lib.hid hb4
  have HX4 := Lib.hid (HX3.out.below b4 HX3.out.lt)
  have HQ5 := Lib.hid (And.intro hq5 (And.intro hb8 (And.intro hbl hbb)))
  have H1 := Lib.hid (hBY 1 0 0 (by omega) w4 (Below.refl _ _))
  rw [actR_1 req xs (by omega), hq5] at H1
  have hux : (unit == 0) = false := by simp; omega
  have hux2 : ¬ unit = 0 := by omega
  clear hBY s4 b4 hb4 hn4 hq5 hb8 hbl hbb
  go_wp2_with fail
  refine H1.out.mono ?_
  rintro e w5 ⟨A5, n5, c5, rfl, s5, b5⟩
  have HS5 := Lib.hid (And.intro s5 b5)
  have H2 := Lib.hid (rread_any A5 n5 c5 bb w5 s5 (by have := s5.1; have := HQ5.out.2.2.1; omega) HQ5.out.2.1)
  have hq1 : readR bb = some (unit, ansA xs) := by rw [← HQ5.out.2.2.2]; exact HQ.out.1
  rw [hq1] at H2
  have HX5 := Lib.hid (HX4.out.below b5 HX4.out.lt)
  clear s5 b5 hq1
  go_wp2_with fail
  refine H2.out.mono ?_
  rintro e w6 ⟨A6, n6, c6, rfl, s6, b6⟩
  have s6 : SlI w6 w6.heap.size .u8 A6 n6 c6 (ansA xs) := s6
  obtain ⟨gf, hgf⟩ : ∃ q, w6.heap.size = q := ⟨_, rfl⟩
  obtain ⟨w7, hw7⟩ : ∃ Y, w6.alloc (.cells #[.int .i64 unit, .slice A6 n6 c6] 64) = Y := ⟨_, rfl⟩
  have b67 : Below w6.heap.size w6 w7 := by rw [← hw7]; exact (Below.refl _ w6).alloc (Nat.le_refl _) _
  have b57 : Below w5.heap.size w5 w7 := b6.trans (b67.mono b6.size)
  have b47 : Below w4.heap.size w4 w7 := HS5.out.2.trans (b57.mono HS5.out.2.size)
  have hw07 := HB4.out.trans (b47.mono HB4.out.size)
  have hF : Held w7 gf 64 #[.int .i64 unit, .slice A6 n6 c6] := by rw [← hw7, ← hgf]; exact Held.new w6 _ _
  have hX7 := HX5.out.below b57 HX5.out.lt
  have hX6 := HX5.out.below b6 HX5.out.lt
  have f0 : w7.cell? ⟨gf, 0, none⟩ = some (.int .i64 unit) := hF.cell 0
  have f1 : w7.cell? ⟨gf, 1, none⟩ = some (.slice A6 n6 c6) := hF.cell 1
  have x0 : (w6.alloc (.cells #[.int .i64 unit, .slice A6 n6 c6] 64)).cell? ⟨gq, 0, none⟩ = some (.int .i64 3) := by rw [hw7]; exact hX7.cell 0
  have x1 : (w6.alloc (.cells #[.int .i64 unit, .slice A6 n6 c6] 64)).cell? ⟨gq, 1, none⟩ = some (.int .i64 addr) := by rw [hw7]; exact hX7.cell 1
  have x2 : (w6.alloc (.cells #[.int .i64 unit, .slice A6 n6 c6] 64)).cell? ⟨gq, 2, none⟩ = some (.int .i64 nn) := by rw [hw7]; exact hX7.cell 2
  have x3 : (w6.alloc (.cells #[.int .i64 unit, .slice A6 n6 c6] 64)).cell? ⟨gq, 3, none⟩ = some (.int .i64 0) := by rw [hw7]; exact hX7.cell 3
  have x4 : (w6.alloc (.cells #[.int .i64 unit, .slice A6 n6 c6] 64)).cell? ⟨gq, 4, none⟩ = some (.slice none 0 0) := by rw [hw7]; exact hX7.cell 4
  have x5 : (w6.alloc (.cells #[.int .i64 unit, .slice A6 n6 c6] 64)).cell? ⟨gq, 5, none⟩ = some (.slice none 0 0) := by rw [hw7]; exact hX7.cell 5
  have H3 := Lib.hid (readanswer_own _ _ A6 n6 c6 (ansA xs) w7 (HW.out w7 hw07).1 (askA_at w7 addr nn) (fun x hx => by cases hx) (s6.up b67) HQ.out.2.2.1 (by have := s6.1; have := HQ.out.2.2.2.1; have := HL.out; omega) (.inl rfl))
  have HWE7 := Lib.hid hw7
  have HGE7 := Lib.hid hgf
  have HB7 := Lib.hid (And.intro b57 (And.intro b47 hw07))
  have HF7 := Lib.hid hF
  have HX7 := Lib.hid hX7
  clear s6 b6 b67 b57 b47 hw07 hF hX7 hX6 hw7 hgf
  go_wp2_with fail
  rw [HWE7.out]
  refine H3.out.mono ?_
  rintro e w8 ⟨v8, rfl, hv8, b8⟩
  rw [show errV (readAnswerP (askA addr nn) (ansA xs)).isSome = 0 by rw [HQ.out.2.1]; rfl]
  rw [HQ.out.2.1] at hv8
  obtain ⟨Ab, nb, cb, Ar, nr, cr, rfl, vb, vr⟩ := hv8
  have vb : SlB w8 w8.heap.size Ab nb cb [] := vb
  have vr : SlI w8 w8.heap.size .u16 Ar nr cr xs := vr
  rw [show ((some (repA xs)).getD rep0).fn = 3 from rfl, show ((some (repA xs)).getD rep0).code = 0 from rfl]
  obtain ⟨gy, hgy⟩ : ∃ q, w8.heap.size = q := ⟨_, rfl⟩
  obtain ⟨w9, hw9⟩ : ∃ Y, w8.alloc (.cells #[.int .i64 3, .int .i64 0, .slice Ab nb cb, .slice Ar nr cr] 68) = Y := ⟨_, rfl⟩
  have b89 : Below w8.heap.size w8 w9 := by rw [← hw9]; exact (Below.refl _ w8).alloc (Nat.le_refl _) _
  have b79 : Below w7.heap.size w7 w9 := b8.trans (b89.mono b8.size)
  have b59 := HB7.out.1.trans (b79.mono HB7.out.1.size)
  have b49 := HB7.out.2.1.trans (b79.mono HB7.out.2.1.size)
  have b09 := HB7.out.2.2.trans (b79.mono HB7.out.2.2.size)
  have hF9 := HF7.out.below b79 HF7.out.lt
  have f0 : (w8.alloc (.cells #[.int .i64 3, .int .i64 0, .slice Ab nb cb, .slice Ar nr cr] 68)).cell? ⟨w6.heap.size, 0, none⟩ = some (.int .i64 unit) := by rw [hw9, HGE7.out]; exact hF9.cell 0
  have H4 := Lib.hid (samer_own _ _ (repA xs) (repA xs) w9 (show RepAt w9 (.agg #[.int .i64 3, .int .i64 0, .slice Ab nb cb, .slice Ar nr cr]) (repA xs) from ⟨Ab, nb, cb, Ar, nr, cr, rfl, vb.up b89, vr.up b89⟩) (repA_lit w9 A nn c xs (HW.out w9 b09).2.2))
  rw [show decide (repA xs = repA xs) = true from decide_eq_true rfl] at H4
  have HWE9 := Lib.hid hw9
  have HB9 := Lib.hid (And.intro b59 (And.intro b49 b09))
  have huu : (unit != unit) = false := by simp
  clear b8 b89 b79 b59 b49 b09 hF9 hw9 vb vr x0 x1 x2 x3 x4 x5 f1
  go_wp2_with fail
  rw [HWE9.out]
  refine H4.out.mono ?_
  rintro e w10 ⟨rfl, b10⟩
  have HB10 := Lib.hid (And.intro (HB9.out.1.trans (b10.mono HB9.out.1.size)) (And.intro (HB9.out.2.1.trans (b10.mono HB9.out.2.1.size)) (HB9.out.2.2.trans (b10.mono HB9.out.2.2.size))))
  clear b10 f0
  by_cases hn0 : n < 0
  · have t1 : decide (n < 0) = true := decide_eq_true hn0
    go_wp2_with fail
    go_ret
    exact ⟨rfl, HB10.out.2.2⟩
  have t1 : decide (n < 0) = false := decide_eq_false hn0
  by_cases hn1 : 1000 < n
  · have t2 : decide (1000 < n) = true := decide_eq_true hn1
    go_wp2_with fail
    go_ret
    exact ⟨rfl, HB10.out.2.2⟩
  have t2 : decide (1000 < n) = false := decide_eq_false hn1
  by_cases hw0 : wth = 0
  · subst hw0
    go_wp2_with fail
    go_ret
    exact ⟨rfl, HB10.out.2.2⟩
  have t3 : (wth == 0) = false := by simp [hw0]
  obtain ⟨mm, rfl⟩ : ∃ mm : Nat, n = mm := ⟨n.toNat, by omega⟩
  have H5 := Lib.hid (HBY.out 5 mm wth hw8 w10 HB10.out.2.1)
  rw [actR_5 req xs mm wth (by omega) (by omega) (by omega), HQ5.out.1] at H5
  go_wp2_with fail
  refine H5.out.mono ?_
  rintro e w11 ⟨A11, n11, c11, rfl, s11, b11⟩
  have H6 := Lib.hid (HBY.out 4 mm 0 (by omega) w11 (HB10.out.2.1.trans (b11.mono HB10.out.2.1.size)))
  rw [actR_4 req xs mm (by omega) (by omega), HQ5.out.1] at H6
  have HS11 := Lib.hid (And.intro s11 b11)
  clear s11 b11
  go_wp2_with fail
  refine H6.out.mono ?_
  rintro e w12 ⟨A12, n12, c12, rfl, s12, b12⟩
  have s12 : SlI w12 w12.heap.size .u8 A12 n12 c12 (bb.take mm) := s12
  have b10_12 := HS11.out.2.trans (b12.mono HS11.out.2.size)
  have s5 : SlI w12 w12.heap.size .u8 A5 n5 c5 bb := HS5.out.1.up (HB10.out.1.trans (b10_12.mono HB10.out.1.size))
  have s11 := HS11.out.1.up b12
  obtain ⟨sp1, sp2, sp3⟩ := spoil_facts bb mm wth HQ5.out.2.1 (by have := HQ5.out.2.2.1; omega) (by omega)
  have l11 : n11 = n5 := by rw [← s11.1, ← s5.1]; exact sp2
  have l12 : n12 = min mm n5 := by rw [← s12.1, List.length_take, s5.1]
  subst l11
  have h12 : n12 ≤ n11 := by omega
  have htk : bb.take mm = bb.take n12 := by
    rw [l12]
    rcases Nat.le_total mm n11 with h | h
    · rw [Nat.min_eq_left h]
    · rw [Nat.min_eq_right h, List.take_of_length_le (by have := s5.1; omega), List.take_of_length_le (by have := s5.1; omega)]
  have s5t := s5.take n12 h12
  rw [htk] at s12
  obtain ⟨S1, hS1⟩ : ∃ z, strOfNums (spoilL bb mm wth) = z := ⟨_, rfl⟩
  obtain ⟨S2, hS2⟩ : ∃ z, strOfNums bb = z := ⟨_, rfl⟩
  obtain ⟨S3, hS3⟩ : ∃ z, strOfNums (bb.take n12) = z := ⟨_, rfl⟩
  have hne : (S1.toList == S2.toList) = false := by
    rw [← hS1, ← hS2, str_eq _ _ sp3 HQ5.out.2.1]
    exact decide_eq_false sp1
  have HK := Lib.hid (fun (Y : World) (h : Below w12.heap.size w12 Y) => (⟨by rw [← hS1]; exact conv_sli (s11.up h), by rw [← hS2]; exact conv_sli (s5.up h), by rw [← hS3]; exact conv_sli (s12.up h), by rw [← hS3]; exact conv_sli (s5t.up h)⟩ : (convert 22 9 (.slice A11 n11 c11)).run Tryd.prog Y = .ok (.string S1) Y ∧ (convert 22 9 (.slice A5 n11 c5)).run Tryd.prog Y = .ok (.string S2) Y ∧ (convert 22 9 (.slice A12 n12 c12)).run Tryd.prog Y = .ok (.string S3) Y ∧ (convert 22 9 (.slice A5 n12 c5)).run Tryd.prog Y = .ok (.string S3) Y))
  have hmin : min (mm : Int) (n11 : Int) = (n12 : Int) := by omega
  have hmin2 : min mm n11 = n12 := by omega
  have hmin3 : (if n11 < mm then (n11 : Int) else (mm : Int)) = (n12 : Int) := by split <;> omega
  have HMIN := Lib.hid hmin3
  have hc5 : n11 ≤ c5 := s5.2.1
  have hc5' : n12 ≤ c5 := by omega
  obtain ⟨g5, o5, hA5, _⟩ := s5.some_ (by have := s5.1; have := HQ5.out.2.2.1; omega)
  subst hA5
  have HB12 := Lib.hid (HB10.out.2.2.trans (b10_12.mono HB10.out.2.2.size))
  clear l12 hmin hmin2 hmin3 s12 b12 b10_12 s5 s11 s5t sp1 sp2 sp3 hS1 hS2 hS3 htk
  go_wp2_with fail
  refine wp_noPanic ?_
  obtain ⟨wd18, hwd18⟩ : ∃ W : World, w12.drew = W := ⟨_, rfl⟩
  have hS : Below w12.heap.size w12 wd18 := by rw [← hwd18]; exact (Below.refl _ _).drew
  refine wp_region_held (S := Below w12.heap.size w12) (by kernel_rfl) ?_
  change wpAnyH _ _ _ _ _ _ _ _ w12.drew
  rw [hwd18]
  clear hwd18
  refine wpAnyH_take (i := 0) (v := ?v0_101) rfl (by kernel_rfl) (by kernel_rfl) (by kernel_rfl) (fun _ _ _ h => h) (Or.inl ⟨by rfl, ?y0_101⟩) hS ?r0_101
  case y0_101 =>
    rintro W hH
    obtain ⟨kk1, kk2, kk3, kk4⟩ := HK.out W hH
    have hmin3 := HMIN.out
    go_simp
    with_reducible rfl
  simp only [Act.put]
  try simp only [List.getElem_toArray, List.getElem_cons_zero]
  try simp only [List.setIfInBounds_toArray, List.set_cons_succ, List.set_cons_zero]
  refine wpAnyH_take (i := 1) (v := ?v1_102) rfl (by kernel_rfl) (by kernel_rfl) (by kernel_rfl) (fun _ _ _ h => h) (Or.inl ⟨by rfl, ?y1_102⟩) hS ?r1_102
  case y1_102 =>
    rintro W hH
    obtain ⟨kk1, kk2, kk3, kk4⟩ := HK.out W hH
    have hmin3 := HMIN.out
    go_simp
    with_reducible rfl
  simp only [Act.put]
  try simp only [List.getElem_toArray, List.getElem_cons_succ, List.getElem_cons_zero]
  try simp only [List.setIfInBounds_toArray, List.set_cons_succ, List.set_cons_zero]
  refine wpAnyH_take (i := 2) (v := ?v2_103) rfl (by kernel_rfl) (by kernel_rfl) (by kernel_rfl) (fun _ _ _ h => h) (Or.inl ⟨by rfl, ?y2_103⟩) hS ?r2_103
  case y2_103 =>
    rintro W hH
    obtain ⟨kk1, kk2, kk3, kk4⟩ := HK.out W hH
    have hmin3 := HMIN.out
    go_simp
    with_reducible rfl
  simp only [Act.put]
  try simp only [List.getElem_toArray, List.getElem_cons_succ, List.getElem_cons_zero]
  try simp only [List.setIfInBounds_toArray, List.set_cons_succ, List.set_cons_zero]
  refine wpAnyH_take (i := 3) (v := ?v3_104) rfl (by kernel_rfl) (by kernel_rfl) (by kernel_rfl) (fun _ _ _ h => h) (Or.inl ⟨by rfl, ?y3_104⟩) hS ?r3_104
  case y3_104 =>
    rintro W hH
    obtain ⟨kk1, kk2, kk3, kk4⟩ := HK.out W hH
    have hmin3 := HMIN.out
    go_simp
    with_reducible rfl
  simp only [Act.put]
  try simp only [List.getElem_toArray, List.getElem_cons_succ, List.getElem_cons_zero]
  try simp only [List.setIfInBounds_toArray, List.set_cons_succ, List.set_cons_zero]
  refine wpAnyH_take (i := 4) (v := ?v4_105) rfl (by kernel_rfl) (by kernel_rfl) (by kernel_rfl) (fun _ _ _ h => h) (Or.inl ⟨by rfl, ?y4_105⟩) hS ?r4_105
  case y4_105 =>
    rintro W hH
    obtain ⟨kk1, kk2, kk3, kk4⟩ := HK.out W hH
    have hmin3 := HMIN.out
    go_simp
    with_reducible rfl
  simp only [Act.put]
  try simp only [List.getElem_toArray, List.getElem_cons_succ, List.getElem_cons_zero]
  try simp only [List.setIfInBounds_toArray, List.set_cons_succ, List.set_cons_zero]
  refine wpAnyH_take (i := 5) (v := ?v5_106) rfl (by kernel_rfl) (by kernel_rfl) (by kernel_rfl) (fun _ _ _ h => h) (Or.inl ⟨by rfl, ?y5_106⟩) hS ?r5_106
  case y5_106 =>
    rintro W hH
    obtain ⟨kk1, kk2, kk3, kk4⟩ := HK.out W hH
    have hmin3 := HMIN.out
    go_simp
    with_reducible rfl
  simp only [Act.put]
  try simp only [List.getElem_toArray, List.getElem_cons_succ, List.getElem_cons_zero]
  try simp only [List.setIfInBounds_toArray, List.set_cons_succ, List.set_cons_zero]
  refine wpAnyH_take (i := 6) (v := ?v6_107) rfl (by kernel_rfl) (by kernel_rfl) (by kernel_rfl) (fun _ _ _ h => h) (Or.inl ⟨by rfl, ?y6_107⟩) hS ?r6_107
  case y6_107 =>
    rintro W hH
    obtain ⟨kk1, kk2, kk3, kk4⟩ := HK.out W hH
    have hmin3 := HMIN.out
    go_simp
    with_reducible rfl
  simp only [Act.put]
  try simp only [List.getElem_toArray, List.getElem_cons_succ, List.getElem_cons_zero]
  try simp only [List.setIfInBounds_toArray, List.set_cons_succ, List.set_cons_zero]
  refine wpAnyH_take (i := 7) (v := ?v7_108) rfl (by kernel_rfl) (by kernel_rfl) (by kernel_rfl) (fun _ _ _ h => h) (Or.inl ⟨by rfl, ?y7_108⟩) hS ?r7_108
  case y7_108 =>
    rintro W hH
    obtain ⟨kk1, kk2, kk3, kk4⟩ := HK.out W hH
    have hmin3 := HMIN.out
    go_simp
    with_reducible rfl
  simp only [Act.put]
  try simp only [List.getElem_toArray, List.getElem_cons_succ, List.getElem_cons_zero]
  try simp only [List.setIfInBounds_toArray, List.set_cons_succ, List.set_cons_zero]
  refine wpAnyH_take (i := 8) (v := ?v8_109) rfl (by kernel_rfl) (by kernel_rfl) (by kernel_rfl) (fun _ _ _ h => h) (Or.inl ⟨by rfl, ?y8_109⟩) hS ?r8_109
  case y8_109 =>
    rintro W hH
    obtain ⟨kk1, kk2, kk3, kk4⟩ := HK.out W hH
    have hmin3 := HMIN.out
    go_simp
    with_reducible rfl
  simp only [Act.put]
  try simp only [List.getElem_toArray, List.getElem_cons_succ, List.getElem_cons_zero]
  try simp only [List.setIfInBounds_toArray, List.set_cons_succ, List.set_cons_zero]
  refine wpAnyH_take (i := 9) (v := ?v9_110) rfl (by kernel_rfl) (by kernel_rfl) (by kernel_rfl) (fun _ _ _ h => h) (Or.inl ⟨by rfl, ?y9_110⟩) hS ?r9_110
  case y9_110 =>
    rintro W hH
    obtain ⟨kk1, kk2, kk3, kk4⟩ := HK.out W hH
    have hmin3 := HMIN.out
    go_simp
    with_reducible rfl
  simp only [Act.put]
  try simp only [List.getElem_toArray, List.getElem_cons_succ, List.getElem_cons_zero]
  try simp only [List.setIfInBounds_toArray, List.set_cons_succ, List.set_cons_zero]
  refine wpAnyH_take (i := 10) (v := ?v10_111) rfl (by kernel_rfl) (by kernel_rfl) (by kernel_rfl) (fun _ _ _ h => h) (Or.inl ⟨by rfl, ?y10_111⟩) hS ?r10_111
  case y10_111 =>
    rintro W hH
    obtain ⟨kk1, kk2, kk3, kk4⟩ := HK.out W hH
    have hmin3 := HMIN.out
    go_simp
    with_reducible rfl
  simp only [Act.put]
  try simp only [List.getElem_toArray, List.getElem_cons_succ, List.getElem_cons_zero]
  try simp only [List.setIfInBounds_toArray, List.set_cons_succ, List.set_cons_zero]
  refine wpAnyH_take (i := 11) (v := ?v11_112) rfl (by kernel_rfl) (by kernel_rfl) (by kernel_rfl) (fun _ _ _ h => h) (Or.inl ⟨by rfl, ?y11_112⟩) hS ?r11_112
  case y11_112 =>
    rintro W hH
    obtain ⟨kk1, kk2, kk3, kk4⟩ := HK.out W hH
    have hmin3 := HMIN.out
    go_simp
    with_reducible rfl
  simp only [Act.put]
  try simp only [List.getElem_toArray, List.getElem_cons_succ, List.getElem_cons_zero]
  try simp only [List.setIfInBounds_toArray, List.set_cons_succ, List.set_cons_zero]
  refine wpAnyH_take (i := 12) (v := ?v12_113) rfl (by kernel_rfl) (by kernel_rfl) (by kernel_rfl) (fun _ _ _ h => h) (Or.inl ⟨by rfl, ?y12_113⟩) hS ?r12_113
  case y12_113 =>
    rintro W hH
    obtain ⟨kk1, kk2, kk3, kk4⟩ := HK.out W hH
    have hmin3 := HMIN.out
    go_simp
    with_reducible rfl
  simp only [Act.put]
  try simp only [List.getElem_toArray, List.getElem_cons_succ, List.getElem_cons_zero]
  try simp only [List.setIfInBounds_toArray, List.set_cons_succ, List.set_cons_zero]
  refine wpAnyH_take (i := 13) (v := ?v13_114) rfl (by kernel_rfl) (by kernel_rfl) (by kernel_rfl) (fun _ _ _ h => h) (Or.inl ⟨by rfl, ?y13_114⟩) hS ?r13_114
  case y13_114 =>
    rintro W hH
    obtain ⟨kk1, kk2, kk3, kk4⟩ := HK.out W hH
    have hmin3 := HMIN.out
    go_simp
    with_reducible rfl
  simp only [Act.put]
  try simp only [List.getElem_toArray, List.getElem_cons_succ, List.getElem_cons_zero]
  try simp only [List.setIfInBounds_toArray, List.set_cons_succ, List.set_cons_zero]
  refine wpAnyH_take (i := 14) (v := ?v14_115) rfl (by kernel_rfl) (by kernel_rfl) (by kernel_rfl) (fun _ _ _ h => h) (Or.inl ⟨by rfl, ?y14_115⟩) hS ?r14_115
  case y14_115 =>
    rintro W hH
    obtain ⟨kk1, kk2, kk3, kk4⟩ := HK.out W hH
    have hmin3 := HMIN.out
    go_simp
    with_reducible rfl
  simp only [Act.put]
  try simp only [List.getElem_toArray, List.getElem_cons_succ, List.getElem_cons_zero]
  try simp only [List.setIfInBounds_toArray, List.set_cons_succ, List.set_cons_zero]
  refine wpAnyH_take (i := 15) (v := ?v15_116) rfl (by kernel_rfl) (by kernel_rfl) (by kernel_rfl) (fun _ _ _ h => h) (Or.inl ⟨by rfl, ?y15_116⟩) hS ?r15_116
  case y15_116 =>
    rintro W hH
    obtain ⟨kk1, kk2, kk3, kk4⟩ := HK.out W hH
    have hmin3 := HMIN.out
    go_simp
    with_reducible rfl
  simp only [Act.put]
  try simp only [List.getElem_toArray, List.getElem_cons_succ, List.getElem_cons_zero]
  try simp only [List.setIfInBounds_toArray, List.set_cons_succ, List.set_cons_zero]
  refine wpAnyH_take (i := 16) (v := ?v16_117) rfl (by kernel_rfl) (by kernel_rfl) (by kernel_rfl) (fun _ _ _ h => h) (Or.inl ⟨by rfl, ?y16_117⟩) hS ?r16_117
  case y16_117 =>
    rintro W hH
    obtain ⟨kk1, kk2, kk3, kk4⟩ := HK.out W hH
    have hmin3 := HMIN.out
    go_simp
    with_reducible rfl
  simp only [Act.put]
  try simp only [List.getElem_toArray, List.getElem_cons_succ, List.getElem_cons_zero]
  try simp only [List.setIfInBounds_toArray, List.set_cons_succ, List.set_cons_zero]
  refine wpAnyH_take (i := 17) (v := ?v17_118) rfl (by kernel_rfl) (by kernel_rfl) (by kernel_rfl) (fun _ _ _ h => h) (Or.inl ⟨by rfl, ?y17_118⟩) hS ?r17_118
  case y17_118 =>
    rintro W hH
    obtain ⟨kk1, kk2, kk3, kk4⟩ := HK.out W hH
    have hmin3 := HMIN.out
    go_simp
    with_reducible rfl
  simp only [Act.put]
  try simp only [List.getElem_toArray, List.getElem_cons_succ, List.getElem_cons_zero]
  try simp only [List.setIfInBounds_toArray, List.set_cons_succ, List.set_cons_zero]
  refine wpAnyH_take (i := 18) (v := ?v18_119) rfl (by kernel_rfl) (by kernel_rfl) (by kernel_rfl) (fun _ _ _ h => h) (Or.inl ⟨by rfl, ?y18_119⟩) hS ?r18_119
  case y18_119 =>
    rintro W hH
    obtain ⟨kk1, kk2, kk3, kk4⟩ := HK.out W hH
    have hmin3 := HMIN.out
    go_simp
    with_reducible rfl
  simp only [Act.put]
  try simp only [List.getElem_toArray, List.getElem_cons_succ, List.getElem_cons_zero]
  try simp only [List.setIfInBounds_toArray, List.set_cons_succ, List.set_cons_zero]
  refine wpAnyH_take (i := 19) (v := ?v19_120) rfl (by kernel_rfl) (by kernel_rfl) (by kernel_rfl) (fun _ _ _ h => h) (Or.inl ⟨by rfl, ?y19_120⟩) hS ?r19_120
  case y19_120 =>
    rintro W hH
    obtain ⟨kk1, kk2, kk3, kk4⟩ := HK.out W hH
    have hmin3 := HMIN.out
    go_simp
    with_reducible rfl
  simp only [Act.put]
  try simp only [List.getElem_toArray, List.getElem_cons_succ, List.getElem_cons_zero]
  try simp only [List.setIfInBounds_toArray, List.set_cons_succ, List.set_cons_zero]
  refine wpAnyH_take (i := 20) (v := ?v20_121) rfl (by kernel_rfl) (by kernel_rfl) (by kernel_rfl) (fun _ _ _ h => h) (Or.inl ⟨by rfl, ?y20_121⟩) hS ?r20_121
  case y20_121 =>
    rintro W hH
    obtain ⟨kk1, kk2, kk3, kk4⟩ := HK.out W hH
    have hmin3 := HMIN.out
    go_simp
    with_reducible rfl
  simp only [Act.put]
  try simp only [List.getElem_toArray, List.getElem_cons_succ, List.getElem_cons_zero]
  try simp only [List.setIfInBounds_toArray, List.set_cons_succ, List.set_cons_zero]
  refine wpAnyH_take (i := 21) (v := ?v21_122) rfl (by kernel_rfl) (by kernel_rfl) (by kernel_rfl) (fun _ _ _ h => h) (Or.inl ⟨by rfl, ?y21_122⟩) hS ?r21_122
  case y21_122 =>
    rintro W hH
    obtain ⟨kk1, kk2, kk3, kk4⟩ := HK.out W hH
    have hmin3 := HMIN.out
    go_simp
    with_reducible rfl
  simp only [Act.put]
  try simp only [List.getElem_toArray, List.getElem_cons_succ, List.getElem_cons_zero]
  try simp only [List.setIfInBounds_toArray, List.set_cons_succ, List.set_cons_zero]
  refine wpAnyH_take (i := 22) (v := ?v22_123) rfl (by kernel_rfl) (by kernel_rfl) (by kernel_rfl) (fun _ _ _ h => h) (Or.inl ⟨by rfl, ?y22_123⟩) hS ?r22_123
  case y22_123 =>
    rintro W hH
    obtain ⟨kk1, kk2, kk3, kk4⟩ := HK.out W hH
    have hmin3 := HMIN.out
    go_simp
    with_reducible rfl
  simp only [Act.put]
  try simp only [List.getElem_toArray, List.getElem_cons_succ, List.getElem_cons_zero]
  try simp only [List.setIfInBounds_toArray, List.set_cons_succ, List.set_cons_zero]
  refine wpAnyH_take (i := 23) (v := ?v23_124) rfl (by kernel_rfl) (by kernel_rfl) (by kernel_rfl) (fun _ _ _ h => h) (Or.inl ⟨by rfl, ?y23_124⟩) hS ?r23_124
  case y23_124 =>
    rintro W hH
    obtain ⟨kk1, kk2, kk3, kk4⟩ := HK.out W hH
    have hmin3 := HMIN.out
    go_simp
    with_reducible rfl
  simp only [Act.put]
  try simp only [List.getElem_toArray, List.getElem_cons_succ, List.getElem_cons_zero]
  try simp only [List.setIfInBounds_toArray, List.set_cons_succ, List.set_cons_zero]
  refine wpAnyH_take (i := 24) (v := ?v24_125) rfl (by kernel_rfl) (by kernel_rfl) (by kernel_rfl) (fun _ _ _ h => h) (Or.inl ⟨by rfl, ?y24_125⟩) hS ?r24_125
  case y24_125 =>
    rintro W hH
    obtain ⟨kk1, kk2, kk3, kk4⟩ := HK.out W hH
    have hmin3 := HMIN.out
    go_simp
    with_reducible rfl
  simp only [Act.put]
  try simp only [List.getElem_toArray, List.getElem_cons_succ, List.getElem_cons_zero]
  try simp only [List.setIfInBounds_toArray, List.set_cons_succ, List.set_cons_zero]
  refine wpAnyH_take (i := 25) (v := ?v25_126) rfl (by kernel_rfl) (by kernel_rfl) (by kernel_rfl) (fun _ _ _ h => h) (Or.inl ⟨by rfl, ?y25_126⟩) hS ?r25_126
  case y25_126 =>
    rintro W hH
    obtain ⟨kk1, kk2, kk3, kk4⟩ := HK.out W hH
    have hmin3 := HMIN.out
    go_simp
    with_reducible rfl
  simp only [Act.put]
  try simp only [List.getElem_toArray, List.getElem_cons_succ, List.getElem_cons_zero]
  try simp only [List.setIfInBounds_toArray, List.set_cons_succ, List.set_cons_zero]
  refine wpAnyH_take (i := 26) (v := ?v26_127) rfl (by kernel_rfl) (by kernel_rfl) (by kernel_rfl) (fun _ _ _ h => h) (Or.inl ⟨by rfl, ?y26_127⟩) hS ?r26_127
  case y26_127 =>
    rintro W hH
    obtain ⟨kk1, kk2, kk3, kk4⟩ := HK.out W hH
    have hmin3 := HMIN.out
    go_simp
    with_reducible rfl
  simp only [Act.put]
  try simp only [List.getElem_toArray, List.getElem_cons_succ, List.getElem_cons_zero]
  try simp only [List.setIfInBounds_toArray, List.set_cons_succ, List.set_cons_zero]
  refine wpAnyH_take (i := 27) (v := ?v27_128) rfl (by kernel_rfl) (by kernel_rfl) (by kernel_rfl) (fun _ _ _ h => h) (Or.inl ⟨by rfl, ?y27_128⟩) hS ?r27_128
  case y27_128 =>
    rintro W hH
    obtain ⟨kk1, kk2, kk3, kk4⟩ := HK.out W hH
    have hmin3 := HMIN.out
    go_simp
    with_reducible rfl
  simp only [Act.put]
  try simp only [List.getElem_toArray, List.getElem_cons_succ, List.getElem_cons_zero]
  try simp only [List.setIfInBounds_toArray, List.set_cons_succ, List.set_cons_zero]
  refine wpAnyH_take (i := 28) (v := ?v28_129) rfl (by kernel_rfl) (by kernel_rfl) (by kernel_rfl) (fun _ _ _ h => h) (Or.inl ⟨by rfl, ?y28_129⟩) hS ?r28_129
  case y28_129 =>
    rintro W hH
    obtain ⟨kk1, kk2, kk3, kk4⟩ := HK.out W hH
    have hmin3 := HMIN.out
    go_simp
    with_reducible rfl
  simp only [Act.put]
  try simp only [List.getElem_toArray, List.getElem_cons_succ, List.getElem_cons_zero]
  try simp only [List.setIfInBounds_toArray, List.set_cons_succ, List.set_cons_zero]
  refine wpAnyH_take (i := 29) (v := ?v29_130) rfl (by kernel_rfl) (by kernel_rfl) (by kernel_rfl) (fun _ _ _ h => h) (Or.inl ⟨by rfl, ?y29_130⟩) hS ?r29_130
  case y29_130 =>
    rintro W hH
    obtain ⟨kk1, kk2, kk3, kk4⟩ := HK.out W hH
    have hmin3 := HMIN.out
    go_simp
    with_reducible rfl
  simp only [Act.put]
  try simp only [List.getElem_toArray, List.getElem_cons_succ, List.getElem_cons_zero]
  try simp only [List.setIfInBounds_toArray, List.set_cons_succ, List.set_cons_zero]
  refine wpAnyH_take (i := 30) (v := ?v30_131) rfl (by kernel_rfl) (by kernel_rfl) (by kernel_rfl) (fun _ _ _ h => h) (Or.inl ⟨by rfl, ?y30_131⟩) hS ?r30_131
  case y30_131 =>
    rintro W hH
    obtain ⟨kk1, kk2, kk3, kk4⟩ := HK.out W hH
    have hmin3 := HMIN.out
    go_simp
    with_reducible rfl
  simp only [Act.put]
  try simp only [List.getElem_toArray, List.getElem_cons_succ, List.getElem_cons_zero]
  try simp only [List.setIfInBounds_toArray, List.set_cons_succ, List.set_cons_zero]
  refine wpAnyH_take (i := 31) (v := ?v31_132) rfl (by kernel_rfl) (by kernel_rfl) (by kernel_rfl) (fun _ _ _ h => h) (Or.inl ⟨by rfl, ?y31_132⟩) hS ?r31_132
  case y31_132 =>
    rintro W hH
    obtain ⟨kk1, kk2, kk3, kk4⟩ := HK.out W hH
    have hmin3 := HMIN.out
    go_simp
    with_reducible rfl
  simp only [Act.put]
  try simp only [List.getElem_toArray, List.getElem_cons_succ, List.getElem_cons_zero]
  try simp only [List.setIfInBounds_toArray, List.set_cons_succ, List.set_cons_zero]
  refine wpAnyH_take (i := 32) (v := ?v32_133) rfl (by kernel_rfl) (by kernel_rfl) (by kernel_rfl) (fun _ _ _ h => h) (Or.inl ⟨by rfl, ?y32_133⟩) hS ?r32_133
  case y32_133 =>
    rintro W hH
    obtain ⟨kk1, kk2, kk3, kk4⟩ := HK.out W hH
    have hmin3 := HMIN.out
    go_simp
    with_reducible rfl
  simp only [Act.put]
  try simp only [List.getElem_toArray, List.getElem_cons_succ, List.getElem_cons_zero]
  try simp only [List.setIfInBounds_toArray, List.set_cons_succ, List.set_cons_zero]
  refine wpAnyH_take (i := 33) (v := ?v33_134) rfl (by kernel_rfl) (by kernel_rfl) (by kernel_rfl) (fun _ _ _ h => h) (Or.inl ⟨by rfl, ?y33_134⟩) hS ?r33_134
  case y33_134 =>
    rintro W hH
    obtain ⟨kk1, kk2, kk3, kk4⟩ := HK.out W hH
    have hmin3 := HMIN.out
    go_simp
    with_reducible rfl
  simp only [Act.put]
  try simp only [List.getElem_toArray, List.getElem_cons_succ, List.getElem_cons_zero]
  try simp only [List.setIfInBounds_toArray, List.set_cons_succ, List.set_cons_zero]
  refine wpAnyH_take (i := 34) (v := ?v34_135) rfl (by kernel_rfl) (by kernel_rfl) (by kernel_rfl) (fun _ _ _ h => h) (Or.inl ⟨by rfl, ?y34_135⟩) hS ?r34_135
  case y34_135 =>
    rintro W hH
    obtain ⟨kk1, kk2, kk3, kk4⟩ := HK.out W hH
    have hmin3 := HMIN.out
    go_simp
    with_reducible rfl
  simp only [Act.put]
  try simp only [List.getElem_toArray, List.getElem_cons_succ, List.getElem_cons_zero]
  try simp only [List.setIfInBounds_toArray, List.set_cons_succ, List.set_cons_zero]
  refine wpAnyH_done (by kernel_rfl) ?_ _
  refine noPanic_normal ?_
  have HFIN := Lib.hid (HB12.out.trans (hS.mono HB12.out.size))
  clear hS
  go_wp2_with fail
  go_ret
  exact ⟨rfl, HFIN.out⟩
theorem right22_any (unit addr : Int) (A : Option Addr) (nn c : Nat) (xs : List Int) (n wth : Int) (w : World) (hT : LimT w) (hN : NamesT w) (hS : SlI w w.heap.size .u16 A nn c xs) (hr : Reg16 xs) (hw8 : 0 ≤ wth ∧ wth < 256) :
    Calls Tryd.prog 7 #[.int .i64 unit, .int .i64 addr, .slice A nn c, .int .i64 n, .int .u8 wth] w fun e w' => e = .returned (.bool true) ∧ Below w.heap.size w w' := by
  by_cases h : 200 < nn ∨ mayP (askA addr nn) = false ∨ unit ≤ 0 ∨ 247 < unit
  · exact right22_no unit addr A nn c xs n wth w hT hN hS h
  · have hm : mayP (askA addr nn) = true := by
      cases hm : mayP (askA addr nn) with
      | true => rfl
      | false => exact absurd (.inr (.inl hm)) h
    exact right22_yes unit addr A nn c xs n wth w hT hN hS hr hw8 (by omega) hm (by omega)
end Go.Proofs.YtcipleanckeoaaaDoor
