/- BusNames: the walk. -/
import Derived.Test.YtcipleanckeoaaaDoorBusPiecesW
import Derived.Test.YtcipleanckeoaaaDoorBusLine
import Derived.Test.YtcipleanckeoaaaDoorBusNew
import Derived.Deep.Cut
namespace Go.Proofs.YtcipleanckeoaaaDoor
open Go.RowKit Go.Shelf
attribute [local go_sem] Oper.semAt_some
set_option linter.unusedVariables false
set_option linter.unusedSimpArgs false
set_option maxRecDepth 100000
def actP (kind code n : Int) (regs : List Int) : ActP := ⟨kind, 0, 0, regs, code, n, 0, 0, []⟩
theorem nb_4 : bytesA ask17 (actP 4 0 3 [9]) = [17, 3, 2] := by
  rw [show actP 4 0 3 [9] = actR 4 [9] 3 0 from rfl, actR_4 _ _ _ (by omega) (by simp), right17]
  rfl
theorem nb_3 : bytesA ask17 (actP 3 0 0 []) = [] := by
  unfold bytesA
  simp [actP]
def askZ : List Int := rtuL 0 (bytesP (askA 0 1))
theorem askZ_rtu : (rtuB 0 (askL (askA 0 1))).getD [] = askZ := by
  have h1 : askL (askA 0 1) = bytesP (askA 0 1) := by unfold askL; rw [if_pos may17]
  rw [h1]
  unfold rtuB
  rw [if_pos (by decide)]
  rfl
theorem askZ_len : askZ.length = 8 := by decide
theorem askZ_8 : Byte8 askZ := by unfold Byte8; decide
theorem nb_c : bytesA askZ (actP 1 0 0 [9]) = [] := by
  rw [show actP 1 0 0 [9] = actR 1 [9] 0 0 from rfl, actR_1 _ _ (by simp)]
  unfold rightP askZ
  rw [readR_seal 0 _ (by omega) (by decide) (by decide)]
  rfl
theorem nb_d : bytesA ask17 (actP 1 0 0 [9, 9]) = [] := by
  rw [show actP 1 0 0 [9, 9] = actR 1 [9, 9] 0 0 from rfl, actR_1 _ _ (by simp)]
  unfold rightP ask17
  rw [readR_seal 17 _ (by omega) (by decide) (by decide)]
  have r1 := (read_bytes _ may17).1
  dsimp only
  rw [if_neg (by omega), r1]
  rfl
theorem nb_ok (kind code n : Int) (regs : List Int) (hr : Reg16 regs) (hc : -9223372036854775808 ≤ code ∧ code ≤ 9223372036854775807) : (actP kind code n regs).ok := by
  unfold ActP.ok actP
  exact ⟨by dsimp only; omega, by dsimp only; omega, by dsimp only; omega, hr, (by intro x hx; cases hx), hc⟩
theorem nb_m8 : mayA (actP 8 0 0 []) = false := by decide
theorem nb_m5 : mayA (actP 5 0 0 []) = false := by decide
set_option maxHeartbeats 16000000 in
theorem names22_any (w : World) (hT : LimT w) (hN : NamesT w) : Calls Tryd.prog 4 #[] w fun e w' => e = .returned (.bool true) ∧ Below w.heap.size w w' := by
  have HW := Lib.hid (fun (V : World) (h : Below w.heap.size w V) => And.intro (hT.up h) (hN.up h))
  have HA := Lib.hid (ask_any 17 0 1 w hT)
  rw [ask17_rtu] at HA
  have HA0 := Lib.hid (fun (V : World) (h : Below w.heap.size w V) => ask_any 0 0 1 V (hT.up h))
  rw [askZ_rtu] at HA0
  clear hT hN
  go_in
  go_wp2_with fail
  refine HA.out.mono ?_
  rintro e w1 ⟨A1, n1, c1, rfl, s1, b1⟩
  have hn1 : n1 = 8 := s1.1.symm.trans ask17_len
  subst hn1
  have HS1 := Lib.hid (fun (V : World) (h : Below w1.heap.size w1 V) => s1.up h)
  have HW1 := Lib.hid (fun (V : World) (h : Below w1.heap.size w1 V) => HW.out V (b1.trans (h.mono b1.size)))
  have HA1 := Lib.hid (fun (V : World) (h : Below w1.heap.size w1 V) => HA0.out V (b1.trans (h.mono b1.size)))
  have HB1 := Lib.hid b1
  have B1 := Lib.hid (Below.refl w1.heap.size w1)
  clear s1 b1
  obtain ⟨v1, hv1⟩ : ∃ Y, w1.alloc (.cells #[.int .u16 9] 45) = Y := ⟨_, rfl⟩
  obtain ⟨r1, hr1⟩ : ∃ q, w1.heap.size = q := ⟨_, rfl⟩
  have bv1 : Below w1.heap.size w1 v1 := by rw [← hv1]; exact B1.out.alloc B1.out.size _
  have lr1 : SlI v1 v1.heap.size .u16 (some ⟨r1, 0, none⟩) 1 1 [9] := by rw [← hv1, ← hr1]; exact SlI.of_lit rfl rfl (by omega)
  have HC1 := Lib.hid (bbytes_any A1 8 c1 ask17 (.agg #[.int .i64 4, .int .i64 0, .int .i64 0, .slice (some ⟨r1, 0, none⟩) 1 1, .int .i64 0, .int .i64 3, .int .i64 0, .int .u8 0, .slice none 0 0]) (actP 4 0 3 [9]) v1 (HW1.out v1 bv1).1 (HW1.out v1 bv1).2 (HS1.out v1 bv1) (by omega) ask17_8 ⟨some ⟨r1, 0, none⟩, 1, 1, none, 0, 0, rfl, lr1, SlI.nil _ _ _⟩ (nb_ok _ _ _ _ (by intro x hx; simp at hx <;> omega) (by omega)))
  rw [nb_4] at HC1
  have HBV1 := Lib.hid bv1
  clear bv1 lr1
  go_wp2_with fail
  clear hv1 hr1
  refine HC1.out.mono ?_
  rintro e w2 ⟨A2, n2, c2, rfl, s2, b2⟩
  have hn2 : n2 = 3 := s2.1.symm
  subst hn2
  have B2 := Lib.hid (HBV1.out.trans (b2.mono HBV1.out.size))
  have HSA := Lib.hid (fun (V : World) (h : Below w2.heap.size w2 V) => s2.up h)
  have C2 := Lib.hid (Below.refl w2.heap.size w2)
  clear s2 b2
  have HC2 := Lib.hid (bbytes_any A1 8 c1 ask17 (.agg #[.int .i64 3, .int .i64 0, .int .i64 0, .slice none 0 0, .int .i64 0, .int .i64 0, .int .i64 0, .int .u8 0, .slice none 0 0]) (actP 3 0 0 []) w2 (HW1.out w2 B2.out).1 (HW1.out w2 B2.out).2 (HS1.out w2 B2.out) (by omega) ask17_8 ⟨none, 0, 0, none, 0, 0, rfl, SlI.nil _ _ _, SlI.nil _ _ _⟩ (nb_ok _ _ _ _ (by intro x hx; simp at hx <;> omega) (by omega)))
  rw [nb_3] at HC2
  go_wp2_with fail
  refine HC2.out.mono ?_
  rintro e w3 ⟨A3, n3, c3, rfl, s3, b3⟩
  have hn3 : n3 = 0 := s3.1.symm
  subst hn3
  have B3 := Lib.hid (B2.out.trans (b3.mono B2.out.size))
  have C3 := Lib.hid b3
  clear s3 b3
  have HL2 := Lib.hid (line_2 w3 (HW1.out w3 B3.out).2)
  go_wp2_with fail
  refine HL2.out.mono ?_
  rintro e w4 ⟨rfl, b4⟩
  have B4 := Lib.hid (B3.out.trans (b4.mono B3.out.size))
  have C4 := Lib.hid (C3.out.trans (b4.mono C3.out.size))
  clear b4
  obtain ⟨v4, hv4⟩ : ∃ Y, w4.alloc (.cells #[.int .u8 10, .int .u8 255] 5) = Y := ⟨_, rfl⟩
  obtain ⟨r4, hr4⟩ : ∃ q, w4.heap.size = q := ⟨_, rfl⟩
  have bv4 : Below w1.heap.size w1 v4 := by rw [← hv4]; exact B4.out.alloc B4.out.size _
  have cv4 : Below w2.heap.size w2 v4 := by rw [← hv4]; exact C4.out.alloc C4.out.size _
  have lr4 : SlI v4 v4.heap.size .u8 (some ⟨r4, 0, none⟩) 2 2 [10, 255] := by rw [← hv4, ← hr4]; exact SlI.of_lit rfl rfl (by omega)
  have HL7 := Lib.hid (line_7 v4 (HW1.out v4 bv4).2 (some ⟨r4, 0, none⟩) 2 lr4)
  have HBV4 := Lib.hid (And.intro bv4 cv4)
  clear bv4 cv4 lr4
  go_wp2_with fail
  clear hv4 hr4
  refine HL7.out.mono ?_
  rintro e w5 ⟨rfl, b5⟩
  have B5 := Lib.hid (HBV4.out.1.trans (b5.mono HBV4.out.1.size))
  have C5 := Lib.hid (HBV4.out.2.trans (b5.mono HBV4.out.2.size))
  have HP5 := Lib.hid (play_arg (-1) A1 8 c1 none 0 0 w5 (by omega))
  clear b5
  go_wp2_with fail
  refine HP5.out.mono ?_
  rintro e w6 ⟨rfl, b6⟩
  have B6 := Lib.hid (B5.out.trans (b6.mono B5.out.size))
  have C6 := Lib.hid (C5.out.trans (b6.mono C5.out.size))
  clear b6
  obtain ⟨v6, hv6⟩ : ∃ Y, w6.alloc (.cells #[.int .i64 8, .int .i64 0, .int .i64 0, .slice none 0 0, .int .i64 0, .int .i64 0, .int .i64 0, .int .u8 0, .slice none 0 0] 29) = Y := ⟨_, rfl⟩
  obtain ⟨r6, hr6⟩ : ∃ q, w6.heap.size = q := ⟨_, rfl⟩
  have bv6 : Below w1.heap.size w1 v6 := by rw [← hv6]; exact B6.out.alloc B6.out.size _
  have cv6 : Below w2.heap.size w2 v6 := by rw [← hv6]; exact C6.out.alloc C6.out.size _
  have lr6 : Held v6 r6 29 #[.int .i64 8, .int .i64 0, .int .i64 0, .slice none 0 0, .int .i64 0, .int .i64 0, .int .i64 0, .int .u8 0, .slice none 0 0] := by rw [← hv6, ← hr6]; exact Held.new w6 _ _
  have HP6 := Lib.hid (play_bus 0 A1 8 c1 (some ⟨r6, 0, none⟩) 1 1 [actP 8 0 0 []] v6 (HW1.out v6 bv6).2 (acts_lit (a := actP 8 0 0 []) (Ar := none) (nr := 0) (cr := 0) (D := none) (nd := 0) (cd := 0) lr6 (SlI.nil _ _ _) (SlI.nil _ _ _)) (by intro a ha; simp at ha; subst ha; exact nb_ok _ _ _ _ (by intro x hx; cases hx) (by omega)) (by omega) (by omega) (by simp [nb_m8]))
  have HBV6 := Lib.hid (And.intro bv6 cv6)
  clear bv6 cv6 lr6
  go_wp2_with fail
  clear hv6 hr6
  refine HP6.out.mono ?_
  rintro e w7 ⟨rfl, b7⟩
  have B7 := Lib.hid (HBV6.out.1.trans (b7.mono HBV6.out.1.size))
  have C7 := Lib.hid (HBV6.out.2.trans (b7.mono HBV6.out.2.size))
  clear b7
  obtain ⟨v7, hv7⟩ : ∃ Y, w7.alloc (.cells #[.int .i64 1, .int .i64 0, .int .i64 0, .slice none 0 0, .int .i64 1, .int .i64 0, .int .i64 0, .int .u8 0, .slice none 0 0] 29) = Y := ⟨_, rfl⟩
  obtain ⟨r7, hr7⟩ : ∃ q, w7.heap.size = q := ⟨_, rfl⟩
  obtain ⟨x7, hx7⟩ : ∃ Y, v7.alloc (.cells #[.slice (some ⟨r7, 0, none⟩) 1 1] 25) = Y := ⟨_, rfl⟩
  obtain ⟨q7, hq7⟩ : ∃ q, v7.heap.size = q := ⟨_, rfl⟩
  have bv7 : Below w1.heap.size w1 v7 := by rw [← hv7]; exact B7.out.alloc B7.out.size _
  have cv7 : Below w2.heap.size w2 v7 := by rw [← hv7]; exact C7.out.alloc C7.out.size _
  have bx7 : Below w1.heap.size w1 x7 := by rw [← hx7]; exact bv7.alloc bv7.size _
  have cx7 : Below w2.heap.size w2 x7 := by rw [← hx7]; exact cv7.alloc cv7.size _
  have lr7 : Held x7 r7 29 #[.int .i64 1, .int .i64 0, .int .i64 0, .slice none 0 0, .int .i64 1, .int .i64 0, .int .i64 0, .int .u8 0, .slice none 0 0] := by rw [← hx7]; exact Held.alloc (by rw [← hv7, ← hr7]; exact Held.new w7 _ _) _
  have lq7 : Held x7 q7 25 #[.slice (some ⟨r7, 0, none⟩) 1 1] := by rw [← hx7, ← hq7]; exact Held.new v7 _ _
  have HP7 := Lib.hid (new_bad x7 (HW1.out x7 bx7).2 q7 r7 1 1 (lq7.cell 0) lr7 lq7.lt)
  have HBX7 := Lib.hid (And.intro bx7 cx7)
  clear bv7 cv7 bx7 cx7 lr7 lq7
  go_wp2_with fail
  clear hv7 hr7 hx7 hq7
  refine HP7.out.mono ?_
  rintro e w8 ⟨rfl, b8⟩
  have B8 := Lib.hid (HBX7.out.1.trans (b8.mono HBX7.out.1.size))
  have C8 := Lib.hid (HBX7.out.2.trans (b8.mono HBX7.out.2.size))
  clear b8
  go_wp2_with fail
  refine (HA1.out w8 B8.out).mono ?_
  rintro e w9 ⟨A9, n9, c9, rfl, s9, b9⟩
  have hn9 : n9 = 8 := s9.1.symm.trans askZ_len
  subst hn9
  have B9 := Lib.hid (B8.out.trans (b9.mono B8.out.size))
  have C9 := Lib.hid (C8.out.trans (b9.mono C8.out.size))
  have HS9 := Lib.hid (fun (V : World) (h : Below w9.heap.size w9 V) => s9.up h)
  clear s9 b9
  obtain ⟨v9, hv9⟩ : ∃ Y, w9.alloc (.cells #[.int .u16 9] 45) = Y := ⟨_, rfl⟩
  obtain ⟨r9, hr9⟩ : ∃ q, w9.heap.size = q := ⟨_, rfl⟩
  have bv9 : Below w1.heap.size w1 v9 := by rw [← hv9]; exact B9.out.alloc B9.out.size _
  have lr9 : SlI v9 v9.heap.size .u16 (some ⟨r9, 0, none⟩) 1 1 [9] := by rw [← hv9, ← hr9]; exact SlI.of_lit rfl rfl (by omega)
  have HC9 := Lib.hid (bbytes_any A9 8 c9 askZ (.agg #[.int .i64 1, .int .i64 0, .int .i64 0, .slice (some ⟨r9, 0, none⟩) 1 1, .int .i64 0, .int .i64 0, .int .i64 0, .int .u8 0, .slice none 0 0]) (actP 1 0 0 [9]) v9 (HW1.out v9 bv9).1 (HW1.out v9 bv9).2 (HS9.out v9 (by rw [← hv9]; exact (Below.refl _ w9).alloc (Nat.le_refl _) _)) (by omega) askZ_8 ⟨some ⟨r9, 0, none⟩, 1, 1, none, 0, 0, rfl, lr9, SlI.nil _ _ _⟩ (nb_ok _ _ _ _ (by intro x hx; simp at hx <;> omega) (by omega)))
  rw [nb_c] at HC9
  have HCV9 : Hid (Below w2.heap.size w2 v9) := Lib.hid (by rw [← hv9]; exact C9.out.alloc C9.out.size _)
  have HBV9 := Lib.hid bv9
  clear bv9 lr9
  go_wp2_with fail
  clear hv9 hr9
  refine HC9.out.mono ?_
  rintro e w10 ⟨A10, n10, c10, rfl, s10, b10⟩
  have hn10 : n10 = 0 := s10.1.symm
  subst hn10
  have B10 := Lib.hid (HBV9.out.trans (b10.mono HBV9.out.size))
  have hc9 : Below w2.heap.size w2 v9 := HCV9.out
  have C10 := Lib.hid (HCV9.out.trans (b10.mono HCV9.out.size))
  clear s10 b10 hc9
  obtain ⟨v10, hv10⟩ : ∃ Y, w10.alloc (.cells #[.int .u16 9, .int .u16 9] 45) = Y := ⟨_, rfl⟩
  obtain ⟨r10, hr10⟩ : ∃ q, w10.heap.size = q := ⟨_, rfl⟩
  have bv10 : Below w1.heap.size w1 v10 := by rw [← hv10]; exact B10.out.alloc B10.out.size _
  have lr10 : SlI v10 v10.heap.size .u16 (some ⟨r10, 0, none⟩) 2 2 [9, 9] := by rw [← hv10, ← hr10]; exact SlI.of_lit rfl rfl (by omega)
  have HC10 := Lib.hid (bbytes_any A1 8 c1 ask17 (.agg #[.int .i64 1, .int .i64 0, .int .i64 0, .slice (some ⟨r10, 0, none⟩) 2 2, .int .i64 0, .int .i64 0, .int .i64 0, .int .u8 0, .slice none 0 0]) (actP 1 0 0 [9, 9]) v10 (HW1.out v10 bv10).1 (HW1.out v10 bv10).2 (HS1.out v10 bv10) (by omega) ask17_8 ⟨some ⟨r10, 0, none⟩, 2, 2, none, 0, 0, rfl, lr10, SlI.nil _ _ _⟩ (nb_ok _ _ _ _ (by intro x hx; simp at hx <;> omega) (by omega)))
  rw [nb_d] at HC10
  have HCV10 : Hid (Below w2.heap.size w2 v10) := Lib.hid (by rw [← hv10]; exact C10.out.alloc C10.out.size _)
  have HBV10 := Lib.hid bv10
  clear bv10 lr10
  go_wp2_with fail
  clear hv10 hr10
  refine HC10.out.mono ?_
  rintro e w11 ⟨A11, n11, c11, rfl, s11, b11⟩
  have hn11 : n11 = 0 := s11.1.symm
  subst hn11
  have B11 := Lib.hid (HBV10.out.trans (b11.mono HBV10.out.size))
  have C11 := Lib.hid (HCV10.out.trans (b11.mono HCV10.out.size))
  clear s11 b11
  have HAL := Lib.hid (alive22_any w11 (HW1.out w11 B11.out).1 (HW1.out w11 B11.out).2)
  go_wp2_with fail
  refine HAL.out.mono ?_
  rintro e w12 ⟨rfl, b12⟩
  have B12 := Lib.hid (B11.out.trans (b12.mono B11.out.size))
  have C12 := Lib.hid (C11.out.trans (b12.mono C11.out.size))
  have kp := conv_sli (HSA.out w12 C12.out)
  rw [show strOfNums [17, 3, 2] = ⟨#[17, 3, 2]⟩ by decide] at kp
  have HCK := Lib.hid (bcheck_any (.agg #[.int .i64 5, .int .i64 0, .int .i64 0, .slice none 0 0, .int .i64 0, .int .i64 0, .int .i64 0, .int .u8 0, .slice none 0 0]) (actP 5 0 0 []) w12 (HW1.out w12 B12.out).2 ⟨none, 0, 0, none, 0, 0, rfl, SlI.nil _ _ _, SlI.nil _ _ _⟩ (nb_ok _ _ _ _ (by intro x hx; cases hx) (by omega)))
  rw [nb_m5] at HCK
  clear b12
  go_wp2_with fail
  refine (left_none w12).mono ?_
  rintro e w13 ⟨rfl, rfl⟩
  go_wp2_with fail
  refine (next_none none 0 0 0 w12).mono ?_
  rintro e w13 ⟨rfl, rfl⟩
  go_wp2_with fail
  refine HCK.out.mono ?_
  rintro e w13 ⟨rfl, b13⟩
  have B13 := Lib.hid (HB1.out.trans ((B12.out.trans (b13.mono B12.out.size)).mono HB1.out.size))
  clear b13
  go_wp2_with fail
  go_ret
  exact ⟨rfl, B13.out⟩
end Go.Proofs.YtcipleanckeoaaaDoor
