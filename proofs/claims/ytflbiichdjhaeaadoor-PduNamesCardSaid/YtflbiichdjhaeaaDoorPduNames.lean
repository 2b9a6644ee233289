/- The law PduNames. -/
import Derived.Test.YtflbiichdjhaeaaDoorPduAlive
import Derived.Test.YtflbiichdjhaeaaDoorPduRead
import Derived.Test.YtflbiichdjhaeaaDoorPduRa
import Derived.Test.YtflbiichdjhaeaaDoorPduBit
namespace Go.Proofs.YtflbiichdjhaeaaDoor
open Go.RowKit
set_option linter.unusedVariables false
set_option maxRecDepth 100000 in
set_option maxHeartbeats 8000000 in
theorem code_own (A : Option Addr) (n c : Nat) (b : List Int) (p : AskP) (pc : Int) (w : World) (hT : LimT w) (hB : SlI w w.heap.size .u8 A n c b) (hb8 : Byte8 b) (hr : readP b = (p, pc, 190)) :
    Calls Tryd.prog 26 #[.slice A n c] w fun e w' => e = .returned (.int .i64 pc) ∧ Below w.heap.size w w' := by
  have H : Hid (Calls Tryd.prog 21 #[.slice A n c] w fun e w' => ∃ v, e = .returned (.tuple #[v, .int .i64 pc, .int .i64 190]) ∧ AskAt w' v p ∧ Below w.heap.size w w') := Lib.hid (by have h1 := read_own A n c b w hT hB hb8; rw [hr] at h1; exact h1)
  clear hT hB hb8 hr
  go_in
  go_wp2_with fail
  refine H.out.mono ?_
  rintro e w1 ⟨v, rfl, ⟨A6, n6, c6, A7, n7, c7, rfl, s6, s7⟩, hb1⟩
  obtain ⟨w2, hw2⟩ : ∃ W, w1.alloc (.cells #[.int .i64 p.fn, .int .i64 p.addr, .int .i64 p.count, .int .i64 p.to, .slice A6 n6 c6, .slice A7 n7 c7] 25) = W := ⟨_, rfl⟩
  have hb2 : Below w1.heap.size w1 w2 := by rw [← hw2]; exact (Below.refl _ _).alloc (Nat.le_refl _) _
  have hb2w := hb1.trans (hb2.mono hb1.size)
  clear s6 s7
  go_wp2_with fail
  go_ret
  exact ⟨rfl, hb2w⟩
theorem ex_code0 : readP [7, 0] = (ask0, 1, 190) := by decide +kernel
theorem ex_code1 : readP [3, 0, 0, 0, 126] = (ask0, 3, 190) := by decide +kernel
theorem ex_code2 : readP [3, 255, 255, 0, 2] = (ask0, 2, 190) := by decide +kernel
theorem ex_code3 : readP [5, 0, 1, 1, 0] = (ask0, 3, 190) := by decide +kernel
theorem ex_code4 : readP [16, 0, 0, 0, 1, 2, 0] = (ask0, 3, 190) := by decide +kernel
theorem ex_code5 : readP [1, 0, 0, 7, 208, 0] = (ask0, 3, 190) := by decide +kernel
theorem ex_read : readP [5, 0, 1, 255, 0] = (⟨5, 1, 0, 0, [true], []⟩, 0, 0) := by decide +kernel
theorem ex_nil : readP [] = (ask0, 0, 190) := by decide +kernel
theorem ex_a1 : answerP threeP ⟨3, 0, [], [1]⟩ = none := by decide +kernel
theorem ex_a2 : answerP threeP ⟨3, 12, [], []⟩ = none := by decide +kernel
theorem ex_r1 : readAnswerP threeP [131, 2] = some ⟨3, 2, [], []⟩ := by decide +kernel
theorem ex_r2 : readAnswerP threeP [3, 2, 0, 0] = none := by decide +kernel
theorem ex_c1 : mayP ⟨3, 65535, 1, 0, [], []⟩ = true := by decide +kernel
theorem ex_c2 : mayP ⟨3, 65535, 2, 0, [], []⟩ = false := by decide +kernel
def tenB : List Bool := [true, false, true, false, false, false, false, false, false, true]
theorem ex_pack : packN tenB = [5, 2] := by decide +kernel
def z254 : Array Value := Array.replicate 254 (.int .u8 0)
theorem make254 (w : World) : (Instr.makeSlice 28 (.int .i64 254) (.int .i64 254)).run Tryd.prog w = .ok (.slice (some ⟨w.heap.size, 0, none⟩) 254 254) (w.alloc (.cells z254 5)) := by
  kernel_rfl
theorem SlB.of_lits {w : World} {T : TypeId} {cs : Array Value} {n : Nat} {xs : List Bool} (h : cs.toList = xs.map Value.bool) (hn : xs.length = n) (hm : n ≤ 1000000) :
    SlB (w.alloc (.cells cs T)) (w.alloc (.cells cs T)).heap.size (some ⟨w.heap.size, 0, none⟩) n n xs := by
  refine ⟨hn, by omega, by simp [maxLen]; omega, fun h => absurd h (by simp), fun _ => ⟨w.heap.size, 0, rfl, by simp, fun i x hx => ?_⟩⟩
  rw [Nat.zero_add, (Held.new w T cs).cell i]
  have h1 : cs.toList[i]? = (xs.map Value.bool)[i]? := by rw [h]
  rw [List.getElem?_map, hx] at h1
  simpa using h1
set_option maxRecDepth 100000 in
set_option maxHeartbeats 8000000 in
theorem law_names (w : World) (hT : LimT w) : Calls Tryd.prog 8 #[] w fun e w' => e = .returned (.bool true) ∧ Below w.heap.size w w' := by
  have HT := Lib.hid (fun (X : World) (h : Below w.heap.size w X) => hT.up h)
  have HAL := Lib.hid (fun (X : World) (h : Below w.heap.size w X) => alive_own X (hT.up h))
  have hmk := make254
  clear hT
  obtain ⟨w1, hw1⟩ : ∃ W, w.alloc (.cells #[.bool true, .bool false, .bool true, .bool false, .bool false, .bool false, .bool false, .bool false, .bool false, .bool true] 4) = W := ⟨_, rfl⟩
  have hb1 : Below w.heap.size w w1 := by rw [← hw1]; exact (Below.refl _ _).alloc (Nat.le_refl _) _
  have hb1w := hb1
  have HK := Lib.hid (pack_own (some ⟨w.heap.size, 0, none⟩) 10 10 tenB (by omega) w1 (by rw [← hw1]; exact SlB.of_lits rfl rfl (by omega)))
  go_in
  go_wp2_with fail
  refine HK.out.mono ?_
  rintro e w2 ⟨v0, rfl, hv0, hb2⟩
  have hb2w := hb1w.trans (hb2.mono hb1w.size)
  obtain ⟨Ap, cp, rfl, sp⟩ := SlI.of_own hv0
  have hpl : (packN tenB).length = 2 := by rw [ex_pack]; rfl
  rw [hpl]
  rw [ex_pack, show (([5, 2] : List Int)).length = 2 from rfl] at sp
  clear hv0 hpl HK hw1
  go_wp2_with fail
  refine (three_own _).mono ?_
  rintro e w3 ⟨rfl, hb3⟩
  have hb3w := hb2w.trans (hb3.mono hb2w.size)
  obtain ⟨w4, hw4⟩ : ∃ W, w3.alloc (.cells #[.int .u16 1] 54) = W := ⟨_, rfl⟩
  have hb4 : Below w3.heap.size w3 w4 := by rw [← hw4]; exact (Below.refl _ _).alloc (Nat.le_refl _) _
  have hb4w := hb3w.trans (hb4.mono hb3w.size)
  have s4 : SlI w4 w4.heap.size .u16 (some ⟨w3.heap.size, 0, none⟩) 1 1 [1] := by rw [← hw4]; exact SlI.of_lit rfl rfl (by omega)
  have HA1 : Hid (Calls Tryd.prog 13 #[.agg #[.int .i64 3, .int .i64 107, .int .i64 3, .int .i64 0, .slice none 0 0, .slice none 0 0], .agg #[.int .i64 3, .int .i64 0, .slice none 0 0, .slice (some ⟨w3.heap.size, 0, none⟩) 1 1]] w4 fun e w' => ∃ A n c, e = .returned (.tuple #[.slice A n c, .int .i64 190]) ∧ Below w4.heap.size w4 w') := Lib.hid (by
    have h1 := answer_own (.agg #[.int .i64 3, .int .i64 107, .int .i64 3, .int .i64 0, .slice none 0 0, .slice none 0 0]) _ threeP ⟨3, 0, [], [1]⟩ w4 (HT.out w4 hb4w) (three_at w4) ⟨none, 0, 0, _, _, _, rfl, SlB.nil _ _, s4⟩ reg_nil (fun x hx => by simp at hx; omega) (by simp) (by simp)
    rw [ex_a1] at h1
    exact h1.mono (fun e w' h => by obtain ⟨A, n, c, h1, h2, h3⟩ := h; exact ⟨A, n, c, h1, h3⟩))
  clear s4
  go_wp2_with fail
  refine HA1.out.mono ?_
  rintro e w5 ⟨Ax, nx, cx, rfl, hb5⟩
  have hb5w := hb4w.trans (hb5.mono hb4w.size)
  clear hw4 HA1
  go_wp2_with fail
  refine (three_own _).mono ?_
  rintro e w6 ⟨rfl, hb6⟩
  have hb6w := hb5w.trans (hb6.mono hb5w.size)
  have HA2 : Hid (Calls Tryd.prog 13 #[.agg #[.int .i64 3, .int .i64 107, .int .i64 3, .int .i64 0, .slice none 0 0, .slice none 0 0], .agg #[.int .i64 3, .int .i64 12, .slice none 0 0, .slice none 0 0]] w6 fun e w' => ∃ A n c, e = .returned (.tuple #[.slice A n c, .int .i64 190]) ∧ Below w6.heap.size w6 w') := Lib.hid (by
    have h1 := answer_own (.agg #[.int .i64 3, .int .i64 107, .int .i64 3, .int .i64 0, .slice none 0 0, .slice none 0 0]) _ threeP ⟨3, 12, [], []⟩ w6 (HT.out w6 hb6w) (three_at w6) ⟨none, 0, 0, none, 0, 0, rfl, SlB.nil _ _, SlI.nil _ _ _⟩ reg_nil reg_nil (by simp) (by simp)
    rw [ex_a2] at h1
    exact h1.mono (fun e w' h => by obtain ⟨A, n, c, h1, h2, h3⟩ := h; exact ⟨A, n, c, h1, h3⟩))
  go_wp2_with fail
  refine HA2.out.mono ?_
  rintro e w7 ⟨Ay, ny, cy, rfl, hb7⟩
  have hb7w := hb6w.trans (hb7.mono hb6w.size)
  clear HA2
  go_wp2_with fail
  refine (three_own _).mono ?_
  rintro e w8 ⟨rfl, hb8⟩
  have hb8w := hb7w.trans (hb8.mono hb7w.size)
  obtain ⟨w9, hw9⟩ : ∃ W, w8.alloc (.cells #[.int .u8 131, .int .u8 2] 5) = W := ⟨_, rfl⟩
  have hb9 : Below w8.heap.size w8 w9 := by rw [← hw9]; exact (Below.refl _ _).alloc (Nat.le_refl _) _
  have hb9w := hb8w.trans (hb9.mono hb8w.size)
  have HR1 : Hid (Calls Tryd.prog 15 #[.agg #[.int .i64 3, .int .i64 107, .int .i64 3, .int .i64 0, .slice none 0 0, .slice none 0 0], .slice (some ⟨w8.heap.size, 0, none⟩) 2 2] w9 fun e w' => ∃ A6 n6 c6 A7 n7 c7, e = .returned (.tuple #[.agg #[.int .i64 3, .int .i64 2, .slice A6 n6 c6, .slice A7 n7 c7], .int .i64 0]) ∧ n7 = 0 ∧ Below w9.heap.size w9 w') := Lib.hid (by
    have h1 := readanswer_own (.agg #[.int .i64 3, .int .i64 107, .int .i64 3, .int .i64 0, .slice none 0 0, .slice none 0 0]) threeP (some ⟨w8.heap.size, 0, none⟩) 2 2 [131, 2] w9 (HT.out w9 hb9w) (three_at w9) reg_nil (by rw [← hw9]; exact SlI.of_lit rfl rfl (by omega)) (fun x hx => by simp at hx; omega) (by omega)
    refine h1.mono ?_
    rintro e w' h2
    unfold RaPost at h2
    rw [ex_r1] at h2
    obtain ⟨v, rfl, ⟨A6, n6, c6, A7, n7, c7, rfl, s6, s7⟩, hb⟩ := h2
    exact ⟨A6, n6, c6, A7, n7, c7, rfl, by have := s7.1; simpa using this.symm, hb⟩)
  go_wp2_with fail
  refine HR1.out.mono ?_
  rintro e w10 ⟨Ar, nr, cr, As, ns, cs, rfl, hns, hb10⟩
  have hb10w := hb9w.trans (hb10.mono hb9w.size)
  subst hns
  clear HR1 hw9
  obtain ⟨w11, hw11⟩ : ∃ W, w10.alloc (.cells #[.int .i64 3, .int .i64 2, .slice Ar nr cr, .slice As 0 cs] 34) = W := ⟨_, rfl⟩
  have hb11 : Below w10.heap.size w10 w11 := by rw [← hw11]; exact (Below.refl _ _).alloc (Nat.le_refl _) _
  have hb11w := hb10w.trans (hb11.mono hb10w.size)
  have hR : Held w11 w10.heap.size 34 #[.int .i64 3, .int .i64 2, .slice Ar nr cr, .slice As 0 cs] := by rw [← hw11]; exact Held.new _ _ _
  obtain ⟨gr, hgr⟩ : ∃ x, w10.heap.size = x := ⟨_, rfl⟩
  rw [hgr] at hR
  have HGR := Lib.hid hgr
  clear hgr
  have HRC := Lib.hid (fun (X : World) (h : Below w11.heap.size w11 X) => hR.below h hR.lt)
  clear hR
  go_wp2_with fail
  refine (three_own _).mono ?_
  rintro e w12 ⟨rfl, hb12⟩
  have hb12w := hb11w.trans (hb12.mono hb11w.size)
  obtain ⟨w13, hw13⟩ : ∃ W, w12.alloc (.cells #[.int .u8 3, .int .u8 2, .int .u8 0, .int .u8 0] 5) = W := ⟨_, rfl⟩
  have hb13 : Below w12.heap.size w12 w13 := by rw [← hw13]; exact (Below.refl _ _).alloc (Nat.le_refl _) _
  have hb13w := hb12w.trans (hb13.mono hb12w.size)
  have HR2 : Hid (Calls Tryd.prog 15 #[.agg #[.int .i64 3, .int .i64 107, .int .i64 3, .int .i64 0, .slice none 0 0, .slice none 0 0], .slice (some ⟨w12.heap.size, 0, none⟩) 4 4] w13 fun e w' => ∃ x0 x1 A6 n6 c6 A7 n7 c7, e = .returned (.tuple #[.agg #[.int .i64 x0, .int .i64 x1, .slice A6 n6 c6, .slice A7 n7 c7], .int .i64 190]) ∧ Below w13.heap.size w13 w') := Lib.hid (by
    have h1 := readanswer_own (.agg #[.int .i64 3, .int .i64 107, .int .i64 3, .int .i64 0, .slice none 0 0, .slice none 0 0]) threeP (some ⟨w12.heap.size, 0, none⟩) 4 4 [3, 2, 0, 0] w13 (HT.out w13 hb13w) (three_at w13) reg_nil (by rw [← hw13]; exact SlI.of_lit rfl rfl (by omega)) (fun x hx => by simp at hx; omega) (by omega)
    refine h1.mono ?_
    rintro e w' h2
    unfold RaPost at h2
    rw [ex_r2] at h2
    obtain ⟨v, rfl, ⟨A6, n6, c6, A7, n7, c7, rfl, s6, s7⟩, hb⟩ := h2
    exact ⟨_, _, A6, n6, c6, A7, n7, c7, rfl, hb⟩)
  go_wp2_with fail
  refine HR2.out.mono ?_
  rintro e w14 ⟨y0, y1, At, nt, ct, Au, nu, cu, rfl, hb14⟩
  have hb14w := hb13w.trans (hb14.mono hb13w.size)
  clear HR2 hw13
  obtain ⟨w15, hw15⟩ : ∃ W, w14.alloc (.cells #[.int .i64 y0, .int .i64 y1, .slice At nt ct, .slice Au nu cu] 34) = W := ⟨_, rfl⟩
  have hb15 : Below w14.heap.size w14 w15 := by rw [← hw15]; exact (Below.refl _ _).alloc (Nat.le_refl _) _
  have hb15w := hb14w.trans (hb15.mono hb14w.size)
  have HN1 : Hid (Calls Tryd.prog 21 #[.slice none 0 0] w15 fun e w' => ∃ x0 x1 x2 x3 A6 n6 c6 A7 n7 c7, e = .returned (.tuple #[.agg #[.int .i64 x0, .int .i64 x1, .int .i64 x2, .int .i64 x3, .slice A6 n6 c6, .slice A7 n7 c7], .int .i64 0, .int .i64 190]) ∧ Below w15.heap.size w15 w') := Lib.hid (by
    have h1 := read_own none 0 0 [] w15 (HT.out w15 hb15w) (SlI.nil _ _ _) Byte8.nil
    rw [ex_nil] at h1
    refine h1.mono ?_
    rintro e w' ⟨v, rfl, ⟨A6, n6, c6, A7, n7, c7, rfl, s6, s7⟩, hb⟩
    exact ⟨_, _, _, _, A6, n6, c6, A7, n7, c7, rfl, hb⟩)
  go_wp2_with fail
  refine HN1.out.mono ?_
  rintro e w16 ⟨x150, x151, x152, x153, A15, n15, c15, B15, m15, d15, rfl, hb16⟩
  have hb16w := hb15w.trans (hb16.mono hb15w.size)
  clear HN1
  obtain ⟨w17, hw17⟩ : ∃ W, w16.alloc (.cells #[.int .i64 x150, .int .i64 x151, .int .i64 x152, .int .i64 x153, .slice A15 n15 c15, .slice B15 m15 d15] 25) = W := ⟨_, rfl⟩
  have hb17 : Below w16.heap.size w16 w17 := by rw [← hw17]; exact (Below.refl _ _).alloc (Nat.le_refl _) _
  have hb17w := hb16w.trans (hb17.mono hb16w.size)
  obtain ⟨w18, hw18⟩ : ∃ W, w17.alloc (.cells z254 5) = W := ⟨_, rfl⟩
  have hb18 : Below w17.heap.size w17 w18 := by rw [← hw18]; exact (Below.refl _ _).alloc (Nat.le_refl _) _
  have hb18w := hb17w.trans (hb18.mono hb17w.size)
  have HN2 : Hid (Calls Tryd.prog 21 #[.slice (some ⟨w17.heap.size, 0, none⟩) 254 254] w18 fun e w' => ∃ x0 x1 x2 x3 A6 n6 c6 A7 n7 c7, e = .returned (.tuple #[.agg #[.int .i64 x0, .int .i64 x1, .int .i64 x2, .int .i64 x3, .slice A6 n6 c6, .slice A7 n7 c7], .int .i64 0, .int .i64 190]) ∧ Below w18.heap.size w18 w') := Lib.hid (by
    have h1 := rd_l (some ⟨w17.heap.size, 0, none⟩) 254 254 w18 (by omega)
    refine h1.mono ?_
    rintro e w' ⟨v, rfl, ⟨A6, n6, c6, A7, n7, c7, rfl, s6, s7⟩, hb⟩
    exact ⟨_, _, _, _, A6, n6, c6, A7, n7, c7, rfl, hb⟩)
  go_wp2_with fail
  refine HN2.out.mono ?_
  rintro e w19 ⟨x180, x181, x182, x183, A18, n18, c18, B18, m18, d18, rfl, hb19⟩
  have hb19w := hb18w.trans (hb19.mono hb18w.size)
  clear HN2
  obtain ⟨w20, hw20⟩ : ∃ W, w19.alloc (.cells #[.int .i64 x180, .int .i64 x181, .int .i64 x182, .int .i64 x183, .slice A18 n18 c18, .slice B18 m18 d18] 25) = W := ⟨_, rfl⟩
  have hb20 : Below w19.heap.size w19 w20 := by rw [← hw20]; exact (Below.refl _ _).alloc (Nat.le_refl _) _
  have hb20w := hb19w.trans (hb20.mono hb19w.size)
  have HC1 : Hid (Calls Tryd.prog 19 #[.agg #[.int .i64 3, .int .i64 65535, .int .i64 1, .int .i64 0, .slice none 0 0, .slice none 0 0]] w20 fun e w' => e = .returned (.int .i64 0) ∧ Below w20.heap.size w20 w') := Lib.hid (by
    have h1 := check_own (.agg #[.int .i64 3, .int .i64 65535, .int .i64 1, .int .i64 0, .slice none 0 0, .slice none 0 0]) ⟨3, 65535, 1, 0, [], []⟩ w20 (HT.out w20 hb20w) ⟨none, 0, 0, none, 0, 0, rfl, SlB.nil _ _, SlI.nil _ _ _⟩
    rw [ex_c1] at h1
    exact h1)
  go_wp2_with fail
  refine HC1.out.mono ?_
  rintro e w21 ⟨rfl, hb21⟩
  have hb21w := hb20w.trans (hb21.mono hb20w.size)
  clear HC1
  have HC2 : Hid (Calls Tryd.prog 19 #[.agg #[.int .i64 3, .int .i64 65535, .int .i64 2, .int .i64 0, .slice none 0 0, .slice none 0 0]] w21 fun e w' => e = .returned (.int .i64 190) ∧ Below w21.heap.size w21 w') := Lib.hid (by
    have h1 := check_own (.agg #[.int .i64 3, .int .i64 65535, .int .i64 2, .int .i64 0, .slice none 0 0, .slice none 0 0]) ⟨3, 65535, 2, 0, [], []⟩ w21 (HT.out w21 hb21w) ⟨none, 0, 0, none, 0, 0, rfl, SlB.nil _ _, SlI.nil _ _ _⟩
    rw [ex_c2] at h1
    exact h1)
  go_wp2_with fail
  refine HC2.out.mono ?_
  rintro e w22 ⟨rfl, hb22⟩
  have hb22w := hb21w.trans (hb22.mono hb21w.size)
  clear HC2
  obtain ⟨w23, hw23⟩ : ∃ W, w22.alloc (.cells #[.int .u8 5, .int .u8 0, .int .u8 1, .int .u8 255, .int .u8 0] 5) = W := ⟨_, rfl⟩
  have hb23 : Below w22.heap.size w22 w23 := by rw [← hw23]; exact (Below.refl _ _).alloc (Nat.le_refl _) _
  have hb23w := hb22w.trans (hb23.mono hb22w.size)
  have HN3 : Hid (Calls Tryd.prog 21 #[.slice (some ⟨w22.heap.size, 0, none⟩) 5 5] w23 fun e w' => ∃ A6 c6 A7 n7 c7, e = .returned (.tuple #[.agg #[.int .i64 5, .int .i64 1, .int .i64 0, .int .i64 0, .slice A6 1 c6, .slice A7 n7 c7], .int .i64 0, .int .i64 0]) ∧ SlB w' w'.heap.size A6 1 c6 [true] ∧ Below w23.heap.size w23 w') := Lib.hid (by
    have h1 := read_own (some ⟨w22.heap.size, 0, none⟩) 5 5 [5, 0, 1, 255, 0] w23 (HT.out w23 hb23w) (by rw [← hw23]; exact SlI.of_lit rfl rfl (by omega)) (fun x hx => by simp at hx; omega)
    rw [ex_read] at h1
    refine h1.mono ?_
    rintro e w' ⟨v, rfl, ⟨A6, n6, c6, A7, n7, c7, rfl, s6, s7⟩, hb⟩
    obtain rfl : n6 = 1 := by have := s6.1; simpa using this.symm
    exact ⟨A6, c6, A7, n7, c7, rfl, s6, hb⟩)
  go_wp2_with fail
  refine HN3.out.mono ?_
  rintro e w24 ⟨Ab, cb, Ac, nc, cc, rfl, sb, hb24⟩
  have hb24w := hb23w.trans (hb24.mono hb23w.size)
  clear HN3
  obtain ⟨w25, hw25⟩ : ∃ W, w24.alloc (.cells #[.int .i64 5, .int .i64 1, .int .i64 0, .int .i64 0, .slice Ab 1 cb, .slice Ac nc cc] 25) = W := ⟨_, rfl⟩
  have hb25 : Below w24.heap.size w24 w25 := by rw [← hw25]; exact (Below.refl _ _).alloc (Nat.le_refl _) _
  have hb25w := hb24w.trans (hb25.mono hb24w.size)
  have hQ : Held w25 w24.heap.size 25 #[.int .i64 5, .int .i64 1, .int .i64 0, .int .i64 0, .slice Ab 1 cb, .slice Ac nc cc] := by rw [← hw25]; exact Held.new _ _ _
  obtain ⟨gq, hgq⟩ : ∃ x, w24.heap.size = x := ⟨_, rfl⟩
  rw [hgq] at hQ
  have HQC := Lib.hid (fun (X : World) (h : Below w25.heap.size w25 X) => hQ.below h hQ.lt)
  have HGQ := Lib.hid hgq
  clear hQ hgq
  obtain ⟨gt, ot, et, hgt, hct⟩ := (sb.up hb25).2.2.2.2 (by simp)
  subst et
  have hct0 := hct 0 true rfl
  rw [Nat.add_zero] at hct0
  have HTC := Lib.hid (fun (X : World) (h : Below w25.heap.size w25 X) => (h.cell (p := ⟨gt, ot, none⟩) hgt).trans hct0)
  clear hct hct0 sb
  go_wp2_with fail
  refine (HAL.out w25 hb25w).mono ?_
  rintro e w26 ⟨rfl, hb26⟩
  have hb26w := hb25w.trans (hb26.mono hb25w.size)
  obtain ⟨w27, hw27⟩ : ∃ W, w26.alloc (.cells #[.int .u8 7, .int .u8 0] 5) = W := ⟨_, rfl⟩
  have hb27 : Below w26.heap.size w26 w27 := by rw [← hw27]; exact (Below.refl _ _).alloc (Nat.le_refl _) _
  have hb27w := hb26w.trans (hb27.mono hb26w.size)
  have HD0 := Lib.hid (code_own (some ⟨w26.heap.size, 0, none⟩) 2 2 [7, 0] ask0 1 w27 (HT.out w27 hb27w) (by rw [← hw27]; exact SlI.of_lit rfl rfl (by omega)) (fun x hx => by simp at hx; omega) ex_code0)
  go_wp2_with fail
  refine HD0.out.mono ?_
  rintro e w28 ⟨rfl, hb28⟩
  have hb28w := hb27w.trans (hb28.mono hb27w.size)
  clear HD0 hw27
  obtain ⟨w29, hw29⟩ : ∃ W, w28.alloc (.cells #[.int .u8 3, .int .u8 0, .int .u8 0, .int .u8 0, .int .u8 126] 5) = W := ⟨_, rfl⟩
  have hb29 : Below w28.heap.size w28 w29 := by rw [← hw29]; exact (Below.refl _ _).alloc (Nat.le_refl _) _
  have hb29w := hb28w.trans (hb29.mono hb28w.size)
  have HD1 := Lib.hid (code_own (some ⟨w28.heap.size, 0, none⟩) 5 5 [3, 0, 0, 0, 126] ask0 3 w29 (HT.out w29 hb29w) (by rw [← hw29]; exact SlI.of_lit rfl rfl (by omega)) (fun x hx => by simp at hx; omega) ex_code1)
  go_wp2_with fail
  refine HD1.out.mono ?_
  rintro e w30 ⟨rfl, hb30⟩
  have hb30w := hb29w.trans (hb30.mono hb29w.size)
  clear HD1 hw29
  obtain ⟨w31, hw31⟩ : ∃ W, w30.alloc (.cells #[.int .u8 3, .int .u8 255, .int .u8 255, .int .u8 0, .int .u8 2] 5) = W := ⟨_, rfl⟩
  have hb31 : Below w30.heap.size w30 w31 := by rw [← hw31]; exact (Below.refl _ _).alloc (Nat.le_refl _) _
  have hb31w := hb30w.trans (hb31.mono hb30w.size)
  have HD2 := Lib.hid (code_own (some ⟨w30.heap.size, 0, none⟩) 5 5 [3, 255, 255, 0, 2] ask0 2 w31 (HT.out w31 hb31w) (by rw [← hw31]; exact SlI.of_lit rfl rfl (by omega)) (fun x hx => by simp at hx; omega) ex_code2)
  go_wp2_with fail
  refine HD2.out.mono ?_
  rintro e w32 ⟨rfl, hb32⟩
  have hb32w := hb31w.trans (hb32.mono hb31w.size)
  clear HD2 hw31
  obtain ⟨w33, hw33⟩ : ∃ W, w32.alloc (.cells #[.int .u8 5, .int .u8 0, .int .u8 1, .int .u8 1, .int .u8 0] 5) = W := ⟨_, rfl⟩
  have hb33 : Below w32.heap.size w32 w33 := by rw [← hw33]; exact (Below.refl _ _).alloc (Nat.le_refl _) _
  have hb33w := hb32w.trans (hb33.mono hb32w.size)
  have HD3 := Lib.hid (code_own (some ⟨w32.heap.size, 0, none⟩) 5 5 [5, 0, 1, 1, 0] ask0 3 w33 (HT.out w33 hb33w) (by rw [← hw33]; exact SlI.of_lit rfl rfl (by omega)) (fun x hx => by simp at hx; omega) ex_code3)
  go_wp2_with fail
  refine HD3.out.mono ?_
  rintro e w34 ⟨rfl, hb34⟩
  have hb34w := hb33w.trans (hb34.mono hb33w.size)
  clear HD3 hw33
  obtain ⟨w35, hw35⟩ : ∃ W, w34.alloc (.cells #[.int .u8 16, .int .u8 0, .int .u8 0, .int .u8 0, .int .u8 1, .int .u8 2, .int .u8 0] 5) = W := ⟨_, rfl⟩
  have hb35 : Below w34.heap.size w34 w35 := by rw [← hw35]; exact (Below.refl _ _).alloc (Nat.le_refl _) _
  have hb35w := hb34w.trans (hb35.mono hb34w.size)
  have HD4 := Lib.hid (code_own (some ⟨w34.heap.size, 0, none⟩) 7 7 [16, 0, 0, 0, 1, 2, 0] ask0 3 w35 (HT.out w35 hb35w) (by rw [← hw35]; exact SlI.of_lit rfl rfl (by omega)) (fun x hx => by simp at hx; omega) ex_code4)
  go_wp2_with fail
  refine HD4.out.mono ?_
  rintro e w36 ⟨rfl, hb36⟩
  have hb36w := hb35w.trans (hb36.mono hb35w.size)
  clear HD4 hw35
  obtain ⟨w37, hw37⟩ : ∃ W, w36.alloc (.cells #[.int .u8 1, .int .u8 0, .int .u8 0, .int .u8 7, .int .u8 208, .int .u8 0] 5) = W := ⟨_, rfl⟩
  have hb37 : Below w36.heap.size w36 w37 := by rw [← hw37]; exact (Below.refl _ _).alloc (Nat.le_refl _) _
  have hb37w := hb36w.trans (hb37.mono hb36w.size)
  have HD5 := Lib.hid (code_own (some ⟨w36.heap.size, 0, none⟩) 6 6 [1, 0, 0, 7, 208, 0] ask0 3 w37 (HT.out w37 hb37w) (by rw [← hw37]; exact SlI.of_lit rfl rfl (by omega)) (fun x hx => by simp at hx; omega) ex_code5)
  go_wp2_with fail
  refine HD5.out.mono ?_
  rintro e w38 ⟨rfl, hb38⟩
  have hb38w := hb37w.trans (hb38.mono hb37w.size)
  clear HD5 hw37
  have hc11 : Below w11.heap.size w11 w12 := hb12
  have hc11_13 : Below w11.heap.size w11 w13 := (hc11).trans (hb13.mono (hc11).size)
  have hc11_14 : Below w11.heap.size w11 w14 := (hc11_13).trans (hb14.mono (hc11_13).size)
  have hc11_15 : Below w11.heap.size w11 w15 := (hc11_14).trans (hb15.mono (hc11_14).size)
  have hc11_16 : Below w11.heap.size w11 w16 := (hc11_15).trans (hb16.mono (hc11_15).size)
  have hc11_17 : Below w11.heap.size w11 w17 := (hc11_16).trans (hb17.mono (hc11_16).size)
  have hc11_18 : Below w11.heap.size w11 w18 := (hc11_17).trans (hb18.mono (hc11_17).size)
  have hc11_19 : Below w11.heap.size w11 w19 := (hc11_18).trans (hb19.mono (hc11_18).size)
  have hc11_20 : Below w11.heap.size w11 w20 := (hc11_19).trans (hb20.mono (hc11_19).size)
  have hc11_21 : Below w11.heap.size w11 w21 := (hc11_20).trans (hb21.mono (hc11_20).size)
  have hc11_22 : Below w11.heap.size w11 w22 := (hc11_21).trans (hb22.mono (hc11_21).size)
  have hc11_23 : Below w11.heap.size w11 w23 := (hc11_22).trans (hb23.mono (hc11_22).size)
  have hc11_24 : Below w11.heap.size w11 w24 := (hc11_23).trans (hb24.mono (hc11_23).size)
  have hc11_25 : Below w11.heap.size w11 w25 := (hc11_24).trans (hb25.mono (hc11_24).size)
  have hc11_26 : Below w11.heap.size w11 w26 := (hc11_25).trans (hb26.mono (hc11_25).size)
  have hc11_27 : Below w11.heap.size w11 w27 := (hc11_26).trans (hb27.mono (hc11_26).size)
  have hc11_28 : Below w11.heap.size w11 w28 := (hc11_27).trans (hb28.mono (hc11_27).size)
  have hc11_29 : Below w11.heap.size w11 w29 := (hc11_28).trans (hb29.mono (hc11_28).size)
  have hc11_30 : Below w11.heap.size w11 w30 := (hc11_29).trans (hb30.mono (hc11_29).size)
  have hc11_31 : Below w11.heap.size w11 w31 := (hc11_30).trans (hb31.mono (hc11_30).size)
  have hc11_32 : Below w11.heap.size w11 w32 := (hc11_31).trans (hb32.mono (hc11_31).size)
  have hc11_33 : Below w11.heap.size w11 w33 := (hc11_32).trans (hb33.mono (hc11_32).size)
  have hc11_34 : Below w11.heap.size w11 w34 := (hc11_33).trans (hb34.mono (hc11_33).size)
  have hc11_35 : Below w11.heap.size w11 w35 := (hc11_34).trans (hb35.mono (hc11_34).size)
  have hc11_36 : Below w11.heap.size w11 w36 := (hc11_35).trans (hb36.mono (hc11_35).size)
  have hc11_37 : Below w11.heap.size w11 w37 := (hc11_36).trans (hb37.mono (hc11_36).size)
  have hc11_38 : Below w11.heap.size w11 w38 := (hc11_37).trans (hb38.mono (hc11_37).size)
  have hd25 : Below w25.heap.size w25 w26 := hb26
  have hd25_27 : Below w25.heap.size w25 w27 := (hd25).trans (hb27.mono (hd25).size)
  have hd25_28 : Below w25.heap.size w25 w28 := (hd25_27).trans (hb28.mono (hd25_27).size)
  have hd25_29 : Below w25.heap.size w25 w29 := (hd25_28).trans (hb29.mono (hd25_28).size)
  have hd25_30 : Below w25.heap.size w25 w30 := (hd25_29).trans (hb30.mono (hd25_29).size)
  have hd25_31 : Below w25.heap.size w25 w31 := (hd25_30).trans (hb31.mono (hd25_30).size)
  have hd25_32 : Below w25.heap.size w25 w32 := (hd25_31).trans (hb32.mono (hd25_31).size)
  have hd25_33 : Below w25.heap.size w25 w33 := (hd25_32).trans (hb33.mono (hd25_32).size)
  have hd25_34 : Below w25.heap.size w25 w34 := (hd25_33).trans (hb34.mono (hd25_33).size)
  have hd25_35 : Below w25.heap.size w25 w35 := (hd25_34).trans (hb35.mono (hd25_34).size)
  have hd25_36 : Below w25.heap.size w25 w36 := (hd25_35).trans (hb36.mono (hd25_35).size)
  have hd25_37 : Below w25.heap.size w25 w37 := (hd25_36).trans (hb37.mono (hd25_36).size)
  have hd25_38 : Below w25.heap.size w25 w38 := (hd25_37).trans (hb38.mono (hd25_37).size)
  have h2k : Below w2.heap.size w2 w3 := hb3
  have h2k_4 : Below w2.heap.size w2 w4 := (h2k).trans (hb4.mono (h2k).size)
  have h2k_5 : Below w2.heap.size w2 w5 := (h2k_4).trans (hb5.mono (h2k_4).size)
  have h2k_6 : Below w2.heap.size w2 w6 := (h2k_5).trans (hb6.mono (h2k_5).size)
  have h2k_7 : Below w2.heap.size w2 w7 := (h2k_6).trans (hb7.mono (h2k_6).size)
  have h2k_8 : Below w2.heap.size w2 w8 := (h2k_7).trans (hb8.mono (h2k_7).size)
  have h2k_9 : Below w2.heap.size w2 w9 := (h2k_8).trans (hb9.mono (h2k_8).size)
  have h2k_10 : Below w2.heap.size w2 w10 := (h2k_9).trans (hb10.mono (h2k_9).size)
  have h2k_11 : Below w2.heap.size w2 w11 := (h2k_10).trans (hb11.mono (h2k_10).size)
  have h2k_12 : Below w2.heap.size w2 w12 := (h2k_11).trans (hb12.mono (h2k_11).size)
  have h2k_13 : Below w2.heap.size w2 w13 := (h2k_12).trans (hb13.mono (h2k_12).size)
  have h2k_14 : Below w2.heap.size w2 w14 := (h2k_13).trans (hb14.mono (h2k_13).size)
  have h2k_15 : Below w2.heap.size w2 w15 := (h2k_14).trans (hb15.mono (h2k_14).size)
  have h2k_16 : Below w2.heap.size w2 w16 := (h2k_15).trans (hb16.mono (h2k_15).size)
  have h2k_17 : Below w2.heap.size w2 w17 := (h2k_16).trans (hb17.mono (h2k_16).size)
  have h2k_18 : Below w2.heap.size w2 w18 := (h2k_17).trans (hb18.mono (h2k_17).size)
  have h2k_19 : Below w2.heap.size w2 w19 := (h2k_18).trans (hb19.mono (h2k_18).size)
  have h2k_20 : Below w2.heap.size w2 w20 := (h2k_19).trans (hb20.mono (h2k_19).size)
  have h2k_21 : Below w2.heap.size w2 w21 := (h2k_20).trans (hb21.mono (h2k_20).size)
  have h2k_22 : Below w2.heap.size w2 w22 := (h2k_21).trans (hb22.mono (h2k_21).size)
  have h2k_23 : Below w2.heap.size w2 w23 := (h2k_22).trans (hb23.mono (h2k_22).size)
  have h2k_24 : Below w2.heap.size w2 w24 := (h2k_23).trans (hb24.mono (h2k_23).size)
  have h2k_25 : Below w2.heap.size w2 w25 := (h2k_24).trans (hb25.mono (h2k_24).size)
  have h2k_26 : Below w2.heap.size w2 w26 := (h2k_25).trans (hb26.mono (h2k_25).size)
  have h2k_27 : Below w2.heap.size w2 w27 := (h2k_26).trans (hb27.mono (h2k_26).size)
  have h2k_28 : Below w2.heap.size w2 w28 := (h2k_27).trans (hb28.mono (h2k_27).size)
  have h2k_29 : Below w2.heap.size w2 w29 := (h2k_28).trans (hb29.mono (h2k_28).size)
  have h2k_30 : Below w2.heap.size w2 w30 := (h2k_29).trans (hb30.mono (h2k_29).size)
  have h2k_31 : Below w2.heap.size w2 w31 := (h2k_30).trans (hb31.mono (h2k_30).size)
  have h2k_32 : Below w2.heap.size w2 w32 := (h2k_31).trans (hb32.mono (h2k_31).size)
  have h2k_33 : Below w2.heap.size w2 w33 := (h2k_32).trans (hb33.mono (h2k_32).size)
  have h2k_34 : Below w2.heap.size w2 w34 := (h2k_33).trans (hb34.mono (h2k_33).size)
  have h2k_35 : Below w2.heap.size w2 w35 := (h2k_34).trans (hb35.mono (h2k_34).size)
  have h2k_36 : Below w2.heap.size w2 w36 := (h2k_35).trans (hb36.mono (h2k_35).size)
  have h2k_37 : Below w2.heap.size w2 w37 := (h2k_36).trans (hb37.mono (h2k_36).size)
  have h2k_38 : Below w2.heap.size w2 w38 := (h2k_37).trans (hb38.mono (h2k_37).size)
  have kp := conv_sli (sp.up h2k_38)
  rw [show strOfNums [5, 2] = ⟨#[5, 2]⟩ by decide] at kp
  clear sp
  have hRf := HRC.out w38 hc11_38
  have r1 : w38.cell? ⟨gr, 1, none⟩ = some (.int .i64 2) := hRf.cell 1
  have r3 : w38.cell? ⟨gr, 3, none⟩ = some (.slice As 0 cs) := hRf.cell 3
  have hQf := HQC.out w38 hd25_38
  have q4 : w38.cell? ⟨gq, 4, none⟩ = some (.slice (some ⟨gt, ot, none⟩) 1 cb) := hQf.cell 4
  have tc : w38.cell? ⟨gt, ot, none⟩ = some (.bool true) := HTC.out w38 hd25_38
  clear hRf hQf
  rw [HGR.out, HGQ.out]
  clear hc11_13 hc11_14 hc11_15 hc11_16 hc11_17 hc11_18 hc11_19 hc11_20 hc11_21 hc11_22 hc11_23 hc11_24 hc11_25 hc11_26 hc11_27 hc11_28 hc11_29 hc11_30 hc11_31 hc11_32 hc11_33 hc11_34 hc11_35 hc11_36 hc11_37 hc11_38 hd25_27 hd25_28 hd25_29 hd25_30 hd25_31 hd25_32 hd25_33 hd25_34 hd25_35 hd25_36 hd25_37 hd25_38 h2k_4 h2k_5 h2k_6 h2k_7 h2k_8 h2k_9 h2k_10 h2k_11 h2k_12 h2k_13 h2k_14 h2k_15 h2k_16 h2k_17 h2k_18 h2k_19 h2k_20 h2k_21 h2k_22 h2k_23 h2k_24 h2k_25 h2k_26 h2k_27 h2k_28 h2k_29 h2k_30 h2k_31 h2k_32 h2k_33 h2k_34 h2k_35 h2k_36 h2k_37 h2k_38 hb2 hb3 hb4 hb5 hb6 hb7 hb8 hb9 hb10 hb11 hb12 hb13 hb14 hb15 hb16 hb17 hb18 hb19 hb20 hb21 hb22 hb23 hb24 hb25 hb26 hb27 hb28 hb29 hb30 hb31 hb32 hb33 hb34 hb35 hb36 hb37 hb38
  have HRF := Lib.hid (refuse_any 3 2 w38)
  go_wp2_with fail
  refine HRF.out.mono ?_
  rintro e wf ⟨rfl, hwf⟩
  have hbf : Below w.heap.size w wf := by rw [hwf]; exact hb38w.alloc hb38w.size _
  have kf := conv_sli (W := wf) (A := some ⟨w38.heap.size, 0, none⟩) (n := 2) (c := 2) (L := [131, 2]) (by rw [hwf]; exact SlI.of_lit rfl rfl (by omega))
  rw [show strOfNums [131, 2] = ⟨#[131, 2]⟩ by decide] at kf
  clear hwf
  go_wp2_with fail
  go_ret
  exact ⟨rfl, hbf⟩
end Go.Proofs.YtflbiichdjhaeaaDoor
