/- ModelNames, walked. -/
import Derived.Test.YtnnknnaimabehaaDoorModNamesP
import Derived.Test.YtnnknnaimabehaaDoorModRead
import Derived.Test.YtnnknnaimabehaaDoorModRefSame
namespace Go.Proofs.YtnnknnaimabehaaDoor
open Go.RowKit
attribute [local go_sem] Oper.semAt_some
set_option linter.unusedVariables false
set_option linter.unusedSimpArgs false
set_option maxRecDepth 100000
def L8 : List Int := [21365, 28243, 7, 2, 1, 1, 65535, 0]
theorem L8_in : ∀ x ∈ L8, 0 ≤ x ∧ x < 65536 := fun x hx => by simp [L8] at hx; omega
theorem img_seven (A : Option Addr) (w : World) (hB : BkI w w.heap.size A 1 1 [sevenB]) : Calls Tryd.prog 6 #[.slice A 1 1] w fun e w' => (∃ A' c', e = .returned (.tuple #[.slice A' 8 c', .int .i64 0]) ∧ SlI w' w'.heap.size .u16 A' 8 c' L8) ∧ Below w.heap.size w w' := by
  refine (image_own A 1 1 [sevenB] (by omega) w hB).mono ?_
  rintro e w' ⟨A', n, c', er, rfl, her, hs, hb⟩
  rw [ex_seven] at her hs
  have hs := hs _ rfl
  obtain rfl : er = 0 := her
  obtain rfl : n = 8 := hs.1.symm
  exact ⟨⟨A', c', rfl, hs⟩, hb⟩
theorem find_seven (A : Option Addr) (c : Nat) (w : World) (hS : SlI w w.heap.size .u16 A 8 c L8) : Calls Tryd.prog 8 #[.slice A 8 c, .int .i64 7, .int .i64 1] w fun e w' => e = .returned (.tuple #[.int .i64 0, .int .i64 0, .bool false]) ∧ w = w' := by
  have h := find_own A 8 c L8 7 1 (by omega) (by omega) w hS L8_in
  rw [show findR L8 7 1 = (0, 0, false) from ex_find1] at h
  exact h
theorem df_nil (w : World) : DfI w w.heap.size none 0 0 [] := ⟨rfl, by omega, by simp [maxLen], fun _ => ⟨rfl, rfl⟩, fun h => absurd h (by omega)⟩
theorem read_none (A : Option Addr) (c : Nat) (w : World) (hS : SlI w w.heap.size .u16 A 8 c L8) : Calls Tryd.prog 9 #[.slice A 8 c, .slice none 0 0] w fun e w' => e = .returned (.tuple #[.slice none 0 0, .int .i64 260]) ∧ Below w.heap.size w w' := by
  refine (read_own A 8 c L8 none 0 0 [] w hS L8_in (by omega) (df_nil w)).mono ?_
  rintro e w' ⟨A', n, c', er, rfl, her, _, hn, hb⟩
  rw [show readP [] L8 = none from ex_read0] at her hn
  obtain ⟨rfl, rfl, rfl⟩ := hn rfl
  obtain rfl : er = 260 := her
  exact ⟨rfl, hb⟩
theorem read_seven (A : Option Addr) (c : Nat) (D : Option Addr) (w : World) (hS : SlI w w.heap.size .u16 A 8 c L8) (hD : DfI w w.heap.size D 1 1 [d7]) : Calls Tryd.prog 9 #[.slice A 8 c, .slice D 1 1] w fun e w' => (∃ A' n c', e = .returned (.tuple #[.slice A' n c', .int .i64 0]) ∧ BkI w' w'.heap.size A' n c' [sevenB]) ∧ Below w.heap.size w w' := by
  refine (read_own A 8 c L8 D 1 1 [d7] w hS L8_in (by omega) hD).mono ?_
  rintro e w' ⟨A', n, c', er, rfl, her, hk, _, hb⟩
  rw [show readP [d7] L8 = some [sevenB] from ex_read1] at her hk
  obtain rfl : er = 0 := her
  exact ⟨⟨A', n, c', rfl, hk _ rfl⟩, hb⟩
theorem len_no (id k m : Int) (A : Option Addr) (w : World) (hP : PtI w w.heap.size A 1 1 [⟨k, m⟩]) (h : defB id [⟨k, m⟩] = false) : Calls Tryd.prog 10 #[.agg #[.int .i64 id, .slice A 1 1]] w fun e w' => e = .returned (.tuple #[.int .i64 0, .int .i64 260]) ∧ Below w.heap.size w w' := by
  have hm := mlen_any id A 1 1 [⟨k, m⟩] w hP
  unfold lenP at hm
  rw [h] at hm
  exact hm
theorem len_yes (id : Int) (A : Option Addr) (n c : Nat) (ps : List PtP) (w : World) (hP : PtI w w.heap.size A n c ps) (h : defB id ps = true) (z : Int) (hz : sumP ps = z) : Calls Tryd.prog 10 #[.agg #[.int .i64 id, .slice A n c]] w fun e w' => e = .returned (.tuple #[.int .i64 z, .int .i64 0]) ∧ Below w.heap.size w w' := by
  have hm := mlen_any id A n c ps w hP
  unfold lenP at hm
  rw [h, hz] at hm
  exact hm
theorem of_no (w : World) (hT : PtsT w) : Calls Tryd.prog 12 #[.pointer none, .agg #[.string s17, .string empS, .string empS], .slice none 0 0] w fun e w' => e = .returned (.tuple #[.slice none 0 0, .int .i64 260]) ∧ Below w.heap.size w w' := by
  refine (bof_any 0 (by omega) Bk.zero Bk.zero_ok (.pointer none) s17 empS empS none 0 0 [] (fun m h => by simp at h) w (.inl ⟨rfl, rfl⟩) hT (SlI.nil _ _ _)).mono ?_
  rintro e w' ⟨_, h2, h3⟩
  exact ⟨h2 ex_no, h3⟩
theorem of_yes (A : Option Addr) (w : World) (hT : PtsT w) (hM : SlI w w.heap.size .i64 A 1 1 [63]) : Calls Tryd.prog 12 #[.pointer none, .agg #[.string sA, .string sB, .string sC], .slice A 1 1] w fun e w' => (∃ A c, e = .returned (.tuple #[.slice A 2 c, .int .i64 0])) ∧ Below w.heap.size w w' := by
  refine (bof_any 0 (by omega) Bk.zero Bk.zero_ok (.pointer none) sA sB sC A 1 1 [63] (fun m h => by have : m = 63 := by simpa using h
                                                                                                     omega) w (.inl ⟨rfl, rfl⟩) hT hM).mono ?_
  rintro e w' ⟨h1, _, h3⟩
  obtain ⟨A', c', h, _⟩ := h1 ex_of
  exact ⟨⟨A', c', h⟩, h3⟩
/-- The chapter's block, opened. -/
theorem seven_def {W : World} {A : Option Addr} (h : BkI W W.heap.size A 1 1 [sevenB]) : ∃ g off Ap np cp, A = some ⟨g, off, none⟩ ∧ W.cell? ⟨g, off, none⟩ = some (.int .i64 7) ∧ W.cell? ⟨g, off + 1, none⟩ = some (.slice Ap np cp) ∧ PtI W W.heap.size Ap np cp [⟨1, 2⟩] := by
  obtain ⟨g, off, e, _, hc⟩ := h.2.2.2.2 (by omega)
  obtain ⟨Ap, np, cp, Av, nv, cv, k1, k2, _, k4, _⟩ := hc 0 sevenB rfl
  rw [Nat.zero_mul, Nat.add_zero] at k1 k2
  exact ⟨g, off, Ap, np, cp, e, k1, k2, k4⟩
set_option maxHeartbeats 4000000 in
theorem names_any (w : World) (hT : PtsT w) : Calls Tryd.prog 3 #[] w fun e w' => e = .returned (.bool true) ∧ Below w.heap.size w w' := by
  have HT := Lib.hid hT
  clear hT
  go_in
  go_wp2_with fail
  refine (seven_any w).mono ?_
  rintro e w1 ⟨⟨A1, rfl, hk1⟩, b1⟩
  go_wp2_with fail
  refine (img_seven A1 w1 hk1).mono ?_
  rintro e w2 ⟨⟨A2, c2, rfl, hs2⟩, b2⟩
  have bw2 := b1.trans (b2.mono b1.size)
  clear hk1 b1 b2
  go_wp2_with fail
  refine (find_seven A2 c2 w2 hs2).mono ?_
  rintro e w2' ⟨rfl, hw⟩
  subst hw
  go_wp2_with fail
  refine (read_none A2 c2 w2 hs2).mono ?_
  rintro e w3 ⟨rfl, b3⟩
  have hs3 := hs2.up b3
  have bw3 := bw2.trans (b3.mono bw2.size)
  clear hs2 b3 bw2
  go_wp2_with fail
  refine (seven_any w3).mono ?_
  rintro e w4 ⟨⟨A4, rfl, hk4⟩, b4⟩
  have hs4 := hs3.up b4
  have bw4 := bw3.trans (b4.mono bw3.size)
  obtain ⟨g4, o4, Ap, np, cp, rfl, k1, k2, hp4⟩ := seven_def hk4
  clear hs3 b4 bw3 hk4
  go_upto_region 4 with fail
  go_wp2_with fail
  obtain ⟨w5, hw5⟩ : ∃ W, w4.alloc (.cells #[.int .i64 7, .slice Ap np cp] 34) = W := ⟨_, rfl⟩
  have b5 : Below w4.heap.size w4 w5 := by rw [← hw5]; exact (Below.refl _ _).alloc (Nat.le_refl _) _
  have hd5 : DfI w5 w5.heap.size (some ⟨w4.heap.size, 0, none⟩) 1 1 [d7] := by
    have hp5 := hp4.up b5
    rw [← hw5] at hp5 ⊢
    exact DfI.of_cells (SlV.of_lit rfl rfl (by omega)) ⟨Ap, np, cp, [], rfl, hp5, rfl⟩
  rw [hw5]
  have hs5 := hs4.up b5
  have bw5 := bw4.trans (b5.mono bw4.size)
  clear hw5 b5 hs4 bw4 hp4 k1 k2
  refine (read_seven A2 c2 _ w5 hs5 hd5).mono ?_
  rintro e w6 ⟨⟨A6, n6, c6, rfl, hk6⟩, b6⟩
  have bw6 := bw5.trans (b6.mono bw5.size)
  clear hs5 hd5 b6 bw5
  go_wp2_with fail
  obtain ⟨w7, hw7⟩ : ∃ W, w6.alloc (.cells #[.int .i64 1, .int .i64 1] 42) = W := ⟨_, rfl⟩
  have b7 : Below w6.heap.size w6 w7 := by rw [← hw7]; exact (Below.refl _ _).alloc (Nat.le_refl _) _
  have hp7 : PtI w7 w7.heap.size (some ⟨w6.heap.size, 0, none⟩) 1 1 [⟨1, 1⟩] := by rw [← hw7]; exact PtI.of_cells (SlV.of_lit rfl rfl (by omega))
  rw [hw7]
  clear hw7
  refine (len_no 65535 1 1 _ w7 hp7 (by decide)).mono ?_
  rintro e w8 ⟨rfl, b8⟩
  have hk8 := (hk6.up b7).up b8
  have bw8 := (bw6.trans (b7.mono bw6.size)).trans (b8.mono (by have := bw6.size; have := b7.size; omega))
  clear hk6 b7 hp7 b8 bw6
  go_wp2_with fail
  obtain ⟨w9, hw9⟩ : ∃ W, w8.alloc (.cells #[.int .i64 2, .int .i64 3] 42) = W := ⟨_, rfl⟩
  have b9 : Below w8.heap.size w8 w9 := by rw [← hw9]; exact (Below.refl _ _).alloc (Nat.le_refl _) _
  have hp9 : PtI w9 w9.heap.size (some ⟨w8.heap.size, 0, none⟩) 1 1 [⟨2, 3⟩] := by rw [← hw9]; exact PtI.of_cells (SlV.of_lit rfl rfl (by omega))
  rw [hw9]
  clear hw9
  refine (len_no 1 2 3 _ w9 hp9 (by decide)).mono ?_
  rintro e w10 ⟨rfl, b10⟩
  have hk10 := (hk8.up b9).up b10
  have bw10 := (bw8.trans (b9.mono bw8.size)).trans (b10.mono (by have := bw8.size; have := b9.size; omega))
  clear hk8 b9 hp9 b10 bw8
  go_wp2_with fail
  refine (seven_any w10).mono ?_
  rintro e w11 ⟨⟨A11, rfl, hk11⟩, b11⟩
  have hkx := hk10.up b11
  have bw11 := bw10.trans (b11.mono bw10.size)
  obtain ⟨g5, o5, Ap5, np5, cp5, rfl, k1, k2, hp11⟩ := seven_def hk11
  clear hk10 b11 bw10 hk11
  go_wp2_with fail
  obtain ⟨w12, hw12⟩ : ∃ W, w11.alloc (.cells #[.int .u64 0, .int .i64 5, .string ⟨#[]⟩] 46) = W := ⟨_, rfl⟩
  have b12 : Below w11.heap.size w11 w12 := by rw [← hw12]; exact (Below.refl _ _).alloc (Nat.le_refl _) _
  have hv12 : VlI w12 w12.heap.size (some ⟨w11.heap.size, 0, none⟩) 1 1 [⟨0, 5, empS⟩] := by rw [← hw12]; exact VlI.of_cells (SlV.of_lit rfl rfl (by omega))
  rw [hw12]
  clear hw12 k1 k2
  have hck := check_blk 7 Ap5 np5 cp5 (some ⟨w11.heap.size, 0, none⟩) 1 1 [⟨1, 2⟩] [⟨0, 5, empS⟩] (fun v hv => by
    have : v = ⟨0, 5, empS⟩ := by simpa using hv
    rw [this]; exact vIn _ _ _ u0 (by decide)) w12 (hp11.up b12) hv12
  rw [ex_check] at hck
  refine hck.mono ?_
  rintro e w13 ⟨rfl, b13⟩
  have hk13 := (hkx.up b12).up b13
  have bw13 := (bw11.trans (b12.mono bw11.size)).trans (b13.mono (by have := bw11.size; have := b12.size; omega))
  clear hck hkx b12 hv12 hp11 b13 bw11
  go_wp2_with fail
  refine (of_no w13 (HT.out.up bw13)).mono ?_
  rintro e w14 ⟨rfl, b14⟩
  have hk14 := hk13.up b14
  have bw14 := bw13.trans (b14.mono bw13.size)
  clear hk13 b14 bw13
  go_wp2_with fail
  obtain ⟨w15, hw15⟩ : ∃ W, w14.alloc (.cells #[.int .i64 63] 3) = W := ⟨_, rfl⟩
  have b15 : Below w14.heap.size w14 w15 := by rw [← hw15]; exact (Below.refl _ _).alloc (Nat.le_refl _) _
  have hm15 : SlI w15 w15.heap.size .i64 (some ⟨w14.heap.size, 0, none⟩) 1 1 [63] := by rw [← hw15]; exact SlI.of_lit rfl rfl (by omega)
  rw [hw15]
  have bw15 := bw14.trans (b15.mono bw14.size)
  refine (of_yes _ w15 (HT.out.up bw15) hm15).mono ?_
  rintro e w16 ⟨⟨A16, c16, rfl⟩, b16⟩
  have hk16 := (hk14.up b15).up b16
  have bw16 := bw15.trans (b16.mono bw15.size)
  clear hw15 hk14 b15 hm15 b16 bw14 bw15
  go_wp2_with fail
  refine (defs_any w16 (HT.out.up bw16)).mono ?_
  rintro e w17 ⟨gd, g1, A17, c17, rfl, _, hd17, hp5, hp17, _, _, b17⟩
  have hk17 := hk16.up b17
  have bw17 := bw16.trans (b17.mono bw16.size)
  have hdl := hd17.lt
  have d0 := hd17.cell 0
  have d1 := hd17.cell 1
  simp only [List.getElem?_toArray, List.getElem?_cons_zero, List.getElem?_cons_succ] at d0 d1
  clear hk16 b17 bw16
  go_wp2_with fail
  refine (len_yes 1 _ 5 5 P5 w17 hp5 (by decide) 28 (by decide)).mono ?_
  rintro e w18 ⟨rfl, b18⟩
  have hk18 := hk17.up b18
  have bw18 := bw17.trans (b18.mono bw17.size)
  have hd18 := hd17.below b18 hdl
  have hp18 := hp17.up b18
  have d2 := hd18.cell 2
  have d3 := hd18.cell 3
  simp only [List.getElem?_toArray, List.getElem?_cons_zero, List.getElem?_cons_succ] at d2 d3
  clear hk17 b18 bw17 d0 d1
  go_wp2_with fail
  refine (len_yes 201 _ 17 c17 P17 w18 hp18 (by decide) 55 (by decide)).mono ?_
  rintro e w19 ⟨rfl, b19⟩
  have hk19 := hk18.up b19
  have bw19 := bw18.trans (b19.mono bw18.size)
  clear hk18 b19 bw18 d2 d3
  go_wp2_with fail
  refine (alive_mod w19).mono ?_
  rintro e w20 ⟨rfl, b20⟩
  have hk20 := hk19.up b20
  have bw20 := bw19.trans (b20.mono bw19.size)
  clear hk19 b20 bw19
  go_wp2_with fail
  refine (seven_any w20).mono ?_
  rintro e w21 ⟨⟨A21, rfl, hk21⟩, b21⟩
  have hx21 := hk20.up b21
  have bw21 := bw20.trans (b21.mono bw20.size)
  clear hk20 b21 bw20
  have hsm := rsame_any A6 A21 n6 1 c6 1 [sevenB] [sevenB] w21 hx21 hk21
  rw [decide_eq_true rfl] at hsm
  go_wp2_with fail
  refine hsm.mono ?_
  rintro e w22 ⟨rfl, b22⟩
  have bw22 := bw21.trans (b22.mono bw21.size)
  clear hsm b22 bw21
  go_wp2_with fail
  go_ret
  exact ⟨rfl, bw22⟩
end Go.Proofs.YtnnknnaimabehaaDoor
