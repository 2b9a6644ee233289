/- sha.mix. -/
import Derived.Test.YtjkhkgdijnhdmaaDoorShaWords
namespace Go.Proofs.YtjkhkgdijnhdmaaDoor
open Go.RowKit

/-- A state, as cells. -/
def stC (s : Sh.St) : Array Value := #[.int .u32 (s.a : Nat), .int .u32 (s.b : Nat), .int .u32 (s.c : Nat), .int .u32 (s.d : Nat), .int .u32 (s.e : Nat), .int .u32 (s.f : Nat), .int .u32 (s.g : Nat), .int .u32 (s.h : Nat)]
def st0 : Sh.St := ⟨0, 0, 0, 0, 0, 0, 0, 0⟩
theorem stC_one (s : Sh.St) : (stC s).all (·.oneCell') = true := by simp [stC, Value.oneCell']
theorem stInfo : (Tryd.prog.info? 26).map (fun i => (i.zero, i.size)) = some (some (.agg (stC st0)), 8) := by kernel_rfl
theorem stSize : (Tryd.prog.info? 26).map (·.size) = some 8 := by kernel_rfl
def kI : List Int := nI Sh.kTab
theorem kI_at (j : Nat) (h : j < 64) : kI.getD j 0 = (Sh.kTab.getD j 0 : Nat) := by
  have hl : j < Sh.kTab.length := h
  unfold kI nI
  rw [List.getD, List.getD, List.getElem?_map, List.getElem?_eq_getElem hl]
  rfl
theorem kTab_lt (j : Nat) : Sh.kTab.getD j 0 < 4294967296 := by
  rw [List.getD]
  cases e : Sh.kTab[j]? with
  | none => simp
  | some x =>
    have : ∀ x ∈ Sh.kTab, x < 4294967296 := by decide +kernel
    exact this x (List.mem_of_getElem? e)
theorem ok_parts {s : Sh.St} (h : s.ok) : s.a < 4294967296 ∧ s.b < 4294967296 ∧ s.c < 4294967296 ∧ s.d < 4294967296 ∧ s.e < 4294967296 ∧ s.f < 4294967296 ∧ s.g < 4294967296 ∧ s.h < 4294967296 := by
  have h' : ∀ y, y ∈ s.list → y < 4294967296 := h
  simpa [Sh.St.list] using h'
theorem index_words (W : List Nat) (j x : Nat) (hx : W[j]? = some x) (hj : j < 64) (w : World) : (Instr.index 69 (.agg (arrU W)) (.int .i64 j)).run Tryd.prog w = .ok (.int .u32 x) w := by
  have hc : (arrU W)[j]? = some (.int .u32 x) := arrU_at _ _ _ hx
  have e1 : (0 : Int) ≤ j ∧ (j : Int) < ((64 : Nat) : Int) := by omega
  have e2 := Tryd.sizeOf25
  have e3 := Tryd.isAgg25
  have e4 := run_underlying Tryd.underlying69
  simp [Instr.index, e4, asIntOf, e2, part, e3, hc, go_sem]
  omega
theorem Sig1_plain (x : Nat) (hx : x < 4294967296) : bits BinOp.xor IntKind.u32 (bits BinOp.xor IntKind.u32 ((Sh.rotr x 6 : Nat) : Int) ((Sh.rotr x 11 : Nat) : Int)) ((Sh.rotr x 25 : Nat) : Int) = ((Sh.Sig1 x : Nat) : Int) := by
  have h1 := Sh.rotr_lt x 6 hx
  have h2 := Sh.rotr_lt x 11 hx
  rw [u32_xor_nat _ _ h1 h2, u32_xor_nat _ _ (Sh.xor_lt h1 h2) (Sh.rotr_lt x 25 hx)]
  rfl
theorem Sig0_plain (x : Nat) (hx : x < 4294967296) : bits BinOp.xor IntKind.u32 (bits BinOp.xor IntKind.u32 ((Sh.rotr x 2 : Nat) : Int) ((Sh.rotr x 13 : Nat) : Int)) ((Sh.rotr x 22 : Nat) : Int) = ((Sh.Sig0 x : Nat) : Int) := by
  have h1 := Sh.rotr_lt x 2 hx
  have h2 := Sh.rotr_lt x 13 hx
  rw [u32_xor_nat _ _ h1 h2, u32_xor_nat _ _ (Sh.xor_lt h1 h2) (Sh.rotr_lt x 22 hx)]
  rfl
/-- The first j words added. -/
def mixed (s t : Sh.St) (j : Nat) : List Nat := (Sh.add s t).list.take j ++ t.list.drop j
theorem stC_arr (s : Sh.St) : stC s = arrU s.list := rfl
theorem mixed_at (s t : Sh.St) (j : Nat) (h : j < 8) : ∃ x y, s.list[j]? = some y ∧ (mixed s t j)[j]? = some x ∧ (mixed s t j).set j ((x + y) % 4294967296) = mixed s t (j + 1) ∧ x ∈ t.list ∧ y ∈ s.list := by
  have : j = 0 ∨ j = 1 ∨ j = 2 ∨ j = 3 ∨ j = 4 ∨ j = 5 ∨ j = 6 ∨ j = 7 := by omega
  rcases this with rfl | rfl | rfl | rfl | rfl | rfl | rfl | rfl <;> exact ⟨_, _, rfl, rfl, rfl, by simp [Sh.St.list], by simp [Sh.St.list]⟩
theorem mixed_len (s t : Sh.St) (j : Nat) (h : j ≤ 8) : (mixed s t j).length = 8 := by simp [mixed, Sh.St.list]; omega
theorem not_plain (e : Nat) (he : e < 4294967296) : 4294967295 ^^^ e = 4294967295 - e := by
  apply Nat.eq_of_testBit_eq
  intro i
  have h1 := Nat.testBit_two_pow_sub_succ (x := e) (n := 32) he i
  have h2 := Nat.testBit_two_pow_sub_one 32 i
  rw [show (2 : Nat) ^ 32 - (e + 1) = 4294967295 - e by omega] at h1
  rw [show (2 : Nat) ^ 32 - 1 = 4294967295 by rfl] at h2
  rw [Nat.testBit_xor, h1, h2]
  by_cases hi : i < 32
  · simp [hi]
  · have : e.testBit i = false := Nat.testBit_lt_two_pow (Nat.lt_of_lt_of_le (show e < 2 ^ 32 by omega) (Nat.pow_le_pow_right (by decide) (show 32 ≤ i by omega)))
    simp [hi, this]
theorem ch_plain (e f g : Nat) (he : e < 4294967296) (hf : f < 4294967296) (hg : g < 4294967296) : bits BinOp.xor IntKind.u32 (bits BinOp.and IntKind.u32 (e : Int) (f : Int)) (bits BinOp.and IntKind.u32 (bits BinOp.xor IntKind.u32 IntKind.u32.max (e : Int)) (g : Int)) = ((Sh.ch e f g : Nat) : Int) := by
  rw [show IntKind.u32.max = ((4294967295 : Nat) : Int) by rfl, u32_xor_nat _ _ (by omega) he, not_plain e he, u32_and_nat _ _ he hf, u32_and_nat _ _ (by omega) hg, u32_xor_nat _ _ (Sh.and_lt he) (Sh.and_lt (by omega))]
  rfl
theorem maj_plain (a b c : Nat) (ha : a < 4294967296) (hb : b < 4294967296) (hc : c < 4294967296) : bits BinOp.xor IntKind.u32 (bits BinOp.xor IntKind.u32 (bits BinOp.and IntKind.u32 (a : Int) (b : Int)) (bits BinOp.and IntKind.u32 (a : Int) (c : Int))) (bits BinOp.and IntKind.u32 (b : Int) (c : Int)) = ((Sh.maj a b c : Nat) : Int) := by
  rw [u32_and_nat _ _ ha hb, u32_and_nat _ _ ha hc, u32_and_nat _ _ hb hc, u32_xor_nat _ _ (Sh.and_lt ha) (Sh.and_lt ha), u32_xor_nat _ _ (Sh.xor_lt (Sh.and_lt ha) (Sh.and_lt ha)) (Sh.and_lt hb)]
  rfl
set_option maxRecDepth 100000 in
set_option maxHeartbeats 2000000 in
theorem mix_own (A : Option Addr) (cap : Nat) (s : Sh.St) (hs : s.ok) (bs : List Nat) (hl : bs.length = 64) (hb : ∀ x ∈ bs, x < 256) (hcap : 64 ≤ cap) (w : World) (hT : Tab w 1 .u32 kI) (hR : RdI w w.heap.size .u8 A (nI bs)) :
    Calls Tryd.prog 39 #[.agg (stC s), .slice A 64 cap] w fun e w' => e = .returned (.agg (stC (Sh.mix s bs))) ∧ Below w.heap.size w w' := by
  have HR := Lib.hid hR
  have HT := Lib.hid hT
  have hgk := hT.lt (by decide)
  clear hR hT
  have hsz : (Tryd.prog.info? 26).map (·.size) = some (stC s).size := stSize
  go_in
  obtain ⟨w3, hw3⟩ : ∃ w3, ((w.alloc (.cells (stC s) 26)).alloc (.cells (stC st0) 26)).alloc (.cells (stC st0) 26) = w3 := ⟨_, rfl⟩
  have hz3 : w3.heap.size = w.heap.size + 3 := by rw [← hw3]; simp
  have hX0 : Held w3 w.heap.size 26 (stC s) := by rw [← hw3]; exact ((Held.new w _ _).alloc _).alloc _
  have hX1 : Held w3 (w.heap.size + 1) 26 (stC st0) := by
    rw [← hw3]; have := Held.new (w.alloc (.cells (stC s) 26)) 26 (stC st0); rw [World.size_alloc] at this; exact this.alloc _
  have hX2 : Held w3 (w.heap.size + 1 + 1) 26 (stC st0) := by
    rw [← hw3]; have := Held.new ((w.alloc (.cells (stC s) 26)).alloc (.cells (stC st0) 26)) 26 (stC st0); rw [World.size_alloc, World.size_alloc] at this; exact this
  have hb3 : Below w.heap.size w w3 := by rw [← hw3]; exact (((Below.refl _ w).alloc (Nat.le_refl _) _).alloc (by simp) _).alloc (by simp; omega) _
  have HW3 := Lib.hid hw3
  clear hw3
  go_wp2_with (first
    | (refine wpList_load_row rfl 26 (.tmp 2) rfl w.heap.size rfl 26 (stC s) (0, 0) _ (heap_alloc2_old w _ _) Tryd.underlying26 rfl hsz ?_)
    | (rw [show ((w.alloc (.cells (stC s) 26)).alloc (.cells #[Value.int IntKind.u32 0, Value.int IntKind.u32 0, Value.int IntKind.u32 0, Value.int IntKind.u32 0, Value.int IntKind.u32 0, Value.int IntKind.u32 0, Value.int IntKind.u32 0, Value.int IntKind.u32 0] 26)).alloc (.cells #[Value.int IntKind.u32 0, Value.int IntKind.u32 0, Value.int IntKind.u32 0, Value.int IntKind.u32 0, Value.int IntKind.u32 0, Value.int IntKind.u32 0, Value.int IntKind.u32 0, Value.int IntKind.u32 0] 26) = w3 from HW3.out]
       refine wpList_store_row rfl 26 (.tmp 5) (.tmp 13) rfl (w.heap.size + 1 + 1) (stC s) rfl rfl 26 (stC st0) hX2 hsz rfl (stC_one _) ?_)
    | fail)
  obtain ⟨w4, hw4⟩ : ∃ w4, w3.setRow (w.heap.size + 1 + 1) (stC s) = w4 := ⟨_, rfl⟩
  rw [hw4]
  have hY0 : Held w4 w.heap.size 26 (stC s) := by rw [← hw4]; exact (setRow_other _ _ _ _ (by omega)).trans hX0
  have hY1 : Held w4 (w.heap.size + 1) 26 (stC st0) := by rw [← hw4]; exact (setRow_other _ _ _ _ (by omega)).trans hX1
  have hY2 : Held w4 (w.heap.size + 1 + 1) 26 (stC s) := by rw [← hw4]; exact setRow_heap _ _ _ _ _ _ hX2
  have hb4 : Below w.heap.size w w4 := by rw [← hw4]; exact below_setRow hb3 _ _ (by omega)
  have hz4 : w4.heap.size = w.heap.size + 3 := by rw [← hw4]; simp; omega
  clear hw4 hX0 hX1 hX2 HW3 hb3 hz3
  go_at_call 55
  refine (words_own A cap bs hl hb hcap w4 ((HR.out.below hb4).more (by omega))).mono ?_
  rintro e w5 ⟨rfl, hb5⟩
  have hb5' := hb4.trans (hb5.mono (by omega))
  have hZ0 := hY0.below hb5 (by omega)
  have hZ1 := hY1.below hb5 (by omega)
  have hZ2 := hY2.below hb5 (by omega)
  have hz5 : w.heap.size + 3 ≤ w5.heap.size := by have := hb5.size; omega
  clear hY0 hY1 hY2 hb4 hb5 hz4
  obtain ⟨W, hW⟩ : ∃ W, Sh.words bs 64 = W := ⟨_, rfl⟩
  have hWl : W.length = 64 := by rw [← hW]; exact Sh.words_len _ _
  have hWb : ∀ x ∈ W, x < 4294967296 := by rw [← hW]; exact Sh.words_lt bs hb 64
  have HM := Lib.hid (show Sh.mix s bs = Sh.add s (Sh.rounds W s 64) by rw [← hW]; rfl)
  rw [hW]
  have HS := Lib.hid hs
  clear hW hb hl hs hsz
  obtain ⟨R, hR⟩ : ∃ R, R = Sh.mix s bs := ⟨_, rfl⟩
  rw [← hR] at HM
  have HQ := Lib.hid hR
  clear hR
  go_wp2
  go_loopw [16] (fun i wr => ∃ (j : Nat), j ≤ 64 ∧ i = .int .i64 j ∧ Held wr w.heap.size 26 (stC s) ∧ Held wr (w.heap.size + 1) 26 (stC st0) ∧ Held wr (w.heap.size + 1 + 1) 26 (stC (Sh.rounds W s j)) ∧ Below w.heap.size w wr) (fun i _ => 64 - (intOf i).toNat)
  case atStart => exact ⟨0, by omega, rfl, hZ0, hZ1, hZ2, hb5'⟩
  case round =>
    clear hZ0 hZ1 hZ2 hb5'
    obtain ⟨j, hj, rfl, hX0, hX1, hX2, hbel⟩ := hrel
    by_cases hlt : j < 64
    · obtain ⟨x, hx⟩ : ∃ x, W[j]? = some x := ⟨_, List.getElem?_eq_getElem (by omega)⟩
      have hxl := hWb x (List.mem_of_getElem? hx)
      have hix := index_words W j x hx hlt
      have hkc := (hbel.cell (p := ⟨1, j, none⟩) hgk).trans (HT.out j (by show j < 64; omega))
      rw [kI_at j hlt] at hkc
      have hkl := kTab_lt j
      have HN := Lib.hid (show Sh.rounds W s (j + 1) = Sh.round (Sh.rounds W s j) (Sh.kTab.getD j 0) x by show Sh.round _ _ _ = _; rw [List.getD, List.getD, hx]; rfl)
      have hok := ok_parts (Sh.rounds_ok W s HS.out j)
      generalize Sh.rounds W s j = t at hX2 HN hok
      generalize Sh.kTab.getD j 0 = k at hkc hkl HN
      obtain ⟨qa, qb, qc, qd, qe, qf, qg, qh⟩ := t
      simp only at hok
      obtain ⟨ha, hb', hc, hd, he, hf, hg, hh⟩ := hok
      have d0 : wr.cell? ⟨w.heap.size + 1 + 1, 0, none⟩ = some (.int .u32 qa) := hX2.cell 0
      have d1 : wr.cell? ⟨w.heap.size + 1 + 1, 1, none⟩ = some (.int .u32 qb) := hX2.cell 1
      have d2 : wr.cell? ⟨w.heap.size + 1 + 1, 2, none⟩ = some (.int .u32 qc) := hX2.cell 2
      have d3 : wr.cell? ⟨w.heap.size + 1 + 1, 3, none⟩ = some (.int .u32 qd) := hX2.cell 3
      have d4 : wr.cell? ⟨w.heap.size + 1 + 1, 4, none⟩ = some (.int .u32 qe) := hX2.cell 4
      have d5 : wr.cell? ⟨w.heap.size + 1 + 1, 5, none⟩ = some (.int .u32 qf) := hX2.cell 5
      have d6 : wr.cell? ⟨w.heap.size + 1 + 1, 6, none⟩ = some (.int .u32 qg) := hX2.cell 6
      have d7 : wr.cell? ⟨w.heap.size + 1 + 1, 7, none⟩ = some (.int .u32 qh) := hX2.cell 7
      have R6 := Lib.hid (rot_6 qe he)
      have R11 := Lib.hid (rot_11 qe he)
      have R25 := Lib.hid (rot_25 qe he)
      have R2 := Lib.hid (rot_2 qa ha)
      have R13 := Lib.hid (rot_13 qa ha)
      have R22 := Lib.hid (rot_22 qa ha)
      have P1 := Lib.hid (Sig1_plain qe he)
      have P0 := Lib.hid (Sig0_plain qa ha)
      have PC := Lib.hid (ch_plain qe qf qg he hf hg)
      have PM := Lib.hid (maj_plain qa qb qc ha hb' hc)
      obtain ⟨X, hX⟩ : ∃ X, X = (qh + Sh.Sig1 qe + Sh.ch qe qf qg + k + x) % 4294967296 := ⟨_, rfl⟩
      obtain ⟨Y, hY⟩ : ∃ Y, Y = (Sh.Sig0 qa + Sh.maj qa qb qc) % 4294967296 := ⟨_, rfl⟩
      have EX := Lib.hid (show (((qh : Nat) : Int) + ((Sh.Sig1 qe : Nat) : Int) + ((Sh.ch qe qf qg : Nat) : Int) + (k : Int) + (x : Int)) % 4294967296 = (X : Int) by omega)
      have EY := Lib.hid (show (((Sh.Sig0 qa : Nat) : Int) + ((Sh.maj qa qb qc : Nat) : Int)) % 4294967296 = (Y : Int) by omega)
      have EZ := Lib.hid (show ((X : Int) + (Y : Int)) % 4294967296 = (((X + Y) % 4294967296 : Nat) : Int) by omega)
      have ED := Lib.hid (show ((qd : Int) + (X : Int)) % 4294967296 = (((qd + X) % 4294967296 : Nat) : Int) by omega)
      have HR2 := Lib.hid (show Sh.round ⟨qa, qb, qc, qd, qe, qf, qg, qh⟩ k x = ⟨(X + Y) % 4294967296, qa, qb, qc, (qd + X) % 4294967296, qe, qf, qg⟩ by subst hX hY; rfl)
      have HX := Lib.hid hX
      have HY := Lib.hid hY
      clear hx hWb hWl hX hY
      go_wp2
      go_quiet (fail)
      go_wp2
      go_quiet (first
        | (go_at_call 56; (with_reducible exact quiet_add_left (R6.out _)))
        | (go_at_call 56; (with_reducible exact quiet_add_left (R11.out _)))
        | (go_at_call 56; (with_reducible exact quiet_add_left (R25.out _))))
      go_wp2
      rw [P1.out, PC.out, EX.out]
      go_quiet (first
        | (go_at_call 56; (with_reducible exact quiet_add_left (R2.out _)))
        | (go_at_call 56; (with_reducible exact quiet_add_left (R13.out _)))
        | (go_at_call 56; (with_reducible exact quiet_add_left (R22.out _))))
      rw [P0.out, PM.out, EY.out]
      go_wp2_with (first
        | (rw [EZ.out])
        | (rw [ED.out])
        | (refine wpList_store_row rfl 26 (.tmp 5) (.tmp 95) rfl (w.heap.size + 1 + 1) (stC ⟨(X + Y) % 4294967296, qa, qb, qc, (qd + X) % 4294967296, qe, qf, qg⟩) rfl rfl 26 (stC ⟨qa, qb, qc, qd, qe, qf, qg, qh⟩) hX2 stSize rfl (stC_one _) ?_))
      refine ⟨⟨j + 1, by omega, by go_num, (setRow_other _ _ _ _ (by omega)).trans hX0, (setRow_other _ _ _ _ (by omega)).trans hX1, ?_, below_setRow (below_drewN hbel _) _ _ (by omega)⟩, by simp [intOf]; omega⟩
      rw [HN.out, HR2.out]
      exact setRow_heap _ _ _ _ _ _ hX2
    · obtain rfl : j = 64 := by omega
      have hok := Sh.rounds_ok W s HS.out 64
      generalize Sh.rounds W s 64 = t at hX2 HM hok
      have HK := Lib.hid hok
      clear hok hlt hj
      go_wp2
      go_loopw [97] (fun i wr => ∃ (j : Nat), j ≤ 8 ∧ i = .int .i64 j ∧ Held wr w.heap.size 26 (arrU s.list) ∧ Held wr (w.heap.size + 1) 26 (stC st0) ∧ Held wr (w.heap.size + 1 + 1) 26 (arrU (mixed s t j)) ∧ Below w.heap.size w wr) (fun i _ => 8 - (intOf i).toNat)
      case atStart => exact ⟨0, by omega, rfl, hX0, hX1, hX2, hbel⟩
      case round =>
        clear hX0 hX1 hX2 hbel
        obtain ⟨j, hj, rfl, hX0, hX1, hX2, hbel⟩ := hrel
        by_cases hlt : j < 8
        · obtain ⟨x, y, hy, hx, hset, hxm, hym⟩ := mixed_at s t j hlt
          have hxl : x < 4294967296 := HK.out x hxm
          have hyl : y < 4294967296 := HS.out y hym
          have c0 := (hX2.cell j).trans (arrU_at _ _ _ hx)
          have c1 := (hX0.cell j).trans (arrU_at _ _ _ hy)
          have hfz := hX2.frozen j
          have HE := Lib.hid hset
          have ES := Lib.hid (show ((x : Int) + (y : Int)) % 4294967296 = (((x + y) % 4294967296 : Nat) : Int) by omega)
          clear hset hx hy hxm hym
          go_wp2
          go_region
          rw [ES.out]
          go_wp2
          go_roundw
          case rel =>
            refine ⟨j + 1, by omega, by go_num, (hX0.far (by simp; omega) _).drew, (hX1.far (by simp) _).drew, ?_, (hbel.setCell (p := ⟨w.heap.size + 1 + 1, j, none⟩) (by simp; omega) _).drew⟩
            have := (hX2.set j (.int .u32 ((x + y) % 4294967296 : Nat))).drew
            rw [arrU_set, HE.out] at this
            exact this
          case measure => simp [intOf]; omega
        · obtain rfl : j = 8 := by omega
          have e8 : arrU (mixed s t 8) = stC R := by rw [HM.out]; rfl
          rw [e8] at hX2
          clear hlt hj
          go_wp2_with (first
            | (refine wpList_load_row rfl 26 (.tmp 5) rfl (w.heap.size + 1 + 1) rfl 26 (stC R) (0, 0) _ hX2 Tryd.underlying26 rfl stSize ?_)
            | (refine wpList_store_row rfl 26 (.tmp 4) (.tmp 109) rfl (w.heap.size + 1) (stC R) rfl rfl 26 (stC st0) hX1 stSize rfl (stC_one _) ?_))
          refine bodyPost_ret (v := .agg (stC R)) (results_cell_row Tryd.results39 _ _ (w.heap.size + 1) 26 (stC R) (0, 0) _ rfl (setRow_heap _ _ _ _ _ _ hX1) Tryd.underlying26 rfl stSize) rfl ⟨by rw [HQ.out], below_setRow hbel _ _ (by omega)⟩
end Go.Proofs.YtjkhkgdijnhdmaaDoor
