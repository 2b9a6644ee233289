/- The poller's Step: a turn begins; a try is too late. -/
import Derived.Test.YtcipleanckeoaaaDoorPolD
namespace Go.Proofs.YtcipleanckeoaaaDoor
open Go.RowKit
attribute [local go_sem] Oper.semAt_some
set_option linter.unusedVariables false
set_option linter.unusedSimpArgs false
set_option maxRecDepth 100000
set_option maxHeartbeats 4000000 in
theorem step_idle (g gl cap : Nat) (c : PCf) (hc : c.ok) (s : PSt) (t : Int) (k : Nat) (x : PPt) (w : World) (hT : LimT w) (hG : 1 ≠ g ∧ 1 ≠ gl) (h : PolAt w g gl cap c s) (hn : 0 < s.l.length) (hl : s.l.length ≤ 1000) (h0 : 0 ≤ s.now) (h1 : s.now ≤ t) (h2 : t ≤ 4611686018427387904) (hw : s.waits = false) (ha : s.at_ ≤ t) (ho : s.opn = -1) (hx : s.l[k]? = some x) (hxo : x.ok)
    (hbeg : beginP c { s with now := t } = (begunP c { s with now := t } k x, true)) (hB : ∀ (k : Nat) (x : PPt), s.l[k]? = some x → (0 ≤ x.fails ∧ x.fails ≤ 1000000) ∧ 0 ≤ x.turns ∧ x.turns ≤ 1000000) :
    Calls Tryd.prog 36 #[.pointer (some ⟨g, 0, none⟩), .int .i64 t] w (StepPost w g gl cap c (sentP (begunP c { s with now := t } k x) t, true, -1)) := by
  have HC := Lib.hid (comes_any g gl cap c s t w h hn h1 h2)
  have HBE := Lib.hid (fun (V : World) (hV : PolAt V g gl cap c { s with now := t }) => begin_any g gl cap c { s with now := t } V hV ho hl hc (show 0 ≤ t ∧ t ≤ 4611686018427387904 from ⟨by omega, h2⟩) hB)
  rw [hbeg] at HBE
  have hk := (List.getElem?_eq_some_iff.1 hx).1
  obtain ⟨y, hy⟩ : ∃ y : PPt, y = { x with due := t + c.per * 2 ^ (slowN c x).toNat, turns := x.turns + 1 } := ⟨_, rfl⟩
  have hyo : y.ok := by rw [hy]; exact hxo
  obtain ⟨l', hl'⟩ : ∃ l', s.l.set k y = l' := ⟨_, rfl⟩
  have hlx : l'[k]? = some y := by rw [← hl', List.getElem?_set_self hk]
  have hbg : (begunP c { s with now := t } k x).l = l' ∧ (begunP c { s with now := t } k x).opn = (k : Int) ∧ (begunP c { s with now := t } k x).tries = 0 ∧ (begunP c { s with now := t } k x).waits = s.waits ∧ (begunP c { s with now := t } k x).at_ = s.at_ := by
    refine ⟨?_, rfl, rfl, rfl, rfl⟩
    rw [← hl', hy]
    show s.l.set (k : Int).toNat _ = _
    rw [Int.toNat_natCast]
  have hkI : (k : Int) < (l'.length : Int) := by rw [← hl', List.length_set]; omega
  have HX := Lib.hid hlx
  have HXO := Lib.hid hyo
  have HO := Lib.hid ho
  have HW := Lib.hid hw
  have HT := Lib.hid hT
  have HBG := Lib.hid hbg
  have hlt := h.lt
  clear h hn hx hxo ho hw hT hlx hyo hbeg hB hl' hbg hc hy
  go_in
  go_wp2_with (go_at_call 79; refine HC.out.mono ?_; rintro e w1 ⟨rfl, hP1, b1⟩)
  have HP1 := Lib.hid hP1
  have HB1 := Lib.hid b1
  obtain ⟨c1, c2, c3, c4, c5, c6, c7, c8, c9, c10, c11, c12⟩ := hP1.cells
  rw [show ({ s with now := t } : PSt).waits = false from HW.out] at c11
  rw [show ({ s with now := t } : PSt).at_ = s.at_ from rfl] at c12
  rw [show ({ s with now := t } : PSt).opn = -1 from HO.out] at c8
  have hd : decide (t < s.at_) = false := decide_eq_false (by omega)
  clear hP1 b1
  go_quiet (fail)
  have HP1' := Lib.hid (HP1.out.drewN nq)
  have HB1' := Lib.hid (HB1.out.trans (Bt.of_below (below_drewN (Below.refl _ _) nq)))
  obtain ⟨wq, hwq⟩ : ∃ Y : World, w1.drewN nq = Y := ⟨_, rfl⟩
  have c8 : wq.cell? ⟨g, 8, none⟩ = some (.int .i64 (-1)) := by rw [← hwq]; exact c8
  have c11 : wq.cell? ⟨g, 11, none⟩ = some (.bool false) := by rw [← hwq]; exact c11
  have c12 : wq.cell? ⟨g, 12, none⟩ = some (.int .i64 s.at_) := by rw [← hwq]; exact c12
  rw [hwq] at HP1' HB1' ⊢
  clear HP1 HB1 hwq c1 c2 c3 c4 c5 c6 c7 c9 c10
  go_wp2_with (go_at_call 81; refine (HBE.out _ HP1'.out).mono ?_; rintro e w2 ⟨rfl, hP2, b2⟩; obtain ⟨d1, d2, d3, d4, d5, d6, d7, d8, d9, d10, d11, d12⟩ := hP2.cells; rw [HBG.out.2.2.1] at d10; have f10 := hP2.frozen 10; have f11 := hP2.frozen 11; have f12 := hP2.frozen 12; have hl1 := hP2.lt)
  obtain ⟨V, hV⟩ : ∃ Y : World, ((w2.setCell ⟨g, 10, none⟩ (.int .i64 1)).setCell ⟨g, 11, none⟩ (.bool true)).setCell ⟨g, 12, none⟩ (.int .i64 t) = Y := ⟨_, rfl⟩
  have hPV : PolAt V g gl cap c (sentP (begunP c { s with now := t } k x) t) := by
    rw [← hV]
    exact ((hP2.put 10 _ { begunP c { s with now := t } k x with tries := 1 } rfl rfl).put 11 _ { begunP c { s with now := t } k x with tries := 1, waits := true } rfl rfl).put 12 _ (sentP (begunP c { s with now := t } k x) t) rfl rfl
  have hBV : Bt g gl w V := by rw [← hV]; exact (((HB1'.out.trans b2).set _ _ (.inl rfl) _).set _ _ (.inl rfl) _).set _ _ (.inl rfl) _
  rw [hV]
  have HR := Lib.hid (show (sentP (begunP c { s with now := t } k x) t).opn = (k : Int) ∧ (sentP (begunP c { s with now := t } k x) t).l = l' from ⟨HBG.out.2.1, HBG.out.1⟩)
  obtain ⟨r, hr⟩ : ∃ r, sentP (begunP c { s with now := t } k x) t = r := ⟨_, rfl⟩
  rw [hr] at hPV HR ⊢
  have HRE := Lib.hid hr
  clear hV hr c8 c11 c12 d1 d2 d3 d4 d5 d6 d7 d8 d9 d10 d11 d12 f10 f11 f12 hl1 hd HP1' HB1' HC HO HW hP2 b2 HBE
  obtain ⟨_, _, _, _, _, c6, _, c8, _⟩ := hPV.cells
  rw [HR.out.1] at c8
  rw [HR.out.2] at c6
  obtain ⟨x0, x1, x2, x3, _⟩ := hPV.point (k := k) (x := y) (by rw [HR.out.2]; exact HX.out)
  have hlV := hPV.lt
  have HPV := Lib.hid hPV
  have HBV := Lib.hid hBV
  clear hPV hBV
  go_region
  obtain ⟨V2, hV2⟩ : ∃ Y : World, (V.alloc (.cells #[.int .i64 y.unit, .int .i64 y.fn, .int .i64 y.addr, .int .i64 y.order] 143)).drew = Y := ⟨_, rfl⟩
  have hX2 : Held V2 V.heap.size 143 #[.int .i64 y.unit, .int .i64 y.fn, .int .i64 y.addr, .int .i64 y.order] := by rw [← hV2]; exact (Held.new _ _ _).drew
  have hb2 : Below V.heap.size V V2 := by rw [← hV2]; exact ((Below.refl _ _).alloc (Nat.le_refl _) _).drew
  rw [hV2]
  have y0 := hX2.cell 0
  have y1 := hX2.cell 1
  have y2 := hX2.cell 2
  have y3 := hX2.cell 3
  simp only [List.getElem?_toArray, List.getElem?_cons_zero, List.getElem?_cons_succ] at y0 y1 y2 y3
  clear hV2 x0 x1 x2 x3 c6 c8
  go_wp2_with (go_at_call 82; refine (ask_any y _).mono ?_; rintro e V3 ⟨rfl, hb3⟩)
  have hb23 := hb2.trans (hb3.mono hb2.size)
  have hX3 := hX2.below hb3 hX2.lt
  have hbt3 : Bt g gl w V3 := HBV.out.trans (Bt.of_below hb23)
  have hA : AskAt V3 (.agg #[.int .i64 y.fn, .int .i64 y.addr, .int .i64 2, .int .i64 0, .slice none 0 0, .slice none 0 0]) y.ask := ⟨none, 0, 0, none, 0, 0, rfl, SlB.nil _ _, SlI.nil _ _ _⟩
  refine (bytes_own _ y.ask V3 (HT.out.bt hbt3 hG) hA (fun z hz => by cases hz)).mono ?_
  rintro e V4 ⟨A4, n4, c4, rfl, hs4, hb4⟩
  have hm := HXO.out.2.2.2
  have hX4 := hX3.below hb4 hX3.lt
  have hb24 := hb23.trans (hb4.mono hb23.size)
  rw [hm]
  unfold askL at hs4
  rw [if_pos hm] at hs4
  obtain rfl : n4 = 5 := by rw [← hs4.1]; exact y.ask_len HXO.out
  have y0 := hX4.cell 0
  simp only [List.getElem?_toArray, List.getElem?_cons_zero] at y0
  have HS4 := Lib.hid hs4
  have HB24 := Lib.hid hb24
  clear hs4 hb24 hb23 hb4 hb3 hX4 hX3 hX2 hb2 hbt3 hA y1 y2 y3
  show _
  dsimp only [errV]
  go_wp2_with fail
  refine (rtu_any y.unit ⟨by have := HXO.out.1.1; omega, HXO.out.1.2⟩ A4 5 c4 (bytesP y.ask) V4 HS4.out (by omega) (y.ask_byte HXO.out)).mono ?_
  rintro e V5 ⟨A5, c5, rfl, hs5, hb5, hfr5⟩
  have hbF := HB24.out.trans (hb5.mono HB24.out.size)
  have hz24 := HB24.out.size
  have hzBV := HBV.out.size
  have HFR := Lib.hid (show ∀ a, A5 = some a → w.heap.size ≤ a.block from fun a e => by have := hfr5 a e; omega)
  have HF := Lib.hid (And.intro hs5 hbF)
  clear hs5 hbF hb5 y0 hfr5 hz24 hzBV
  go_wp2_with fail
  go_ret3
  rw [HRE.out]
  exact ⟨A5, 8, c5, rfl, fun _ => ⟨rfl, k, y, HR.out.1, by rw [HR.out.2]; exact HX.out, HF.out.1, HFR.out⟩, (fun h => by cases h), HPV.out.up HF.out.2, HBV.out.trans (Bt.of_below HF.out.2)⟩
set_option maxHeartbeats 4000000 in
theorem step_late (g gl cap : Nat) (c : PCf) (s : PSt) (t : Int) (k : Nat) (x : PPt) (w : World) (h : PolAt w g gl cap c s) (hn : 0 < s.l.length) (h1 : s.now ≤ t) (h2 : t ≤ 4611686018427387904) (h0 : 0 ≤ s.now) (hc : c.ok) (hw : s.waits = true) (ha : s.at_ + c.tmo ≤ t) (ha0 : 0 ≤ s.at_) (ho : s.opn = k) (hx : s.l[k]? = some x) (hf : 0 ≤ x.fails ∧ x.fails ≤ 1000000) :
    Calls Tryd.prog 36 #[.pointer (some ⟨g, 0, none⟩), .int .i64 t] w (StepPost w g gl cap c ((failP c { s with now := t }).1, false, (failP c { s with now := t }).2)) := by
  have HC := Lib.hid (comes_any g gl cap c s t w h hn h1 h2)
  obtain ⟨⟨ct1, ct2⟩, ⟨cs1, cs2⟩, _⟩ := hc
  have HFA := Lib.hid (fun (V : World) (hV : PolAt V g gl cap c { s with now := t }) => fail_any g gl cap c { s with now := t } k x V hV ho hx (show -9223372036854775808 ≤ t + c.sil ∧ t + c.sil ≤ 9223372036854775807 by omega) hf)
  have HW := Lib.hid hw
  have hat : (failP c { s with now := t }).1.waits = false ∧ (failP c { s with now := t }).1.at_ = t + c.sil := by
    unfold failP
    rw [show ({ s with now := t } : PSt).l[({ s with now := t } : PSt).opn.toNat]? = some x by show s.l[s.opn.toNat]? = _; rw [ho]; exact hx]
    dsimp only
    split <;> exact ⟨rfl, rfl⟩
  have HAT := Lib.hid hat
  have hwr : IntKind.i64.wrap (s.at_ + c.tmo) = s.at_ + c.tmo := i64_add_in _ _ (by omega) (by omega)
  have hlt := h.lt
  have hd : decide (s.at_ + c.tmo ≤ t) = true := decide_eq_true ha
  have hd2 : decide (t < t + c.sil) = true := decide_eq_true (by omega)
  clear h hn hw hx ho hat
  go_in
  go_wp2_with (go_at_call 79; refine HC.out.mono ?_; rintro e w1 ⟨rfl, hP1, b1⟩)
  have HP1 := Lib.hid hP1
  have HB1 := Lib.hid b1
  obtain ⟨c1, c2, c3, c4, c5, c6, c7, c8, c9, c10, c11, c12⟩ := hP1.cells
  rw [show ({ s with now := t } : PSt).waits = true from HW.out] at c11
  rw [show ({ s with now := t } : PSt).at_ = s.at_ from rfl] at c12
  clear hP1 b1
  go_quiet (fail)
  have HP1' := Lib.hid (HP1.out.drewN nq)
  have HB1' := Lib.hid (HB1.out.trans (Bt.of_below (below_drewN (Below.refl _ _) nq)))
  obtain ⟨wq, hwq⟩ : ∃ Y : World, w1.drewN nq = Y := ⟨_, rfl⟩
  rw [hwq] at HP1' HB1' ⊢
  clear HP1 HB1 hwq c1 c2 c3 c4 c5 c6 c7 c8 c9 c10 c11 c12 hwr hd
  go_wp2_with (go_at_call 80; refine (HFA.out _ HP1'.out).mono ?_; rintro e w2 ⟨rfl, hP2, b2⟩; obtain ⟨d1, d2, d3, d4, d5, d6, d7, d8, d9, d10, d11, d12⟩ := hP2.cells; rw [HAT.out.1] at d11; rw [HAT.out.2] at d12; have HP2 := Lib.hid hP2; have HB2 := Lib.hid (HB1'.out.trans b2); clear hP2 b2)
  go_ret3
  exact ⟨none, 0, 0, rfl, (fun h => by cases h), fun _ => rfl, HP2.out, HB2.out⟩
end Go.Proofs.YtcipleanckeoaaaDoor
