/- The poller's requests. -/
import Derived.Test.YtcipleanckeoaaaDoorPolC
import Derived.Test.YtcipleanckeoaaaDoorRtu
import Derived.Test.YtcipleanckeoaaaDoorPduBytes
namespace Go.Proofs.YtcipleanckeoaaaDoor
open Go.RowKit
attribute [local go_sem] Oper.semAt_some
set_option linter.unusedVariables false
set_option linter.unusedSimpArgs false
set_option maxRecDepth 100000
def PPt.ask (x : PPt) : AskP := ⟨x.fn, x.addr, 2, 0, [], []⟩
def PPt.ok (x : PPt) : Prop := (1 ≤ x.unit ∧ x.unit ≤ 247) ∧ (x.fn = 3 ∨ x.fn = 4) ∧ (1 ≤ x.order ∧ x.order ≤ 4) ∧ mayP x.ask = true
def PPt.out (x : PPt) : List Int := rtuL x.unit (bytesP x.ask)
theorem PPt.ask_len (x : PPt) (h : x.ok) : (bytesP x.ask).length = 5 := by
  obtain ⟨_, hf, _⟩ := h
  unfold bytesP PPt.ask
  rcases hf with hf | hf <;> simp [hf, twoI]
theorem PPt.ask_byte (x : PPt) (h : x.ok) : ∀ b ∈ bytesP x.ask, 0 ≤ b ∧ b < 256 := by
  obtain ⟨_, hf, _, hm⟩ := h
  have ha : 0 ≤ x.addr ∧ x.addr ≤ 65535 := by
    unfold mayP placeP PPt.ask at hm
    simp only [Bool.and_eq_true, decide_eq_true_eq] at hm
    omega
  intro b hb
  unfold bytesP PPt.ask at hb
  rcases hf with hf | hf <;> (simp [hf, twoI] at hb; omega)
set_option maxHeartbeats 1000000 in
theorem ask_any (x : PPt) (w : World) :
    Calls Tryd.prog 82 #[.agg #[.int .i64 x.unit, .int .i64 x.fn, .int .i64 x.addr, .int .i64 x.order]] w fun e w' => e = .returned (.agg #[.int .i64 x.fn, .int .i64 x.addr, .int .i64 2, .int .i64 0, .slice none 0 0, .slice none 0 0]) ∧ Below w.heap.size w w' := by
  go_in
  go_wp2
  exact bodyPost_ret (v := .agg #[.int .i64 x.fn, .int .i64 x.addr, .int .i64 2, .int .i64 0, .slice none 0 0, .slice none 0 0]) (by simp [results, Tryd.results82, go_sem]) rfl ⟨rfl, ((Below.refl _ w).alloc (Nat.le_refl _) _).alloc (by simp) _⟩
theorem LimT.bt {g gl : Nat} {A B : World} (h : LimT A) (hb : Bt g gl A B) (hG : 1 ≠ g ∧ 1 ≠ gl) : LimT B := fun j v hv => by
  have := h j v hv
  exact (World.cell?_of_block (hb.2 _ hG.1 hG.2 (World.block_lt_of_cell? A _ this))).trans this
/-- What Step tells, and does. -/
def StepPost (w : World) (g gl cap : Nat) (c : PCf) (r : PSt × Bool × Int) (e : Ending) (w' : World) : Prop :=
  ∃ A n cc, e = .returned (.tuple #[.slice A n cc, .int .i64 r.2.2, .int .i64 0]) ∧ (r.2.1 = true → n = 8 ∧ ∃ (k : Nat) (x : PPt), r.1.opn = k ∧ r.1.l[k]? = some x ∧ SlI w' w'.heap.size .u8 A n cc x.out ∧ ∀ a, A = some a → w.heap.size ≤ a.block) ∧ (r.2.1 = false → n = 0) ∧ PolAt w' g gl cap c r.1 ∧ Bt g gl w w'
set_option maxHeartbeats 4000000 in
theorem step_retry (g gl cap : Nat) (c : PCf) (s : PSt) (t : Int) (k : Nat) (x : PPt) (w : World) (hT : LimT w) (hG : 1 ≠ g ∧ 1 ≠ gl) (h : PolAt w g gl cap c s) (hn : 0 < s.l.length) (h1 : s.now ≤ t) (h2 : t ≤ 4611686018427387904) (hw : s.waits = false) (ha : s.at_ ≤ t) (ho : s.opn = k) (hx : s.l[k]? = some x) (hxo : x.ok) (htr : 0 ≤ s.tries ∧ s.tries ≤ 1000000) :
    Calls Tryd.prog 36 #[.pointer (some ⟨g, 0, none⟩), .int .i64 t] w (StepPost w g gl cap c (sentP { s with now := t } t, true, -1)) := by
  have HC := Lib.hid (comes_any g gl cap c s t w h hn h1 h2)
  have hk := (List.getElem?_eq_some_iff.1 hx).1
  have hkI : (k : Int) < (s.l.length : Int) := by omega
  have HX := Lib.hid hx
  have HXO := Lib.hid hxo
  have HO := Lib.hid ho
  have HW := Lib.hid hw
  have HT := Lib.hid hT
  have hlt := h.lt
  clear h hn hx hxo ho hw hT
  go_in
  go_wp2_with (go_at_call 79; refine HC.out.mono ?_; rintro e w1 ⟨rfl, hP1, b1⟩)
  have HP1 := Lib.hid hP1
  have HB1 := Lib.hid b1
  obtain ⟨c1, c2, c3, c4, c5, c6, c7, c8, c9, c10, c11, c12⟩ := hP1.cells
  rw [show ({ s with now := t } : PSt).waits = false from HW.out] at c11
  rw [show ({ s with now := t } : PSt).at_ = s.at_ from rfl] at c12
  rw [show ({ s with now := t } : PSt).opn = (k : Int) from HO.out] at c8
  rw [show ({ s with now := t } : PSt).tries = s.tries from rfl] at c10
  rw [show ({ s with now := t } : PSt).l = s.l from rfl] at c6
  have f10 := hP1.frozen 10
  have f11 := hP1.frozen 11
  have f12 := hP1.frozen 12
  have hl1 := hP1.lt
  have hd : decide (t < s.at_) = false := decide_eq_false (by omega)
  clear hP1 b1
  go_quiet (fail)
  go_wp2
  obtain ⟨V, hV⟩ : ∃ Y : World, (((w1.drewN nq).setCell ⟨g, 10, none⟩ (.int .i64 (s.tries + 1))).setCell ⟨g, 11, none⟩ (.bool true)).setCell ⟨g, 12, none⟩ (.int .i64 t) = Y := ⟨_, rfl⟩
  have hPV : PolAt V g gl cap c (sentP { s with now := t } t) := by
    rw [← hV]
    exact (((HP1.out.drewN nq).put 10 _ { s with now := t, tries := s.tries + 1 } rfl rfl).put 11 _ { s with now := t, tries := s.tries + 1, waits := true } rfl rfl).put 12 _ (sentP { s with now := t } t) rfl rfl
  have hBV : Bt g gl w V := by rw [← hV]; exact (((HB1.out.trans (Bt.of_below (below_drewN (Below.refl _ _) nq))).set _ _ (.inl rfl) _).set _ _ (.inl rfl) _).set _ _ (.inl rfl) _
  rw [hV]
  have HR := Lib.hid (show (sentP { s with now := t } t).opn = (k : Int) ∧ (sentP { s with now := t } t).l = s.l from ⟨HO.out, rfl⟩)
  obtain ⟨r, hr⟩ : ∃ r, sentP { s with now := t } t = r := ⟨_, rfl⟩
  rw [hr] at hPV HR ⊢
  have HRE := Lib.hid hr
  clear hV hr c1 c2 c3 c4 c5 c6 c7 c8 c9 c10 c11 c12 f10 f11 f12 hl1 hd HP1 HB1 HC HO HW
  obtain ⟨_, _, _, _, _, c6, _, c8, _⟩ := hPV.cells
  rw [HR.out.1] at c8
  rw [HR.out.2] at c6
  obtain ⟨x0, x1, x2, x3, _⟩ := hPV.point (k := k) (x := x) (by rw [HR.out.2]; exact HX.out)
  have hlV := hPV.lt
  have HPV := Lib.hid hPV
  have HBV := Lib.hid hBV
  clear hPV hBV
  go_region
  obtain ⟨V2, hV2⟩ : ∃ Y : World, (V.alloc (.cells #[.int .i64 x.unit, .int .i64 x.fn, .int .i64 x.addr, .int .i64 x.order] 143)).drew = Y := ⟨_, rfl⟩
  have hX2 : Held V2 V.heap.size 143 #[.int .i64 x.unit, .int .i64 x.fn, .int .i64 x.addr, .int .i64 x.order] := by rw [← hV2]; exact (Held.new _ _ _).drew
  have hb2 : Below V.heap.size V V2 := by rw [← hV2]; exact ((Below.refl _ _).alloc (Nat.le_refl _) _).drew
  rw [hV2]
  have y0 := hX2.cell 0
  have y1 := hX2.cell 1
  have y2 := hX2.cell 2
  have y3 := hX2.cell 3
  simp only [List.getElem?_toArray, List.getElem?_cons_zero, List.getElem?_cons_succ] at y0 y1 y2 y3
  clear hV2 x0 x1 x2 x3 c6 c8
  go_wp2_with (go_at_call 82; refine (ask_any x _).mono ?_; rintro e V3 ⟨rfl, hb3⟩)
  have hb23 := hb2.trans (hb3.mono hb2.size)
  have hX3 := hX2.below hb3 hX2.lt
  have hbt3 : Bt g gl w V3 := HBV.out.trans (Bt.of_below hb23)
  have hA : AskAt V3 (.agg #[.int .i64 x.fn, .int .i64 x.addr, .int .i64 2, .int .i64 0, .slice none 0 0, .slice none 0 0]) x.ask := ⟨none, 0, 0, none, 0, 0, rfl, SlB.nil _ _, SlI.nil _ _ _⟩
  refine (bytes_own _ x.ask V3 (HT.out.bt hbt3 hG) hA (fun z hz => by cases hz)).mono ?_
  rintro e V4 ⟨A4, n4, c4, rfl, hs4, hb4⟩
  have hm := HXO.out.2.2.2
  have hX4 := hX3.below hb4 hX3.lt
  have hb24 := hb23.trans (hb4.mono hb23.size)
  rw [hm]
  unfold askL at hs4
  rw [if_pos hm] at hs4
  obtain rfl : n4 = 5 := by rw [← hs4.1]; exact x.ask_len HXO.out
  have y0 := hX4.cell 0
  simp only [List.getElem?_toArray, List.getElem?_cons_zero] at y0
  have HS4 := Lib.hid hs4
  have HB24 := Lib.hid hb24
  clear hs4 hb24 hb23 hb4 hb3 hX4 hX3 hX2 hb2 hbt3 hA y1 y2 y3
  show _
  dsimp only [errV]
  go_wp2_with fail
  refine (rtu_any x.unit ⟨by have := HXO.out.1.1; omega, HXO.out.1.2⟩ A4 5 c4 (bytesP x.ask) V4 HS4.out (by omega) (x.ask_byte HXO.out)).mono ?_
  rintro e V5 ⟨A5, c5, rfl, hs5, hb5, hfr5⟩
  have hbF := HB24.out.trans (hb5.mono HB24.out.size)
  have hz24 := HB24.out.size
  have hzBV := HBV.out.size
  have HFR := Lib.hid (show ∀ a, A5 = some a → w.heap.size ≤ a.block from fun a e => by have := hfr5 a e; omega)
  have HF := Lib.hid (And.intro hs5 hbF)
  clear hs5 hbF hb5 y0 hfr5 hz24 hzBV
  go_wp2_with fail
  go_ret3
  rw [HRE.out]
  exact ⟨A5, 8, c5, rfl, fun _ => ⟨rfl, k, x, HR.out.1, by rw [HR.out.2]; exact HX.out, HF.out.1, HFR.out⟩, (fun h => by cases h), HPV.out.up HF.out.2, HBV.out.trans (Bt.of_below HF.out.2)⟩
end Go.Proofs.YtcipleanckeoaaaDoor
