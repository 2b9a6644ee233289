/- The poller's Check. -/
import Derived.Test.YtcipleanckeoaaaDoorPolD
import Derived.Test.YtcipleanckeoaaaDoorPduCheck
namespace Go.Proofs.YtcipleanckeoaaaDoor
open Go.RowKit
attribute [local go_sem] Oper.semAt_some
set_option linter.unusedVariables false
set_option linter.unusedSimpArgs false
set_option maxRecDepth 100000
def okPB (x : PPt) : Bool := decide (1 ≤ x.unit ∧ x.unit ≤ 247) && decide (x.fn = 3 ∨ x.fn = 4) && decide (1 ≤ x.order ∧ x.order ≤ 4) && mayP x.ask
theorem okPB_iff (x : PPt) : okPB x = true ↔ x.ok := by
  unfold okPB PPt.ok
  simp only [Bool.and_eq_true, decide_eq_true_eq]
  constructor
  · rintro ⟨⟨⟨a, b⟩, d⟩, e⟩; exact ⟨a, b, d, e⟩
  · rintro ⟨a, b, d, e⟩; exact ⟨⟨⟨a, b⟩, d⟩, e⟩
/-- A slice of points to poll. -/
def PtsI (W : World) (B : Nat) (A : Option Addr) (n c : Nat) (ps : List PPt) : Prop :=
  ps.length = n ∧ n ≤ c ∧ c ≤ maxLen ∧ (0 < n → ∃ g off, A = some ⟨g, off, none⟩ ∧ g < B ∧ ∀ (i : Nat) (x : PPt), ps[i]? = some x → W.cell? ⟨g, off + i * 4, none⟩ = some (.int .i64 x.unit) ∧ W.cell? ⟨g, off + i * 4 + 1, none⟩ = some (.int .i64 x.fn) ∧ W.cell? ⟨g, off + i * 4 + 2, none⟩ = some (.int .i64 x.addr) ∧ W.cell? ⟨g, off + i * 4 + 3, none⟩ = some (.int .i64 x.order))
theorem PtsI.up {w w' : World} {A : Option Addr} {n c : Nat} {ps : List PPt} (h : PtsI w w.heap.size A n c ps) (hb : Below w.heap.size w w') : PtsI w' w'.heap.size A n c ps := by
  obtain ⟨h1, h2, h3, h5⟩ := h
  refine ⟨h1, h2, h3, fun hn => ?_⟩
  obtain ⟨g, off, e, hg, hc⟩ := h5 hn
  refine ⟨g, off, e, Nat.lt_of_lt_of_le hg hb.size, fun i b hi => ?_⟩
  obtain ⟨k1, k2, k3, k4⟩ := hc i b hi
  exact ⟨(hb.cell (p := ⟨g, off + i * 4, none⟩) hg).trans k1, (hb.cell (p := ⟨g, off + i * 4 + 1, none⟩) hg).trans k2, (hb.cell (p := ⟨g, off + i * 4 + 2, none⟩) hg).trans k3, (hb.cell (p := ⟨g, off + i * 4 + 3, none⟩) hg).trans k4⟩
set_option maxHeartbeats 2000000 in
theorem notok_any (x : PPt) (w : World) (hT : LimT w) :
    Calls Tryd.prog 108 #[.agg #[.int .i64 x.unit, .int .i64 x.fn, .int .i64 x.addr, .int .i64 x.order]] w fun e w' => e = .returned (.bool (!okPB x)) ∧ Below w.heap.size w w' := by
  obtain ⟨w1, hw1⟩ : ∃ W, w.alloc (.cells #[.int .i64 x.unit, .int .i64 x.fn, .int .i64 x.addr, .int .i64 x.order] 143) = W := ⟨_, rfl⟩
  have hb1 : Below w.heap.size w w1 := by rw [← hw1]; exact (Below.refl _ w).alloc (Nat.le_refl _) _
  have hK1 : Held w1 w.heap.size 143 #[.int .i64 x.unit, .int .i64 x.fn, .int .i64 x.addr, .int .i64 x.order] := by rw [← hw1]; exact Held.new w _ _
  have k0 := hK1.cell 0
  have k1 := hK1.cell 1
  have k2 := hK1.cell 2
  have k3 := hK1.cell 3
  have hk := hK1.lt
  have HA := Lib.hid (ask_any x w1)
  have HT := Lib.hid (hT.up hb1)
  obtain ⟨R, hR⟩ : ∃ R, (!okPB x) = R := ⟨_, rfl⟩
  have HR := Lib.hid hR
  rw [hR]
  clear hT hR hK1
  by_cases u1 : x.unit < 1
  · obtain rfl : R = true := by rw [← HR.out]; unfold okPB; rw [decide_eq_false (by omega)]; rfl
    go_in
    go_wp2_with fail
    go_ret
    exact ⟨rfl, hb1⟩
  by_cases u2 : 247 < x.unit
  · obtain rfl : R = true := by rw [← HR.out]; unfold okPB; rw [decide_eq_false (by omega)]; rfl
    go_in
    go_wp2_with fail
    go_ret
    exact ⟨rfl, hb1⟩
  by_cases f0 : x.fn = 3 ∨ x.fn = 4
  case neg =>
    obtain rfl : R = true := by rw [← HR.out]; unfold okPB; rw [decide_eq_false f0]; simp
    have f1 : (x.fn != 3) = true := by simp; omega
    have f2 : (x.fn != 4) = true := by simp; omega
    go_in
    go_wp2_with fail
    go_ret
    exact ⟨rfl, hb1⟩
  case pos =>
    have key : (x.order < 1 ∨ 4 < x.order → R = true) ∧ ((1 ≤ x.order ∧ x.order ≤ 4) → R = !mayP x.ask) := by
      rw [← HR.out]; unfold okPB
      rw [decide_eq_true f0, decide_eq_true (show 1 ≤ x.unit ∧ x.unit ≤ 247 by omega)]
      exact ⟨fun h => by rw [decide_eq_false (by omega)]; rfl, fun h => by rw [decide_eq_true h]; rfl⟩
    have HKEY := Lib.hid key
    have HAT : Hid (∀ W, AskAt W (.agg #[.int .i64 x.fn, .int .i64 x.addr, .int .i64 2, .int .i64 0, .slice none 0 0, .slice none 0 0]) x.ask) := Lib.hid (fun W => ⟨none, 0, 0, none, 0, 0, rfl, SlB.nil _ _, SlI.nil _ _ _⟩)
    clear key
    by_cases o1 : x.order < 1
    · obtain rfl : R = true := HKEY.out.1 (.inl o1)
      rcases f0 with f0 | f0 <;> rw [f0] at k1 <;> (clear f0; go_in; go_wp2_with fail; go_ret; exact ⟨rfl, hb1⟩)
    by_cases o2 : 4 < x.order
    · obtain rfl : R = true := HKEY.out.1 (.inr o2)
      rcases f0 with f0 | f0 <;> rw [f0] at k1 <;> (clear f0; go_in; go_wp2_with fail; go_ret; exact ⟨rfl, hb1⟩)
    obtain rfl : R = !mayP x.ask := HKEY.out.2 (by omega)
    obtain ⟨fv, hfv⟩ : ∃ v, x.fn = v := ⟨_, rfl⟩
    have HF := Lib.hid hfv
    obtain ⟨b, hb⟩ : ∃ b, mayP x.ask = b := ⟨_, rfl⟩
    have HMB := Lib.hid hb
    rw [hb]
    rw [hfv] at f0 k1
    clear hb hfv
    have fin : ∀ w2 w3, Below w1.heap.size w1 w2 → Below w2.heap.size w2 w3 → Below w.heap.size w w3 := fun w2 w3 q1 q2 => hb1.trans ((q1.trans (q2.mono q1.size)).mono hb1.size)
    have FIN := Lib.hid fin
    clear fin
    rcases f0 with rfl | rfl <;> cases b <;> (
      go_in
      go_wp2_with (first | (go_at_call 82; rw [← HF.out]; refine HA.out.mono ?_; rintro e w2 ⟨rfl, hb2⟩; have HB2 := Lib.hid hb2; clear hb2) | (go_at_call 61; refine (check_own _ x.ask w2 (HT.out.up HB2.out) (HAT.out w2)).mono ?_; rw [HMB.out]; rintro e w3 ⟨rfl, hb3⟩; have HB3 := Lib.hid hb3; clear hb3; dsimp only [errV]))
      go_ret
      exact ⟨rfl, FIN.out w2 w3 HB2.out HB3.out⟩)
set_option maxHeartbeats 1000000 in
theorem idxp_any (A : Option Addr) (n c : Nat) (ps : List PPt) (w : World) (hT : LimT w) (hD : PtsI w w.heap.size A n c ps) :
    Calls Tryd.prog 138 #[.slice A n c, .func (.func 108) #[] #[]] w fun e w' => (∃ v : Int, e = .returned (.int .i64 v) ∧ ((v = -1 ∧ ∀ x ∈ ps, okPB x = true) ∨ (0 ≤ v ∧ ∃ x ∈ ps, okPB x = false))) ∧ Below w.heap.size w w' := by
  have hl := hD.1
  have hm : n ≤ maxLen := Nat.le_trans hD.2.1 hD.2.2.1
  unfold maxLen at hm
  have HD := Lib.hid (fun (X : World) (h : Below w.heap.size w X) => hD.up h)
  have HT := Lib.hid (fun (X : World) (h : Below w.heap.size w X) => hT.up h)
  have HL := Lib.hid hl
  have hcf1 := fun (xs : Array Value) (W : World) => (enters_of Tryd.func108 (by kernel_rfl) rfl xs W : (callFunc 108 xs).run Tryd.prog W = .ok (.enter 108 xs) W)
  clear hD hl hT
  go_in
  go_wp2
  go_loopw [8] (fun s8 wx => ∃ (j : Nat), j ≤ n ∧ s8 = .int .i64 j ∧ (∀ (k : Nat) (e : PPt), k < j → ps[k]? = some e → okPB e = true) ∧ Below w.heap.size w wx) (fun s8 _ => n - (intOf s8).toNat)
  case atStart => exact ⟨0, Nat.zero_le _, rfl, fun k e hk => absurd hk (by omega), Below.refl _ _⟩
  case round =>
    obtain ⟨j, hj, rfl, hno, hbr⟩ := hrel
    have HNO := Lib.hid hno
    clear hno
    by_cases hlt : j < n
    · obtain ⟨x, hd⟩ : ∃ d, ps[j]? = some d := ⟨_, List.getElem?_eq_getElem (by rw [HL.out]; exact hlt)⟩
      obtain ⟨g, off, rfl, hg, hc⟩ := (HD.out wr hbr).2.2.2 (by omega)
      obtain ⟨c0, c1, c2, c3⟩ := hc j _ hd
      have HDJ := Lib.hid hd
      have hltI : (j : Int) < (n : Int) := by omega
      have HC := Lib.hid (notok_any x wr (HT.out wr hbr))
      clear hc hd
      obtain ⟨b, hb⟩ : ∃ b, okPB x = b := ⟨_, rfl⟩
      have HB := Lib.hid hb
      rw [hb] at HC
      clear hb
      cases b
      · go_wp2_with fail
        refine HC.out.mono ?_
        rintro e w2 ⟨rfl, hb2⟩
        go_wp2_with fail
        go_ret
        exact ⟨⟨_, rfl, .inr ⟨by omega, x, List.mem_of_getElem? HDJ.out, HB.out⟩⟩, hbr.trans (hb2.mono hbr.size)⟩
      · go_wp2_with fail
        refine HC.out.mono ?_
        rintro e w2 ⟨rfl, hb2⟩
        go_wp2_with fail
        go_roundw
        case rel => exact ⟨j + 1, by omega, by go_num, fun k e hk hke => by
          rcases Nat.lt_or_ge k j with h | h
          · exact HNO.out k e h hke
          · obtain rfl : k = j := by omega
            rw [HDJ.out] at hke
            injection hke with hke
            rw [← hke]
            exact HB.out, hbr.trans (hb2.mono hbr.size)⟩
        case measure => simp [intOf]; omega
    · obtain rfl : j = n := by omega
      go_wp2
      go_ret
      exact ⟨⟨_, rfl, .inl ⟨rfl, fun x hx => by
        obtain ⟨k, hk, he⟩ := List.mem_iff_getElem.1 hx
        exact HNO.out k x (by rw [← HL.out]; exact hk) (by rw [List.getElem?_eq_getElem hk, he])⟩⟩, hbr⟩
set_option maxHeartbeats 1000000 in
theorem contp_any (A : Option Addr) (n c : Nat) (ps : List PPt) (w : World) (hT : LimT w) (hD : PtsI w w.heap.size A n c ps) :
    Calls Tryd.prog 109 #[.slice A n c, .func (.func 108) #[] #[]] w fun e w' => (∃ b : Bool, e = .returned (.bool b) ∧ (b = false ↔ ∀ x ∈ ps, okPB x = true)) ∧ Below w.heap.size w w' := by
  have HI := Lib.hid (idxp_any A n c ps w hT hD)
  clear hD hT
  go_in
  go_wp2_with fail
  refine HI.out.mono ?_
  rintro e w2 ⟨⟨v, rfl, hv⟩, hb2⟩
  rcases hv with ⟨rfl, hv⟩ | ⟨h0, x, hx, hxf⟩
  · have HV := Lib.hid hv
    clear hv
    go_wp2_with fail
    go_ret
    exact ⟨⟨_, rfl, by simpa using HV.out⟩, hb2⟩
  · have HX := Lib.hid (And.intro hx hxf)
    clear hx hxf
    go_wp2_with fail
    go_ret
    exact ⟨⟨_, rfl, by
      constructor
      · intro q; simp at q
      · intro q; have := q x HX.out.1; rw [HX.out.2] at this; cases this⟩, hb2⟩
end Go.Proofs.YtcipleanckeoaaaDoor
