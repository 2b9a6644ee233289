/- When there is something to do. -/
import Derived.Test.YtcipleanckeoaaaDoorPolF
namespace Go.Proofs.YtcipleanckeoaaaDoor
open Go.RowKit
attribute [local go_sem] Oper.semAt_some
set_option linter.unusedVariables false
set_option linter.unusedSimpArgs false
set_option maxRecDepth 100000
theorem if_max (a b : Int) : (if a < b then b else a) = max a b := by split <;> omega
set_option maxHeartbeats 4000000 in
theorem next_any (g gl cap : Nat) (c : PCf) (s : PSt) (w : World) (h : PolAt w g gl cap c s) (hn : 0 < s.l.length) (hl : s.l.length ≤ 1000) (hb : -9223372036854775808 ≤ s.at_ + c.tmo ∧ s.at_ + c.tmo ≤ 9223372036854775807) :
    Calls Tryd.prog 35 #[.pointer (some ⟨g, 0, none⟩)] w fun e w' => e = .returned (.tuple #[.int .i64 (nextP c s), .bool true]) ∧ Below w.heap.size w w' := by
  obtain ⟨c1, _, _, _, _, c6, c7, c8, _, _, c11, c12⟩ := h.cells
  have hz : ((s.l.length : Int) == 0) = false := beq_eq_false_iff_ne.2 (by omega)
  have hw : IntKind.i64.wrap (s.at_ + c.tmo) = s.at_ + c.tmo := i64_add_in _ _ hb.1 hb.2
  have hlt := h.lt
  have HM := Lib.hid (min_any g gl cap c s w h hn hl)
  unfold nextP
  clear h hn hl hb
  by_cases hwt : s.waits = true
  · rw [if_pos hwt]
    rw [hwt] at c11
    clear hwt
    obtain ⟨m, hm⟩ : ∃ m, max (s.at_ + c.tmo) s.now = m := ⟨_, rfl⟩
    rw [hm]
    have hm2 : (if s.at_ + c.tmo < s.now then s.now else s.at_ + c.tmo) = m := (if_max _ _).trans hm
    clear hm
    go_in
    go_wp2
    go_ret2
    exact ⟨rfl, Below.refl _ _⟩
  · rw [if_neg hwt]
    have hwf : s.waits = false := by simpa using hwt
    rw [hwf] at c11
    clear hwt hwf
    by_cases ho : s.opn < 0
    · rw [if_pos ho]
      obtain ⟨d, hd⟩ : ∃ d, minD s.l = d := ⟨_, rfl⟩
      rw [hd] at HM ⊢
      obtain ⟨m1, hm1⟩ : ∃ m, max s.at_ d = m := ⟨_, rfl⟩
      rw [hm1]
      obtain ⟨m, hm⟩ : ∃ m, max m1 s.now = m := ⟨_, rfl⟩
      rw [hm]
      have q1 : (if s.at_ < d then d else s.at_) = m1 := (if_max _ _).trans hm1
      have q2 : (if m1 < s.now then s.now else m1) = m := (if_max _ _).trans hm
      clear hd hm1 hm
      go_in
      go_wp2_with fail
      refine HM.out.mono ?_
      rintro e w1 ⟨⟨y, rfl, rfl⟩, hb1⟩
      have e7 := (hb1.cell (p := ⟨g, 7, none⟩) hlt.1).trans c7
      clear c7 c1 c6 c8 c11 c12
      have hz1 := hb1.size
      unfold PPt.arr
      have hg1 : g < w1.heap.size := by have := hlt.1; omega
      have HBB := Lib.hid hb1
      clear hb1 HM
      go_wp2_with fail
      go_ret2
      exact ⟨rfl, HBB.out.alloc HBB.out.size _⟩
    · rw [if_neg ho]
      have hof : decide (s.opn < 0) = false := decide_eq_false ho
      obtain ⟨m, hm⟩ : ∃ m, max s.at_ s.now = m := ⟨_, rfl⟩
      rw [hm]
      have q2 : (if s.at_ < s.now then s.now else s.at_) = m := (if_max _ _).trans hm
      clear hm ho
      go_in
      go_wp2
      go_ret2
      exact ⟨rfl, Below.refl _ _⟩
end Go.Proofs.YtcipleanckeoaaaDoor
