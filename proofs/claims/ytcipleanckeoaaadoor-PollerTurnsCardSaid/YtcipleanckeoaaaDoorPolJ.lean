/- The poller's Check, whole. -/
import Derived.Test.YtcipleanckeoaaaDoorPolI
namespace Go.Proofs.YtcipleanckeoaaaDoor
open Go.RowKit
attribute [local go_sem] Oper.semAt_some
set_option linter.unusedVariables false
set_option linter.unusedSimpArgs false
set_option maxRecDepth 100000
def durB (v : Int) : Bool := decide (1 ≤ v) && decide (v ≤ 4294967296)
theorem dur_any (v : Int) (w : World) : Calls Tryd.prog 107 #[.int .i64 v] w fun e w' => e = .returned (.bool (durB v)) ∧ w' = w := by
  by_cases h1 : 1 ≤ v
  · obtain ⟨b, hb⟩ : ∃ b, decide (v ≤ 4294967296) = b := ⟨_, rfl⟩
    have e : durB v = b := by unfold durB; rw [decide_eq_true h1, hb]; rfl
    rw [e]
    clear e
    go_in
    go_wp2
    go_ret
    exact ⟨rfl, rfl⟩
  · have e : durB v = false := by unfold durB; rw [decide_eq_false h1]; rfl
    rw [e]
    clear e
    go_in
    go_wp2
    go_ret
    exact ⟨rfl, rfl⟩
def polB (c : PCf) (ps : List PPt) : Prop := c.ok ∧ 1 ≤ ps.length ∧ ps.length ≤ 64 ∧ ∀ x ∈ ps, x.ok
def chkV (b : Bool) : Int := if b = true then 0 else 230
/-- What Check tells. -/
def PcPost (w : World) (c : PCf) (ps : List PPt) (e : Ending) (w' : World) : Prop := (∃ b : Bool, e = .returned (.int .i64 (chkV b)) ∧ (b = true ↔ polB c ps)) ∧ Below w.heap.size w w'
def polC0 (A : Option Addr) (n cp : Nat) (c : PCf) : Array Value := #[.slice A n cp, .int .i64 c.tmo, .int .i64 c.sil, .int .i64 c.ret, .int .i64 c.per, .int .i64 c.fls]
set_option maxHeartbeats 16000000 in
theorem pcheck_any (A : Option Addr) (n cp : Nat) (c : PCf) (ps : List PPt) (w : World) (hT : LimT w) (hD : PtsI w w.heap.size A n cp ps) :
    Calls Tryd.prog 76 #[.agg (polC0 A n cp c)] w (PcPost w c ps) := by
  obtain ⟨w1, hw1⟩ : ∃ W, w.alloc (.cells (polC0 A n cp c) 75) = W := ⟨_, rfl⟩
  have hb1 : Below w.heap.size w w1 := by rw [← hw1]; exact (Below.refl _ w).alloc (Nat.le_refl _) _
  have hK1 : Held w1 w.heap.size 75 (polC0 A n cp c) := by rw [← hw1]; exact Held.new w _ _
  have HC := Lib.hid (contp_any A n cp ps w1 (hT.up hb1) (hD.up hb1))
  have hl := hD.1
  have HL := Lib.hid hl
  have hm : n ≤ maxLen := Nat.le_trans hD.2.1 hD.2.2.1
  unfold maxLen at hm
  have HNO : Hid (∀ (Q : Prop), ¬ Q → (polB c ps → Q) → ((false : Bool) = true ↔ polB c ps)) := Lib.hid (fun Q q1 q2 => ⟨(fun e => by cases e), fun e => absurd (q2 e) q1⟩)
  have HK := Lib.hid hK1
  have k0 := hK1.cell 0
  have hk := hK1.lt
  have hcf1 := fun (xs : Array Value) (W : World) => (enters_of Tryd.func107 (by kernel_rfl) rfl xs W : (callFunc 107 xs).run Tryd.prog W = .ok (.enter 107 xs) W)
  have hcf2 := fun (xs : Array Value) (W : World) => (enters_of Tryd.func108 (by kernel_rfl) rfl xs W : (callFunc 108 xs).run Tryd.prog W = .ok (.enter 108 xs) W)
  clear hT hD hK1
  unfold polC0 at hw1 k0 ⊢
  by_cases n1 : n < 1
  · have n1' : (n : Int) < 1 := by omega
    go_in
    go_wp2_with fail
    go_ret
    exact ⟨⟨false, rfl, HNO.out (1 ≤ ps.length) (by rw [HL.out]; omega) (fun h => h.2.1)⟩, hb1⟩
  by_cases n2 : 64 < n
  · have n1' : ¬ (n : Int) < 1 := by omega
    have n2' : (64 : Int) < n := by omega
    go_in
    go_wp2_with fail
    go_ret
    exact ⟨⟨false, rfl, HNO.out (ps.length ≤ 64) (by rw [HL.out]; omega) (fun h => h.2.2.1)⟩, hb1⟩
  have n1' : ¬ (n : Int) < 1 := by omega
  have n2' : ¬ (64 : Int) < n := by omega
  go_in
  go_wp2_with fail
  refine HC.out.mono ?_
  rintro e w2 ⟨⟨b, rfl, hb⟩, hb2⟩
  have HB := Lib.hid hb
  have hbb := hb1.trans (hb2.mono hb1.size)
  clear hb
  cases b with
  | true =>
    go_wp2_with fail
    go_ret
    exact ⟨⟨false, rfl, HNO.out (∀ x ∈ ps, okPB x = true) (fun q => by have := HB.out.2 q; cases this) (fun h x hx => (okPB_iff x).2 (h.2.2.2 x hx))⟩, hbb⟩
  | false =>
    have hK2 := HK.out.below hb2 HK.out.lt
    have k1 := hK2.cell 1
    have k2 := hK2.cell 2
    have k3 := hK2.cell 3
    have k4 := hK2.cell 4
    have k5 := hK2.cell 5
    have hk2 := hK2.lt
    unfold polC0 at k1 k2 k3 k4 k5
    have HK2 := Lib.hid hK2
    clear hK2 k0 hw1
    have D1 := Lib.hid (dur_any c.tmo w2)
    have D2 := Lib.hid (dur_any c.sil w2)
    have D4 := Lib.hid (dur_any c.per w2)
    obtain ⟨b1, e1⟩ : ∃ b, durB c.tmo = b := ⟨_, rfl⟩
    obtain ⟨b2, e2⟩ : ∃ b, durB c.sil = b := ⟨_, rfl⟩
    obtain ⟨b4, e4⟩ : ∃ b, durB c.per = b := ⟨_, rfl⟩
    have E1 := Lib.hid e1
    have E2 := Lib.hid e2
    have E4 := Lib.hid e4
    rw [e1] at D1
    rw [e2] at D2
    rw [e4] at D4
    clear e1 e2 e4
    have dur : ∀ v, durB v = true ↔ (1 ≤ v ∧ v ≤ 4294967296) := fun v => by unfold durB; simp
    have HDU := Lib.hid dur
    clear dur
    cases b1 with
    | false =>
      go_wp2_with fail
      refine D1.out.mono ?_
      rintro e w3 ⟨rfl, rfl⟩
      go_wp2_with fail
      go_ret
      exact ⟨⟨false, rfl, HNO.out (durB c.tmo = true) (by rw [E1.out]; decide) (fun h => (HDU.out _).2 h.1.1)⟩, hbb⟩
    | true =>
    cases b2 with
    | false =>
      go_wp2_with fail
      refine D1.out.mono ?_
      rintro e w3 ⟨rfl, rfl⟩
      go_wp2_with fail
      refine D2.out.mono ?_
      rintro e w3 ⟨rfl, rfl⟩
      go_wp2_with fail
      go_ret
      exact ⟨⟨false, rfl, HNO.out (durB c.sil = true) (by rw [E2.out]; decide) (fun h => (HDU.out _).2 h.1.2.1)⟩, hbb⟩
    | true =>
    cases b4 with
    | false =>
      go_wp2_with fail
      refine D1.out.mono ?_
      rintro e w3 ⟨rfl, rfl⟩
      go_wp2_with fail
      refine D2.out.mono ?_
      rintro e w3 ⟨rfl, rfl⟩
      go_wp2_with fail
      refine D4.out.mono ?_
      rintro e w3 ⟨rfl, rfl⟩
      go_wp2_with fail
      go_ret
      exact ⟨⟨false, rfl, HNO.out (durB c.per = true) (by rw [E4.out]; decide) (fun h => (HDU.out _).2 h.1.2.2.2.1)⟩, hbb⟩
    | true =>
    by_cases r1 : c.ret < 0
    · go_wp2_with fail
      refine D1.out.mono ?_
      rintro e w3 ⟨rfl, rfl⟩
      go_wp2_with fail
      refine D2.out.mono ?_
      rintro e w3 ⟨rfl, rfl⟩
      go_wp2_with fail
      refine D4.out.mono ?_
      rintro e w3 ⟨rfl, rfl⟩
      go_wp2_with fail
      go_ret
      exact ⟨⟨false, rfl, HNO.out (0 ≤ c.ret) (by omega) (fun h => h.1.2.2.1.1)⟩, hbb⟩
    by_cases r2 : 10 < c.ret
    · go_wp2_with fail
      refine D1.out.mono ?_
      rintro e w3 ⟨rfl, rfl⟩
      go_wp2_with fail
      refine D2.out.mono ?_
      rintro e w3 ⟨rfl, rfl⟩
      go_wp2_with fail
      refine D4.out.mono ?_
      rintro e w3 ⟨rfl, rfl⟩
      go_wp2_with fail
      go_ret
      exact ⟨⟨false, rfl, HNO.out (c.ret ≤ 10) (by omega) (fun h => h.1.2.2.1.2)⟩, hbb⟩
    by_cases f1 : c.fls < 1
    · go_wp2_with fail
      refine D1.out.mono ?_
      rintro e w3 ⟨rfl, rfl⟩
      go_wp2_with fail
      refine D2.out.mono ?_
      rintro e w3 ⟨rfl, rfl⟩
      go_wp2_with fail
      refine D4.out.mono ?_
      rintro e w3 ⟨rfl, rfl⟩
      go_wp2_with fail
      go_ret
      exact ⟨⟨false, rfl, HNO.out (1 ≤ c.fls) (by omega) (fun h => h.1.2.2.2.2.1)⟩, hbb⟩
    by_cases f2 : 100 < c.fls
    · go_wp2_with fail
      refine D1.out.mono ?_
      rintro e w3 ⟨rfl, rfl⟩
      go_wp2_with fail
      refine D2.out.mono ?_
      rintro e w3 ⟨rfl, rfl⟩
      go_wp2_with fail
      refine D4.out.mono ?_
      rintro e w3 ⟨rfl, rfl⟩
      go_wp2_with fail
      go_ret
      exact ⟨⟨false, rfl, HNO.out (c.fls ≤ 100) (by omega) (fun h => h.1.2.2.2.2.2)⟩, hbb⟩
    go_wp2_with fail
    refine D1.out.mono ?_
    rintro e w3 ⟨rfl, rfl⟩
    go_wp2_with fail
    refine D2.out.mono ?_
    rintro e w3 ⟨rfl, rfl⟩
    go_wp2_with fail
    refine D4.out.mono ?_
    rintro e w3 ⟨rfl, rfl⟩
    go_wp2_with fail
    go_ret
    exact ⟨⟨true, rfl, ⟨fun _ => ⟨⟨(HDU.out _).1 E1.out, (HDU.out _).1 E2.out, by omega, (HDU.out _).1 E4.out, by omega⟩, by rw [HL.out]; omega, by rw [HL.out]; omega, fun x hx => (okPB_iff x).1 (HB.out.1 (by first | exact trivial | rfl) x hx)⟩, fun _ => rfl⟩⟩, hbb⟩
end Go.Proofs.YtcipleanckeoaaaDoor
