/- The statements' own small functions. -/
import Derived.Test.YtcipleanckeoaaaDoorPolG
import Derived.Test.YtcipleanckeoaaaDoorPolK
namespace Go.Proofs.YtcipleanckeoaaaDoor
open Go.RowKit
attribute [local go_sem] Oper.semAt_some
set_option linter.unusedVariables false
set_option linter.unusedSimpArgs false
set_option maxRecDepth 100000
theorem lnext_any (g gl cap : Nat) (c : PCf) (s : PSt) (w : World) (want : Int) (h : PolAt w g gl cap c s) (hn : 0 < s.l.length) (hl : s.l.length ≤ 1000) (hb : -9223372036854775808 ≤ s.at_ + c.tmo ∧ s.at_ + c.tmo ≤ 9223372036854775807) :
    Calls Tryd.prog 75 #[.pointer (some ⟨g, 0, none⟩), .int .i64 want] w fun e w' => e = .returned (.bool (nextP c s == want)) ∧ Below w.heap.size w w' := by
  have HN := Lib.hid (next_any g gl cap c s w h hn hl hb)
  clear h hn hl hb
  go_in
  go_wp2_with fail
  refine HN.out.mono ?_
  rintro e w1 ⟨rfl, hb⟩
  go_wp2_with fail
  go_ret
  exact ⟨rfl, hb⟩
theorem results_cell1 {fn : Func} {p : Tmp} {ty t1 : TypeId} (h : fn.results = #[.cell p ty]) (tmps : Array Value) (P : Program) (w : World) (g1 : Nat) (c1 : Array Value) (d1 : TypeDesc)
    (hp : tmps.getD p undef = .pointer (some ⟨g1, 0, none⟩)) (h1 : Held w g1 t1 c1) (hu1 : P.underlying ty = some d1) (hd1 : d1.isRow = true) (hi1 : (P.info? ty).map (·.size) = some c1.size) : (results fn tmps).run P w = .ok (.agg c1) w := by
  have hp' : tmps[p]?.getD undef = .pointer (some ⟨g1, 0, none⟩) := by simpa using hp
  have l1 := run_loadVar_mid w g1 0 ty c1.toList d1 h1.range hu1 hd1 (by simpa using hi1)
  simp [results, h, hp', asAddr, l1]
theorem some_any (w : World) :
    Calls Tryd.prog 74 #[] w fun e w' => (∃ A, e = .returned (.agg (polC0 A 1 1 ⟨10, 2, 1, 100, 1⟩)) ∧ PtsI w' w'.heap.size A 1 1 [⟨1, 3, 0, 1, 0, 0, 0⟩]) ∧ Below w.heap.size w w' := by
  obtain ⟨w1, hw1⟩ : ∃ Y : World, w.alloc (.cells (polC0 (some ⟨w.heap.size + 1, 0, none⟩) 1 1 ⟨10, 2, 1, 100, 1⟩) 75) = Y := ⟨_, rfl⟩
  obtain ⟨w2, hw2⟩ : ∃ Y : World, w1.alloc (.cells #[.int .i64 1, .int .i64 3, .int .i64 0, .int .i64 1] 143) = Y := ⟨_, rfl⟩
  have hz1 : w1.heap.size = w.heap.size + 1 := by rw [← hw1]; simp
  have b1 : Below w.heap.size w w1 := by rw [← hw1]; exact (Below.refl _ _).alloc (Nat.le_refl _) _
  have b2 : Below w1.heap.size w1 w2 := by rw [← hw2]; exact (Below.refl _ _).alloc (Nat.le_refl _) _
  have h1 : Held w1 w.heap.size 75 (polC0 (some ⟨w.heap.size + 1, 0, none⟩) 1 1 ⟨10, 2, 1, 100, 1⟩) := by rw [← hw1]; exact Held.new _ _ _
  have h2 : Held w2 w1.heap.size 143 #[.int .i64 1, .int .i64 3, .int .i64 0, .int .i64 1] := by rw [← hw2]; exact Held.new _ _ _
  have h12 := h1.below b2 h1.lt
  have hlt := h2.lt
  rw [hz1] at h2 hlt
  go_in
  go_wp2_with fail
  change bodyPost _ _ _ _ _ ((w.alloc (.cells (polC0 (some ⟨w.heap.size + 1, 0, none⟩) 1 1 ⟨10, 2, 1, 100, 1⟩) 75)).alloc (.cells #[.int .i64 1, .int .i64 3, .int .i64 0, .int .i64 1] 143))
  rw [hw1, hw2]
  refine bodyPost_ret (results_cell1 rfl _ _ _ _ _ _ (by kernel_rfl) h12 Tryd.underlying75 (by kernel_rfl) (by kernel_rfl)) rfl ⟨⟨some ⟨w.heap.size + 1, 0, none⟩, rfl, rfl, Nat.le_refl _, by simp [maxLen], fun _ => ⟨_, 0, rfl, hlt, fun i x hx => ?_⟩⟩, b1.trans (b2.mono b1.size)⟩
  cases i with
  | zero => simp at hx; subst hx; exact ⟨h2.cell 0, h2.cell 1, h2.cell 2, h2.cell 3⟩
  | succ i => simp at hx
end Go.Proofs.YtcipleanckeoaaaDoor
