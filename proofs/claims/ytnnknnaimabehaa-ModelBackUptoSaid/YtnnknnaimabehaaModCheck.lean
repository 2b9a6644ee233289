/- model.Check. -/
import Derived.Test.YtnnknnaimabehaaModImg2
namespace Go.Proofs.Ytnnknnaimabehaa
open Go.RowKit
set_option linter.unusedVariables false
set_option maxRecDepth 100000
set_option maxHeartbeats 1000000 in
theorem check_blk (id : Int) (A : Option Addr) (n c : Nat) (B : Option Addr) (n' d : Nat) (ps : List PtP) (vs : List ValP) (hvs : ∀ v ∈ vs, ValIn v) (w : World) (hP : PtI w w.heap.size A n c ps) (hV : VlI w w.heap.size B n' d vs) :
    Calls Try.prog 15 #[.agg #[.int .i64 id, .slice A n c, .slice B n' d]] w fun e w' => e = .returned (.int .i64 (if (blkW id ps vs).isSome then 0 else 260)) ∧ Below w.heap.size w w' := by
  obtain ⟨w1, hw1⟩ : ∃ W, w.alloc (.cells #[.int .i64 id, .slice A n c, .slice B n' d] 36) = W := ⟨_, rfl⟩
  have hb1 : Below w.heap.size w w1 := by rw [← hw1]; exact (Below.refl _ w).alloc (Nat.le_refl _) _
  have hD1 : Held w1 w.heap.size 36 #[.int .i64 id, .slice A n c, .slice B n' d] := by rw [← hw1]; exact Held.new w _ _
  have d0 : w1.cell? ⟨w.heap.size, 0, none⟩ = some (.int .i64 id) := hD1.cell 0
  have d1 : w1.cell? ⟨w.heap.size, 1, none⟩ = some (.slice A n c) := hD1.cell 1
  have d2 : w1.cell? ⟨w.heap.size, 2, none⟩ = some (.slice B n' d) := hD1.cell 2
  have HWB := Lib.hid (callsIn_wide.1 (words_blk id A n c B n' d ps vs hvs w1 (hP.up hb1) (hV.up hb1)))
  obtain ⟨ob, hob⟩ : ∃ o, (blkW id ps vs) = o := ⟨_, rfl⟩
  rw [hob] at HWB ⊢
  clear hob hP hV hvs
  go_in
  go_wp2_with fail
  refine HWB.out.mono ?_
  rintro e w3 ⟨A3, n3, c3, rfl, _, hb3⟩
  have hb3w := hb1.trans (hb3.mono hb1.size)
  cases ob with
  | none =>
    have h0 : (none : Option (List Int)).isSome = false := rfl
    rw [h0]
    go_wp2_with fail
    go_ret
    exact ⟨rfl, hb3w⟩
  | some M =>
    have h0 : (some M : Option (List Int)).isSome = true := rfl
    rw [h0]
    go_wp2_with fail
    go_ret
    exact ⟨rfl, hb3w⟩
end Go.Proofs.Ytnnknnaimabehaa
