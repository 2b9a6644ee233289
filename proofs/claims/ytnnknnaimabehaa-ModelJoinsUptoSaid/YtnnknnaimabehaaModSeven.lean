/- kilowattlaw26.seven, alive. -/
import Derived.Test.YtnnknnaimabehaaModFind
import Derived.Test.YtnnknnaimabehaaRegsLaws
namespace Go.Proofs.Ytnnknnaimabehaa
open Go.RowKit
set_option linter.unusedVariables false
set_option maxRecDepth 100000
def sevenB : BlkP := ⟨7, [⟨1, 2⟩], [⟨65537, 0, empS⟩]⟩
set_option maxHeartbeats 2000000 in
theorem seven_any (w : World) : Calls Try.prog 24 #[] w fun e w' => (∃ A, e = .returned (.slice A 1 1) ∧ BkI w' w'.heap.size A 1 1 [sevenB]) ∧ Below w.heap.size w w' := by
  go_in
  go_wp2
  go_ret
  obtain ⟨w3, hw3⟩ : ∃ W, ((w.alloc (.cells #[.int .i64 1, .int .i64 2] 62)).alloc (.cells #[.int .u64 65537, .int .i64 0, .string ⟨#[]⟩] 60)).alloc (.cells #[.int .i64 7, .slice (some ⟨w.heap.size, 0, none⟩) 1 1, .slice (some ⟨w.heap.size + 1, 0, none⟩) 1 1] 36) = W := ⟨_, rfl⟩
  have h1 : Held w3 w.heap.size 62 #[.int .i64 1, .int .i64 2] := by rw [← hw3]; exact ((Held.new w _ _).alloc _).alloc _
  have h2 : Held w3 (w.heap.size + 1) 60 #[.int .u64 65537, .int .i64 0, .string ⟨#[]⟩] := by
    rw [← hw3]
    have := Held.new (w.alloc (.cells #[.int .i64 1, .int .i64 2] 62)) 60 #[.int .u64 65537, .int .i64 0, .string ⟨#[]⟩]
    rw [World.size_alloc] at this
    exact this.alloc _
  have h3 : Held w3 (w.heap.size + 1 + 1) 36 #[.int .i64 7, .slice (some ⟨w.heap.size, 0, none⟩) 1 1, .slice (some ⟨w.heap.size + 1, 0, none⟩) 1 1] := by
    rw [← hw3]
    have := Held.new ((w.alloc (.cells #[.int .i64 1, .int .i64 2] 62)).alloc (.cells #[.int .u64 65537, .int .i64 0, .string ⟨#[]⟩] 60)) 36 #[.int .i64 7, .slice (some ⟨w.heap.size, 0, none⟩) 1 1, .slice (some ⟨w.heap.size + 1, 0, none⟩) 1 1]
    rw [World.size_alloc, World.size_alloc] at this
    exact this
  have hb : Below w.heap.size w w3 := by rw [← hw3]; exact (((Below.refl _ w).alloc (Nat.le_refl _) _).alloc (by simp) _).alloc (by simp; omega) _
  have one : ∀ (i : Nat), i < 1 → i = 0 := fun i h => by omega
  rw [hw3]
  refine ⟨⟨_, rfl, rfl, by omega, by simp [maxLen], fun h => absurd h (by simp), fun _ => ⟨w.heap.size + 1 + 1, 0, rfl, h3.lt, fun i b hi => ?_⟩⟩, hb⟩
  obtain rfl := one i (by have := (List.getElem?_eq_some_iff.1 hi).1; simpa using this)
  obtain rfl : sevenB = b := by simpa using hi
  refine ⟨_, _, _, _, _, _, h3.cell 0, h3.cell 1, h3.cell 2, ⟨rfl, by omega, by simp [maxLen], fun h => absurd h (by simp), fun _ => ⟨w.heap.size, 0, rfl, h1.lt, fun i p hi => ?_⟩⟩, ⟨rfl, by omega, by simp [maxLen], fun h => absurd h (by simp), fun _ => ⟨w.heap.size + 1, 0, rfl, h2.lt, fun i p hi => ?_⟩⟩, fun v hv => ?_⟩
  · obtain rfl := one i (by have := (List.getElem?_eq_some_iff.1 hi).1; simpa [sevenB] using this)
    obtain rfl : (⟨1, 2⟩ : PtP) = p := by simpa [sevenB] using hi
    exact ⟨h1.cell 0, h1.cell 1⟩
  · obtain rfl := one i (by have := (List.getElem?_eq_some_iff.1 hi).1; simpa [sevenB] using this)
    obtain rfl : (⟨65537, 0, empS⟩ : ValP) = p := by simpa [sevenB] using hi
    exact ⟨h2.cell 0, h2.cell 1, h2.cell 2⟩
  · obtain rfl : v = ⟨65537, 0, empS⟩ := by simpa [sevenB] using hv
    exact ⟨by simp, by simp⟩
theorem ex_blk : blkB sevenB = some [1, 1] := by
  unfold blkB blkW sevenB
  rw [if_pos ⟨by decide, rfl⟩]
  show seqW _ _ 1 = _
  rw [seqW_next _ _ 0 [] ⟨1, 2⟩ ⟨65537, 0, empS⟩ rfl rfl rfl]
  have h : ptWords ⟨1, 2⟩ ⟨65537, 0, empS⟩ = some [1, 1] := by
    unfold ptWords
    rw [if_neg (by decide), if_neg (by decide)]
    decide +kernel
  rw [h]
  rfl
theorem ex_seven : imageP [sevenB] = some [21365, 28243, 7, 2, 1, 1, 65535, 0] := by
  have h : imgTo [sevenB] 1 = some [21365, 28243, 7, 2, 1, 1] := by
    rw [imgTo_next _ 0 [21365, 28243] sevenB rfl rfl, ex_blk]
    rfl
  unfold imageP
  show (match imgTo [sevenB] 1 with | some L => if L.length + 2 ≤ 9000 then some (L ++ [65535, 0]) else none | none => none) = _
  rw [h]
  rfl
theorem ex_empty : imageP [] = some [21365, 28243, 65535, 0] := by
  unfold imageP
  rfl
theorem ex_find : findR [21365, 28243, 7, 2, 1, 1, 65535, 0] 7 0 = (4, 2, true) := by decide +kernel
end Go.Proofs.Ytnnknnaimabehaa
