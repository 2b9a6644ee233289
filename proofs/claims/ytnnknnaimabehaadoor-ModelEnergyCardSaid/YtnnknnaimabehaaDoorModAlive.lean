/- kilowattlaw26.seven, alive. -/
import Derived.Test.YtnnknnaimabehaaDoorModFind
import Derived.Test.YtnnknnaimabehaaDoorRegsLaws
namespace Go.Proofs.YtnnknnaimabehaaDoor
open Go.RowKit
set_option linter.unusedVariables false
set_option maxRecDepth 100000
def sevenB : BlkP := ⟨7, [⟨1, 2⟩], [⟨65537, 0, empS⟩]⟩
set_option maxHeartbeats 2000000 in
theorem seven_any (w : World) : Calls Tryd.prog 7 #[] w fun e w' => (∃ A, e = .returned (.slice A 1 1) ∧ BkI w' w'.heap.size A 1 1 [sevenB]) ∧ Below w.heap.size w w' := by
  go_in
  go_wp2
  go_ret
  obtain ⟨w3, hw3⟩ : ∃ W, ((w.alloc (.cells #[.int .i64 1, .int .i64 2] 42)).alloc (.cells #[.int .u64 65537, .int .i64 0, .string ⟨#[]⟩] 46)).alloc (.cells #[.int .i64 7, .slice (some ⟨w.heap.size, 0, none⟩) 1 1, .slice (some ⟨w.heap.size + 1, 0, none⟩) 1 1] 37) = W := ⟨_, rfl⟩
  have h1 : Held w3 w.heap.size 42 #[.int .i64 1, .int .i64 2] := by rw [← hw3]; exact ((Held.new w _ _).alloc _).alloc _
  have h2 : Held w3 (w.heap.size + 1) 46 #[.int .u64 65537, .int .i64 0, .string ⟨#[]⟩] := by
    rw [← hw3]
    have := Held.new (w.alloc (.cells #[.int .i64 1, .int .i64 2] 42)) 46 #[.int .u64 65537, .int .i64 0, .string ⟨#[]⟩]
    rw [World.size_alloc] at this
    exact this.alloc _
  have h3 : Held w3 (w.heap.size + 1 + 1) 37 #[.int .i64 7, .slice (some ⟨w.heap.size, 0, none⟩) 1 1, .slice (some ⟨w.heap.size + 1, 0, none⟩) 1 1] := by
    rw [← hw3]
    have := Held.new ((w.alloc (.cells #[.int .i64 1, .int .i64 2] 42)).alloc (.cells #[.int .u64 65537, .int .i64 0, .string ⟨#[]⟩] 46)) 37 #[.int .i64 7, .slice (some ⟨w.heap.size, 0, none⟩) 1 1, .slice (some ⟨w.heap.size + 1, 0, none⟩) 1 1]
    rw [World.size_alloc, World.size_alloc] at this
    exact this
  have hb : Below w.heap.size w w3 := by rw [← hw3]; exact (((Below.refl _ w).alloc (Nat.le_refl _) _).alloc (by simp) _).alloc (by simp; omega) _
  have one : ∀ (i : Nat), i < 1 → i = 0 := fun i h => by omega
  rw [hw3]
  refine ⟨⟨_, rfl, rfl, by omega, by simp [maxLen], fun h => absurd h (by simp), fun _ => ⟨w.heap.size + 1 + 1, 0, rfl, h3.lt, fun i b hi => ?_⟩⟩, hb⟩
  obtain rfl := one i (by have := (List.getElem?_eq_some_iff.1 hi).1; simpa using this)
  obtain rfl : sevenB = b := by simpa using hi
  refine ⟨_, _, _, _, _, _, h3.cell 0, h3.cell 1, h3.cell 2, ⟨rfl, by omega, by simp [maxLen], fun h => absurd h (by simp), fun _ => ⟨w.heap.size, 0, rfl, h1.lt, fun i p hi => ?_⟩⟩, ⟨rfl, by omega, by simp [maxLen], fun h => absurd h (by simp), fun _ => ⟨w.heap.size + 1, 0, rfl, h2.lt, fun i p hi => ?_⟩⟩, fun v hv => ?_⟩
  · obtain rfl := one i (by have := (List.getElem?_eq_some_iff.1 hi).1; simpa [sevenB] using this)
    obtain rfl : (⟨1, 2⟩ : PtP) = p := by simpa [sevenB] using hi
    exact ⟨h1.cell 0, h1.cell 1⟩
  · obtain rfl := one i (by have := (List.getElem?_eq_some_iff.1 hi).1; simpa [sevenB] using this)
    obtain rfl : (⟨65537, 0, empS⟩ : ValP) = p := by simpa [sevenB] using hi
    exact ⟨h2.cell 0, h2.cell 1, h2.cell 2⟩
  · obtain rfl : v = ⟨65537, 0, empS⟩ := by simpa [sevenB] using hv
    exact ⟨by simp, by simp⟩
theorem ex_blk : blkB sevenB = some [1, 1] := by
  unfold blkB blkW sevenB
  rw [if_pos ⟨by decide, rfl⟩]
  show seqW _ _ 1 = _
  rw [seqW_next _ _ 0 [] ⟨1, 2⟩ ⟨65537, 0, empS⟩ rfl rfl rfl]
  have h : ptWords ⟨1, 2⟩ ⟨65537, 0, empS⟩ = some [1, 1] := by
    unfold ptWords
    rw [if_neg (by decide), if_neg (by decide)]
    decide +kernel
  rw [h]
  rfl
theorem ex_seven : imageP [sevenB] = some [21365, 28243, 7, 2, 1, 1, 65535, 0] := by
  have h : imgTo [sevenB] 1 = some [21365, 28243, 7, 2, 1, 1] := by
    rw [imgTo_next _ 0 [21365, 28243] sevenB rfl rfl, ex_blk]
    rfl
  unfold imageP
  show (match imgTo [sevenB] 1 with | some L => if L.length + 2 ≤ 9000 then some (L ++ [65535, 0]) else none | none => none) = _
  rw [h]
  rfl
theorem ex_empty : imageP [] = some [21365, 28243, 65535, 0] := by
  unfold imageP
  rfl
theorem ex_find : findR [21365, 28243, 7, 2, 1, 1, 65535, 0] 7 0 = (4, 2, true) := by decide +kernel
end Go.Proofs.YtnnknnaimabehaaDoor
namespace Go.Proofs.YtnnknnaimabehaaDoor
open Go.RowKit
set_option linter.unusedVariables false
set_option maxRecDepth 100000
theorem bk_nil (w : World) : BkI w w.heap.size none 0 0 [] := ⟨rfl, by omega, by simp [maxLen], fun _ => ⟨rfl, rfl⟩, fun h => absurd h (by omega)⟩
set_option maxHeartbeats 2000000 in
theorem alive_mod (w : World) : Calls Tryd.prog 14 #[] w fun e w' => e = .returned (.bool true) ∧ Below w.heap.size w w' := by
  have H1 := Lib.hid (image_own none 0 0 [] (by omega) w (bk_nil w))
  rw [ex_empty] at H1
  go_in
  go_wp2_with fail
  refine H1.out.mono ?_
  rintro e w1 ⟨A1, n1, c1, er, rfl, her, hs1, hb1⟩
  have hs1 := hs1 _ rfl
  obtain rfl : er = 0 := her
  obtain rfl : n1 = 4 := hs1.1.symm
  go_wp2_with fail
  refine (seven_any w1).mono ?_
  rintro e w2 ⟨⟨A2, rfl, hB2⟩, hb2⟩
  have hb2w := hb1.trans (hb2.mono hb1.size)
  have H2 := Lib.hid (image_own A2 1 1 [sevenB] (by omega) w2 hB2)
  rw [ex_seven] at H2
  clear hB2
  go_wp2_with fail
  refine H2.out.mono ?_
  rintro e w3 ⟨A3, n3, c3, er, rfl, her, hs3, hb3⟩
  have hs3 := hs3 _ rfl
  obtain rfl : er = 0 := her
  obtain rfl : n3 = 8 := hs3.1.symm
  have hb3w := hb2w.trans (hb3.mono hb2w.size)
  have H3 := Lib.hid (find_own A3 8 c3 _ 7 0 (by omega) (by omega) w3 hs3 (fun x hx => by simp at hx; omega))
  rw [ex_find] at H3
  have hs1' := (hs1.up hb2).up hb3
  have HS1 := Lib.hid hs1'
  have HS3 := Lib.hid hs3
  clear hs1 hs1' hs3
  go_wp2_with fail
  refine H3.out.mono ?_
  rintro e w' ⟨rfl, rfl⟩
  obtain ⟨w4, hw4⟩ : ∃ W, w3.alloc (.cells #[.int .u16 21365, .int .u16 28243, .int .u16 65535, .int .u16 0] 77) = W := ⟨_, rfl⟩
  have hb4 : Below w3.heap.size w3 w4 := by rw [← hw4]; exact (Below.refl _ _).alloc (Nat.le_refl _) _
  have hs4 : SlI w4 w4.heap.size .u16 (some ⟨w3.heap.size, 0, none⟩) 4 4 [21365, 28243, 65535, 0] := by rw [← hw4]; exact SlI.of_lit rfl rfl (by omega)
  have H4 := Lib.hid (same_sl A1 _ 4 4 c1 4 _ _ w4 (HS1.out.up hb4) hs4)
  rw [decide_eq_true rfl] at H4
  have hb4w := hb3w.trans (hb4.mono hb3w.size)
  clear hs4
  go_wp2_with fail
  refine H4.out.mono ?_
  rintro e w5 ⟨rfl, q5, hw5⟩
  have hb5 : Below w4.heap.size w4 w5 := by rw [hw5]; exact below_drewN (Below.refl _ _) _
  clear hw5
  have hb5w := hb4w.trans (hb5.mono hb4w.size)
  obtain ⟨w6, hw6⟩ : ∃ W, w5.alloc (.cells #[.int .u16 21365, .int .u16 28243, .int .u16 7, .int .u16 2, .int .u16 1, .int .u16 1, .int .u16 65535, .int .u16 0] 77) = W := ⟨_, rfl⟩
  have hb6 : Below w5.heap.size w5 w6 := by rw [← hw6]; exact (Below.refl _ _).alloc (Nat.le_refl _) _
  have hs6 : SlI w6 w6.heap.size .u16 (some ⟨w5.heap.size, 0, none⟩) 8 8 [21365, 28243, 7, 2, 1, 1, 65535, 0] := by rw [← hw6]; exact SlI.of_lit rfl rfl (by omega)
  have H6 := Lib.hid (same_sl A3 _ 8 8 c3 8 _ _ w6 (((HS3.out.up hb4).up hb5).up hb6) hs6)
  rw [decide_eq_true rfl] at H6
  have hb6w := hb5w.trans (hb6.mono hb5w.size)
  clear hs6
  go_wp2_with fail
  refine H6.out.mono ?_
  rintro e w7 ⟨rfl, q7, hw7⟩
  have hb7w : Below w.heap.size w w7 := by rw [hw7]; exact below_drewN hb6w _
  clear hw7
  go_wp2_with fail
  go_ret
  exact ⟨rfl, hb7w⟩
end Go.Proofs.YtnnknnaimabehaaDoor
