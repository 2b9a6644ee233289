/- pdu.put, slices.Grow and Concat of bytes, pdu.behind; the document's two, words. -/
import Derived.Test.YtflbiichdjhaeaaDoorRows
import Derived.Test.YtflbiichdjhaeaaDoorPduStr
import Derived.Test.YtflbiichdjhaeaaDoorPduParse
import Derived.Laws.OwnMore
import Derived.Lib.AppendZerosOnto
namespace Go.Proofs.YtflbiichdjhaeaaDoor
open Go.RowKit

/-- The slice does not lie in this row's block. -/
def OffRow (v : Value) (A : Option Addr) : Prop := ∀ g, v.ownBlock = some g → ∀ a, A = some a → a.block ≠ g
/-- A slice of another block stays, where a row grows. -/
theorem SlI.grown {w w' : World} {k : IntKind} {A : Option Addr} {n c : Nat} {xs : List Int} {v : Value} (h : SlI w w.heap.size k A n c xs) (hg : w.grownBy w' v.ownBlock) (ho : OffRow v A) : SlI w' w'.heap.size k A n c xs := by
  refine ⟨h.1, h.2.1, h.2.2.1, h.2.2.2.1, fun hn => ?_⟩
  obtain ⟨g, off, e, hb, hc⟩ := h.2.2.2.2 hn
  refine ⟨g, off, e, Nat.lt_of_lt_of_le hb hg.size, fun i x hx => ?_⟩
  rw [World.cell?_of_block (hg.block g hb (fun hr => ho g hr.symm _ e rfl))]
  exact hc i x hx
theorem OffRow.next {w : World} {v v' : Value} {k : IntKind} {A : Option Addr} {n c : Nat} {xs : List Int} (ho : OffRow v A) (hA : SlI w w.heap.size k A n c xs) (h0 : 0 < n) (h : v'.ownBlock = v.ownBlock ∨ v'.ownBlock = some w.heap.size) : OffRow v' A := by
  intro g hg a ha
  rcases h with h | h
  · exact ho g (h.symm.trans hg) a ha
  · rw [hg] at h
    injection h with h
    obtain ⟨g', off, e, hb⟩ := hA.some_ h0
    rw [ha] at e
    injection e with e
    subst e
    show g' ≠ g
    omega

set_option maxRecDepth 100000 in
set_option maxHeartbeats 1000000 in
theorem put_own (base : Nat) (v : Value) (n : Nat) (xs : List Int) (A : Option Addr) (m c : Nat) (ys : List Int) (hreach : n + 2 * m ≤ 1000000) (w : World) (hbase : base ≤ w.heap.size) (hown : w.ownsRow base 5 1 v n (xs.map (Value.int .u8))) (hA : SlI w w.heap.size .i64 A m c ys) (hy : Reg16 ys) (ho : OffRow v A) :
    Calls Tryd.prog 28 #[v, .slice A m c] w fun e w' => ∃ v', e = .returned v' ∧ w'.ownsRow base 5 1 v' (n + 2 * m) ((xs ++ twosI ys).map (Value.int .u8)) ∧ Below base w w' := by
  obtain ⟨i0, hi, hz0, hz1, hz2⟩ := info_parts infoU8
  have HY := Lib.hid hy
  have HL := Lib.hid hA.1
  clear hy
  go_in
  go_wp2
  go_loopw [0, 6, 9] (fun u0 _ u9 wr => ∃ k : Nat, k ≤ m ∧ u9 = .int .i64 k ∧ wr.ownsRow base 5 1 u0 (n + 2 * k) ((xs ++ twosI (ys.take k)).map (Value.int .u8)) ∧ Below base w wr ∧ Hid (SlI wr wr.heap.size .i64 A m c ys ∧ OffRow u0 A)) (fun _ _ u9 _ => m - (intOf u9).toNat)
  case atStart => exact ⟨0, by omega, rfl, by simpa [twosI] using hown, Below.refl _ _, Lib.hid ⟨hA, ho⟩⟩
  case round =>
    obtain ⟨k, hk, rfl, hown2, hb, hH⟩ := hrel
    have hsz := hb.size
    by_cases hlt : k < m
    · obtain ⟨g, off, x, rfl, hg, hx, hc⟩ := hH.out.1.2.2.2.2.at_ (i := k) (by rw [HL.out]; exact hlt)
      obtain ⟨x0, x1⟩ := HY.out x (List.mem_of_getElem? hx)
      have x2 : x / 256 % 256 = x / 256 := by omega
      have HS := Lib.hid (show twosI (ys.take (k + 1)) = twosI (ys.take k) ++ [x / 256, x % 256] by rw [List.take_add_one, hx, Option.toList_some, twosI_snoc]; rfl)
      have HO := Lib.hid hown2
      clear hx hown
      go_wp2_with ((with_reducible refine at_append ?_); refine wpList_append_own_at _ rfl _ _ 28 rfl base 5 i0 (.int .u8 0) 1 1 Tryd.underlying28 hi hz0 hz1 hz2 rfl (by decide) _ _ _ rfl (HO.out.alloc _) ⟨wr.heap.size, 0, none⟩ 2 2 [.int .u8 (x / 256), .int .u8 (x % 256)] rfl rfl (World.news_of_block (cs := #[.int .u8 (x / 256), .int .u8 (x % 256)]) (t := 5) (fr := (0, 0)) (heap_alloc_new wr _)) (by simp [Value.oneCell']) (by unfold maxLen; omega) (by omega) (by simp; omega) ?_; intro v' w1 hown' hgrow _ hlies; have hb2 : Below base w w1 := (hb.alloc (by omega) _).grown hgrow (by simp; omega) (fun j hj => (HO.out.lt j hj).1); have hA1 := hH.out.1.alloc (.cells #[.int .u8 (x / 256), .int .u8 (x % 256)] 5); have HN := Lib.hid (And.intro (hA1.grown hgrow hH.out.2) (hH.out.2.next hA1 (by omega) hlies)); have hown3 : w1.ownsRow base 5 1 v' (n + 2 * (k + 1)) ((xs ++ twosI (ys.take (k + 1))).map (Value.int .u8)) := by { rw [HS.out, show n + 2 * (k + 1) = n + 2 * k + 2 by omega]; simpa [List.append_assoc] using hown' }; clear hown' hgrow hlies hA1)
      go_roundw
      case rel => exact ⟨k + 1, by omega, by go_num, hown3, hb2, HN⟩
      case measure => simp [intOf]; omega
    · obtain rfl : k = m := by omega
      go_wp2
      go_ret
      refine ⟨_, rfl, ?_, hb⟩
      rw [List.take_of_length_le (by have := HL.out; omega)] at hown2
      exact hown2

set_option maxRecDepth 100000 in
set_option maxHeartbeats 1000000 in
theorem grow_nil (n : Nat) (h0 : 0 < n) (hn : n ≤ 1000000) (w : World) :
    Calls Tryd.prog 59 #[.slice none 0 0, .int .i64 n] w fun e w' => ∃ v, e = .returned v ∧ w'.ownsRow w.heap.size 5 1 v 0 [] ∧ Below w.heap.size w w' := by
  obtain ⟨i0, hi, hz0, hz1, hz2⟩ := info_parts infoU8
  have h := Lib.run_append_grow_zeros w 28 3 28 5 i0 (.int .u8 0) .i64 .i64 Tryd.underlying28 Tryd.underlying3 hi hz0 none 0 0 [] (run_firstCells_none w.drew i0.size 0 0 0) n h0 (by rw [hz1]; decide) (by omega) (by omega) (by rw [hz2]; omega)
    (by rw [hz2]; exact growslice_fits (by omega) (by omega))
  rw [Nat.zero_add] at h
  obtain ⟨G, hG⟩ : ∃ G, grownCap w n 0 5 = G := ⟨_, rfl⟩
  have hGn : n ≤ G := by rw [← hG]; exact grownCap_ge w _ _ _
  have hG63 : G ≤ maxLen := by rw [← hG]; exact grownCap_le_maxLen w n 0 5 (by unfold maxLen; omega)
  obtain ⟨C, hC⟩ : ∃ C, ((([] : List Value).toArray ++ Builtin.zeroCells (Value.int .u8 0).cells n ++ Builtin.zeroCells (Value.int .u8 0).cells (G - n))) = C := ⟨_, rfl⟩
  have hCs : C.size = G := by rw [← hC]; simp [Builtin.zeroCells, Value.cells]; omega
  rw [hG, hC] at h
  have hG2 : (G : Int) ≤ 9223372036854775807 := by unfold maxLen at hG63; omega
  have HG := Lib.hid hG63
  clear hG hC hG63
  go_in
  go_wp2_with (at_builtin; refine Lib.wpList_append_run _ rfl _ _ _ _ rfl _ _ rfl rfl _ _ h ?_)
  all_goals
    go_ret
    refine ⟨_, rfl, ⟨rfl, .inr ⟨w.heap.size, G, C, rfl, Nat.le_refl _, heap_alloc_new w.drew _, Nat.zero_le _, HG.out, by rw [hCs, Nat.mul_one], by simp⟩⟩, (Below.refl _ w).drew.alloc (Nat.le_refl _) _⟩
end Go.Proofs.YtflbiichdjhaeaaDoor
