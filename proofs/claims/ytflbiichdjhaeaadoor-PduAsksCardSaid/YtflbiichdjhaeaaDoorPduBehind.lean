/- slices.Concat of three, pdu.behind; the document's two and words. -/
import Derived.Test.YtflbiichdjhaeaaDoorPduPut
namespace Go.Proofs.YtflbiichdjhaeaaDoor
open Go.RowKit

set_option maxRecDepth 100000 in
set_option maxHeartbeats 2000000 in
theorem concat3 (B : Nat) (A1 : Option Addr) (n1 c1 : Nat) (x1 : List Int) (A2 : Option Addr) (n2 c2 : Nat) (x2 : List Int) (A3 : Option Addr) (n3 c3 : Nat) (x3 : List Int) (w : World)
    (hB : Held w B 28 #[.slice A1 n1 c1, .slice A2 n2 c2, .slice A3 n3 c3]) (s1 : SlI w w.heap.size .u8 A1 n1 c1 x1) (s2 : SlI w w.heap.size .u8 A2 n2 c2 x2) (s3 : SlI w w.heap.size .u8 A3 n3 c3 x3) (h0 : 0 < n1 + n2 + n3) (hm : n1 + n2 + n3 ≤ 600000) :
    Calls Tryd.prog 49 #[.slice (some ⟨B, 0, none⟩) 3 3] w fun e w' => ∃ v, e = .returned v ∧ w'.ownsRow w.heap.size 5 1 v (n1 + n2 + n3) ((x1 ++ x2 ++ x3).map (Value.int .u8)) ∧ Below w.heap.size w w' := by
  obtain ⟨i0, hi, hz0, hz1, hz2⟩ := info_parts infoU8
  have b0 : w.cell? ⟨B, 0, none⟩ = some (.slice A1 n1 c1) := hB.cell 0
  have b1 : w.cell? ⟨B, 1, none⟩ = some (.slice A2 n2 c2) := hB.cell 1
  have b2 : w.cell? ⟨B, 2, none⟩ = some (.slice A3 n3 c3) := hB.cell 2
  have hg := grow_nil (n1 + n2 + n3) h0 (by omega) w
  rw [show ((n1 + n2 + n3 : Nat) : Int) = (n1 : Int) + n2 + n3 by omega] at hg
  have HG := Lib.hid hg
  have H1 := Lib.hid (fun (X : World) (h : Below w.heap.size w X) => s1.up h)
  have H2 := Lib.hid (fun (X : World) (h : Below w.heap.size w X) => s2.up h)
  have H3 := Lib.hid (fun (X : World) (h : Below w.heap.size w X) => s3.up h)
  have k1 : n1 ≤ 600000 := by omega
  have k2 : n2 ≤ 600000 := by omega
  have k3 : n3 ≤ 600000 := by omega
  clear hg s1 s2 s3
  go_in
  go_wp2_with fail
  refine wp_loop_rounds 4 ?_
  iterate 4
    rw [rounds_succ]
    go_wp2_with fail
  refine HG.out.mono ?_
  rintro e w1 ⟨v1, rfl, o1, hb1⟩
  have hz1' := hb1.size
  have hB1 := hB.below hb1 hB.lt
  have d0 : w1.cell? ⟨B, 0, none⟩ = some (.slice A1 n1 c1) := hB1.cell 0
  have d1 : w1.cell? ⟨B, 1, none⟩ = some (.slice A2 n2 c2) := hB1.cell 1
  have d2 : w1.cell? ⟨B, 2, none⟩ = some (.slice A3 n3 c3) := hB1.cell 2
  clear b0 b1 b2
  go_wp2_with fail
  refine wp_loop_rounds 4 ?_
  rw [rounds_succ]
  have o1' : w1.ownsRow w.heap.size 5 1 v1 0 [] := o1
  go_wp2_with ((with_reducible refine at_append ?_); refine wpList_append_sl w1 rfl (.tmp 31) (.tmp 32) 28 rfl w.heap.size 5 i0 (.int .u8 0) 1 Tryd.underlying28 hi hz0 hz1 hz2 rfl v1 0 [] rfl o1' w1.heap.size .u8 A1 n1 c1 x1 rfl (H1.out w1 hb1) (by unfold maxLen; omega) (by omega) hz1' ?_; intro v2 w2 o2 hgr2 _; have hb2 : Below w.heap.size w w2 := hb1.grown hgr2 hz1' (fun j hj => (o1'.lt j hj).1); have hz2' := hb2.size; have hB2 := hB.below hb2 hB.lt; have e1 : w2.cell? ⟨B, 1, none⟩ = some (.slice A2 n2 c2) := hB2.cell 1; have O2 : w2.ownsRow w.heap.size 5 1 v2 n1 (x1.map (Value.int .u8)) := by { simpa using o2 }; clear hgr2 o2)
  rw [rounds_succ]
  go_wp2_with ((with_reducible refine at_append ?_); refine wpList_append_sl w2 rfl (.tmp 31) (.tmp 32) 28 rfl w.heap.size 5 i0 (.int .u8 0) 1 Tryd.underlying28 hi hz0 hz1 hz2 rfl v2 n1 _ rfl O2 w2.heap.size .u8 A2 n2 c2 x2 rfl (H2.out w2 hb2) (by unfold maxLen; omega) (by omega) hz2' ?_; intro v3 w3 o3 hgr3 _; have hb3 : Below w.heap.size w w3 := hb2.grown hgr3 hz2' (fun j hj => (O2.lt j hj).1); have hz3' := hb3.size; have hB3 := hB.below hb3 hB.lt; have e2 : w3.cell? ⟨B, 2, none⟩ = some (.slice A3 n3 c3) := hB3.cell 2; have O3 := o3; clear hgr3 o3)
  rw [rounds_succ]
  go_wp2_with ((with_reducible refine at_append ?_); refine wpList_append_sl w3 rfl (.tmp 31) (.tmp 32) 28 rfl w.heap.size 5 i0 (.int .u8 0) 1 Tryd.underlying28 hi hz0 hz1 hz2 rfl v3 (n1 + n2) _ rfl O3 w3.heap.size .u8 A3 n3 c3 x3 rfl (H3.out w3 hb3) (by unfold maxLen; omega) (by omega) hz3' ?_; intro v4 w4 o4 hgr4 _; have hb4 : Below w.heap.size w w4 := hb3.grown hgr4 hz3' (fun j hj => (O3.lt j hj).1); have O4 := Lib.hid o4; clear hgr4 o4)
  rw [rounds_succ]
  go_wp2_with fail
  go_ret
  exact ⟨_, rfl, by rw [List.map_append, List.map_append]; exact O4.out, hb4⟩

set_option maxRecDepth 100000 in
set_option maxHeartbeats 1000000 in
theorem behind_any (A1 : Option Addr) (n1 c1 : Nat) (x1 : List Int) (A3 : Option Addr) (n3 c3 : Nat) (x3 : List Int) (w : World) (s1 : SlI w w.heap.size .u8 A1 n1 c1 x1) (s3 : SlI w w.heap.size .u8 A3 n3 c3 x3) (hn : n1 ≤ 1000) (hm : n3 < 256) :
    Calls Tryd.prog 29 #[.slice A1 n1 c1, .slice A3 n3 c3] w fun e w' => ∃ v, e = .returned v ∧ w'.ownsRow w.heap.size 5 1 v (n1 + 1 + n3) ((x1 ++ (n3 : Int) :: x3).map (Value.int .u8)) ∧ Below w.heap.size w w' := by
  obtain ⟨w1, hw1⟩ : ∃ w1, w.alloc (.cells #[.int .u8 (n3 : Int)] 5) = w1 := ⟨_, rfl⟩
  have hb1 : Below w.heap.size w w1 := by rw [← hw1]; exact (Below.refl _ w).alloc (Nat.le_refl _) _
  have hz1 : w1.heap.size = w.heap.size + 1 := by rw [← hw1]; simp
  have sl : SlI w1 w1.heap.size .u8 (some ⟨w.heap.size, 0, none⟩) 1 1 [(n3 : Int)] := by rw [← hw1]; exact SlI.of_lit rfl rfl (by omega)
  obtain ⟨w2, hw2⟩ : ∃ w2, w1.alloc (.cells #[.slice A1 n1 c1, .slice (some ⟨w.heap.size, 0, none⟩) 1 1, .slice A3 n3 c3] 28) = w2 := ⟨_, rfl⟩
  have hb2 : Below w1.heap.size w1 w2 := by rw [← hw2]; exact (Below.refl _ w1).alloc (Nat.le_refl _) _
  have hz2 : w2.heap.size = w1.heap.size + 1 := by rw [← hw2]; simp
  have hH : Held w2 w1.heap.size 28 #[.slice A1 n1 c1, .slice (some ⟨w.heap.size, 0, none⟩) 1 1, .slice A3 n3 c3] := by rw [← hw2]; exact Held.new _ _ _
  have hbw : Below w.heap.size w w2 := hb1.trans (hb2.mono (by omega))
  have HC := Lib.hid (concat3 w1.heap.size A1 n1 c1 x1 (some ⟨w.heap.size, 0, none⟩) 1 1 [(n3 : Int)] A3 n3 c3 x3 w2 hH (s1.up hbw) (sl.up hb2) (s3.up hbw) (by omega) (by omega))
  rw [hz1] at HC
  have hmod : (n3 : Int) % 256 = n3 := by omega
  clear hH sl s1 s3
  go_in
  go_wp2_with fail
  refine HC.out.mono ?_
  rintro e w3 ⟨v, rfl, ho, hb3⟩
  go_wp2_with fail
  go_ret
  refine ⟨v, rfl, ?_, hbw.trans (hb3.mono hbw.size)⟩
  have := own_base ho (base' := w.heap.size) hbw.size
  simpa using this
set_option maxHeartbeats 1000000 in
theorem two_any (n : Int) (h : 0 ≤ n ∧ n < 65536) (w : World) :
    Calls Tryd.prog 33 #[.int .i64 n] w fun e w' => e = .returned (.slice (some ⟨w.heap.size, 0, none⟩) 2 2) ∧ w' = w.alloc (.cells #[.int .u8 (n / 256), .int .u8 (n % 256)] 5) := by
  obtain ⟨h0, h1⟩ := h
  have t1 : n.tdiv 256 = n / 256 := Int.tdiv_eq_ediv_of_nonneg h0
  have t2 : n.tmod 256 = n % 256 := Int.tmod_eq_emod_of_nonneg h0
  have e1 : n / 256 % 256 = n / 256 := by omega
  have e2 : n % 256 % 256 = n % 256 := by omega
  go_in
  go_wp2
  go_ret
  exact ⟨rfl, rfl⟩
/-- Two bytes, read. -/
theorem two_sl (n : Int) (w : World) : SlI (w.alloc (.cells #[.int .u8 (n / 256), .int .u8 (n % 256)] 5)) (w.alloc (.cells #[.int .u8 (n / 256), .int .u8 (n % 256)] 5)).heap.size .u8 (some ⟨w.heap.size, 0, none⟩) 2 2 (twoI n) := SlI.of_lit rfl rfl (by omega)

set_option maxRecDepth 100000 in
set_option maxHeartbeats 1000000 in
theorem rwords_any (A : Option Addr) (m c : Nat) (ys : List Int) (hreach : m ≤ 100000) (w : World) (hA : SlI w w.heap.size .u16 A m c ys) (hy : Reg16 ys) :
    Calls Tryd.prog 35 #[.slice A m c] w fun e w' => ∃ v', e = .returned v' ∧ w'.ownsRow w.heap.size 5 1 v' (2 * m) ((twosI ys).map (Value.int .u8)) ∧ Below w.heap.size w w' := by
  obtain ⟨i0, hi, hz0, hz1, hz2⟩ := info_parts infoU8
  have HY := Lib.hid hy
  have HL := Lib.hid hA.1
  have HA := Lib.hid (fun (X : World) (h : Below w.heap.size w X) => hA.up h)
  clear hy hA
  go_in
  go_wp2
  go_loopw [3, 4] (fun u3 u4 wr => ∃ k : Nat, k ≤ m ∧ u4 = .int .i64 k ∧ wr.ownsRow w.heap.size 5 1 u3 (2 * k) ((twosI (ys.take k)).map (Value.int .u8)) ∧ Below w.heap.size w wr) (fun _ u4 _ => m - (intOf u4).toNat)
  case atStart => exact ⟨0, by omega, rfl, World.ownsRow_nil _ _ _ _, Below.refl _ _⟩
  case round =>
    obtain ⟨k, hk, rfl, hown, hb⟩ := hrel
    have hsz := hb.size
    by_cases hlt : k < m
    · obtain ⟨g, off, x, rfl, hg, hx, hc⟩ := (HA.out wr hb).2.2.2.2.at_ (i := k) (by rw [HL.out]; exact hlt)
      have hxr := HY.out x (List.mem_of_getElem? hx)
      obtain ⟨x0, x1⟩ := id hxr
      have HS := Lib.hid (show twosI (ys.take (k + 1)) = twosI (ys.take k) ++ twoI x by rw [List.take_add_one, hx, Option.toList_some, twosI_snoc])
      have HT := Lib.hid (two_any x hxr wr)
      have HO := Lib.hid hown
      clear hx hown hxr
      go_wp2_with (first
        | (go_at_call 33; (with_reducible refine HT.out.mono ?_); rintro e wt ⟨rfl, hwt⟩; have hbt : Below wr.heap.size wr wt := (by rw [hwt]; exact (Below.refl _ wr).alloc (Nat.le_refl _) _); have hst : SlI wt wt.heap.size .u8 (some ⟨wr.heap.size, 0, none⟩) 2 2 (twoI x) := (by rw [hwt]; exact two_sl x wr); have hOt := own_up HO.out hbt; have hzt := hbt.size; clear hwt)
        | ((with_reducible refine at_append ?_); refine wpList_append_sl wt rfl (.tmp 11) (.tmp 17) 28 rfl w.heap.size 5 i0 (.int .u8 0) 1 Tryd.underlying28 hi hz0 hz1 hz2 rfl u3 (2 * k) _ rfl hOt wt.heap.size .u8 (some ⟨wr.heap.size, 0, none⟩) 2 2 (twoI x) rfl hst (by unfold maxLen; omega) (by omega) (by omega) ?_; intro v2 w2 o2 hgr2 _; have hb2 : Below w.heap.size w w2 := (hb.trans (hbt.mono hsz)).grown hgr2 (by omega) (fun j hj => (hOt.lt j hj).1); have O2 := Lib.hid o2; clear hgr2 o2))
      go_roundw
      case rel => exact ⟨k + 1, by omega, by go_num, by rw [HS.out, List.map_append, show 2 * (k + 1) = 2 * k + 2 by omega]; exact O2.out, hb2⟩
      case measure => simp [intOf]; omega
    · obtain rfl : k = m := by omega
      go_wp2
      go_ret
      refine ⟨_, rfl, ?_, hb⟩
      rw [List.take_of_length_le (by have := HL.out; omega)] at hown
      exact hown
end Go.Proofs.YtflbiichdjhaeaaDoor
