/- mac.padded. -/
import Derived.Test.YtjkhkgdijnhdmaaDoorMacPad
import Derived.Shelf.RegionOpen
import Derived.Maps.AppendAt
import Derived.Deep.AppendLies
namespace Go.Proofs.YtjkhkgdijnhdmaaDoor
open Go.RowKit Go.Shelf
attribute [local go_sem] Oper.semAt_some

theorem pad_stops (F : Fence) (n : Nat) (hF : F.fn 65) (hro : F.round = none) (hn : 1 ≤ n) (Bb Bx n₀ : Nat) (zs : List Nat) (c : Nat) (hz : ∀ x ∈ zs, x < 256) (hc : c < 256) (hl : zs.length = 64) (w : World) (hB0 : Bx < n₀) (hn₀ : n₀ ≤ w.heap.size)
    (hB : Held w Bb 61 (arr8 zs)) (hX : w.cell? ⟨Bx, 0, none⟩ = some (.int .u8 (c : Int))) :
    SeqStopsK F n Tryd.prog 65 #[.pointer (some ⟨Bb, 0, none⟩), .pointer (some ⟨Bx, 0, none⟩)] byteV (Below n₀) (fun ys => ys = mpad zs c) (fun pre => pre <+: mpad zs c) 64 w := fun l J Jx W hW _ _ hY h0 =>
  pad1_in F n hF hro hn l Bb Bx n₀ zs c hz hc hl hB0 J Jx hY W (hB.below hW hB.lt) ((hW.cell (p := ⟨Bx, 0, none⟩) (by show Bx < _; omega)).trans hX) h0

set_option maxRecDepth 100000 in
set_option maxHeartbeats 2000000 in
theorem append_seq (Bb Bx : Nat) (zs : List Nat) (c : Nat) (hz : ∀ x ∈ zs, x < 256) (hc : c < 256) (hl : zs.length = 64) (w : World) (hB0 : Bx < w.heap.size)
    (hB : Held w Bb 61 (arr8 zs)) (hX : w.cell? ⟨Bx, 0, none⟩ = some (.int .u8 (c : Int))) :
    CallsIn Fence.wide 4 Tryd.prog 64 #[.slice none 0 0, .func (.func 65) #[] #[.pointer (some ⟨Bb, 0, none⟩), .pointer (some ⟨Bx, 0, none⟩)]] w fun e W' => ∃ v, e = .returned v ∧ W'.ownsRow w.heap.size 5 1 v (mpad zs c).length ((nI (mpad zs c)).map (Value.int .u8)) ∧ Below w.heap.size w W' := by
  have h3F : Fence.wide.fn 65 := trivial
  have hro : Fence.wide.round = none := rfl
  obtain ⟨i0, hi, hz0, hz1, hz2⟩ := info_parts infoB
  refine callsIn_of_wp_marks Tryd.func64 rfl trivial ?_ hro
  simp only [Tryd.ntmps64, List.size_toArray, List.length_cons, List.length_nil, Nat.reduceAdd, Nat.reduceSub, Array.replicate_succ, Array.replicate_zero, List.push_toArray, List.append_toArray, List.nil_append, List.cons_append]
  gi_wp2
  have bO := Boxed.new w 27 (.slice none 0 0)
  have hB1 := hB.alloc (.cells #[.slice none 0 0] 27)
  have hB0' : Below w.heap.size w (w.alloc (.cells #[.slice none 0 0] 27)) := (Below.refl _ w).alloc (Nat.le_refl _) _
  have hX1 := (hB0'.cell (p := ⟨Bx, 0, none⟩) hB0).trans hX
  refine wpIn_rangeFunc_ownH hro (by omega) (gf := 65) (lb := #[.pointer (some ⟨Bb, 0, none⟩), .pointer (some ⟨Bx, 0, none⟩)]) rfl h3F (enters_of Tryd.func65 (by kernel_rfl) rfl)
    (pad_stops Fence.wide 3 h3F hro (by omega) Bb Bx w.heap.size zs c hz hc hl _ hB0 (by simp) hB1 hX1) belowK_t (belowK_b (by simp)) (Below.refl _ _) (fun _ => rfl)
    (fun pre W => (∃ v, Boxed W w.heap.size 27 v ∧ W.ownsRow w.heap.size 5 1 v pre.length ((nI pre).map (Value.int .u8)) ∧ True) ∧ Below w.heap.size w W)
    (fun _ _ _ => False)
    (OwnFrom.and (Own.from (holdsRow_own w.heap.size w.heap.size 27 5 1 (fun pre => pre.length) (fun pre => (nI pre).map (Value.int .u8)) (fun _ _ => True)) _) (ownFrom_below (Nat.le_refl _) (by simp)))
    (fun _ _ _ _ _ hs _ _ => hs)
    ⟨⟨_, bO, World.ownsRow_nil _ _ _ _, trivial⟩, hB0'⟩
    (fun x a' W => a' = { tmps := #[.slice none 0 0, .func (.func 65) #[] #[.pointer (some ⟨Bb, 0, none⟩), .pointer (some ⟨Bx, 0, none⟩)], .pointer (some ⟨w.heap.size, 0, none⟩), undef, .slice none 0 0, .int .u8 (x : Int), .func (.func 65) #[] #[.pointer (some ⟨Bb, 0, none⟩), .pointer (some ⟨Bx, 0, none⟩)], .int .u8 (x : Int), undef, undef, undef, undef, undef], defers := [] })
    (fun x a' _ X Y row hs hg hr => hs) ?assign ?body ?done ?stop
  case assign =>
    rintro l pre x W K ⟨⟨v, hv, hrow, _⟩, hB⟩ hK
    unfold byteV
    gi_wp2
    exact hK _ _ ((KeepsOthers.refl _).from _) (Below.refl _ W) ⟨⟨v, hv, hrow, trivial⟩, hB⟩ rfl
  case body =>
    rintro l pre x a' W hl ⟨r, hr⟩ ⟨⟨v, hv, hrow, _⟩, hB⟩ rfl hlt
    have hc := hv.cell
    have hfz := hv.frozen
    have hsz := hB.size
    have hn := World.alloc_heap_new W (.cells #[.int .u8 (x : Int)] 5)
    have hpl : pre.length + 1 ≤ maxLen := by unfold maxLen; omega
    gi_wp2_with (gi_at_builtin; refine wpListIn_append_own _ rfl _ _ 27 rfl w.heap.size 5 i0 (.int .u8 0) 1 1 Tryd.underlying27 hi hz0 hz1 hz2 rfl (by decide) _ _ _ rfl (hrow.alloc _) ⟨W.heap.size, 0, none⟩ 1 1 [.int .u8 (x : Int)] rfl rfl (World.news_of_block (cs := #[.int .u8 (x : Int)]) (t := 5) (fr := (0, 0)) hn) (by simp [Value.oneCell']) hpl (by omega) (by simp; omega) ?_; intro v' w1 hown' hgrow _; obtain ⟨g', cap', rfl⟩ := ownsRow_succ hown'; obtain ⟨hv1, hv2, hr2, hk2, hb2⟩ := boxed_appended (W := W) (w0 := W.alloc (.cells #[.int .u8 (x : Int)] 5)) (hv.alloc _) (by decide) (hrow.alloc _) (by simp; omega) (Nat.le_refl _) (KeepsOthers.alloc _ _) ((Below.refl _ _).alloc hsz _) hown' hgrow; have hc1 := hv1.cell; have hf1 := hv1.frozen)
    exact ⟨hk2.from _, hb2, ⟨⟨_, hv2, by simpa [nI] using hr2, trivial⟩, hB.trans hb2⟩⟩
  case done =>
    rintro D ys W hD rfl ⟨⟨v, hv, hrow, _⟩, hB⟩ hK
    have hc := hv.cell
    gi_wp2
    refine ⟨by simp, .inl ⟨_, _, rfl, run_takeDeferred hK, ?_⟩⟩
    exact ⟨_, results_tmp rfl _ _ _, v, rfl, ownsRow_putObj hrow _ hK rfl, hB.trans (belowK_b (w := w) (Nat.le_refl _) W D _ _ (by simp at hD; omega) hK rfl rfl)⟩
  case stop =>
    rintro D c pre W _ _ h _
    exact h.elim
theorem collect_pad (Bb Bx : Nat) (zs : List Nat) (c : Nat) (hz : ∀ x ∈ zs, x < 256) (hc : c < 256) (hl : zs.length = 64) (w : World) (hB0 : Bx < w.heap.size)
    (hB : Held w Bb 61 (arr8 zs)) (hX : w.cell? ⟨Bx, 0, none⟩ = some (.int .u8 (c : Int))) :
    Calls Tryd.prog 60 #[.func (.func 65) #[] #[.pointer (some ⟨Bb, 0, none⟩), .pointer (some ⟨Bx, 0, none⟩)]] w fun e W' => ∃ v, e = .returned v ∧ W'.ownsRow w.heap.size 5 1 v (mpad zs c).length ((nI (mpad zs c)).map (Value.int .u8)) ∧ Below w.heap.size w W' := by
  have K := Lib.hid (append_seq Bb Bx zs c hz hc hl w hB0 hB hX)
  clear hz hc hl hB hX
  go_in
  go_wp2_with fail
  refine ((callsIn_wide (n := 4)).1 K.out).mono ?_
  rintro e w1 ⟨v, rfl, hv, hb⟩
  go_wp2
  go_ret
  exact ⟨v, rfl, hv, hb⟩

set_option maxRecDepth 100000 in
theorem padded_own (zs : List Nat) (c : Nat) (hz : ∀ x ∈ zs, x < 256) (hc : c < 256) (hl : zs.length = 64) (A : Option Addr) (cap : Nat) (bs : List Nat) (w : World) (hR : SlI w w.heap.size .u8 A bs.length cap (nI bs)) (hmax : bs.length ≤ 900000) :
    Calls Tryd.prog 51 #[.agg (arr8 zs), .int .u8 (c : Int), .slice A bs.length cap] w fun e W' => ∃ v, e = .returned v ∧ W'.ownsRow w.heap.size 5 1 v (mpad zs c ++ bs).length ((nI (mpad zs c ++ bs)).map (Value.int .u8)) ∧ Below w.heap.size w W' := by
  obtain ⟨i0, hi0, hz0, hz1, hz2⟩ := info_parts infoB
  have hsz := arr64_size zs hl
  have hu := Tryd.underlying61
  have hml : (mpad zs c).length = 64 := by rw [mpad_len]; exact hl
  obtain ⟨w1, hw1⟩ : ∃ w1, w.alloc (.cells (arr8 zs) 61) = w1 := ⟨_, rfl⟩
  have hb1 : Below w.heap.size w w1 := by rw [← hw1]; exact (Below.refl _ w).alloc (Nat.le_refl _) _
  have hH1 : Held w1 w.heap.size 61 (arr8 zs) := by rw [← hw1]; exact Held.new _ _ _
  have hq1 : w1.heap.size = w.heap.size + 1 := by rw [← hw1]; simp
  obtain ⟨w2, hw2⟩ : ∃ w2, (w1.alloc (.cells (arr8 zs) 61)).alloc (.cells #[.int .u8 (c : Int)] 5) = w2 := ⟨_, rfl⟩
  have hb2 : Below w.heap.size w w2 := by rw [← hw2]; exact (hb1.alloc (by omega) _).alloc (by simp; omega) _
  have hH2 : Held w2 w1.heap.size 61 (arr8 zs) := by rw [← hw2]; exact (Held.new w1 _ _).alloc _
  have hX2 : w2.cell? ⟨w1.heap.size + 1, 0, none⟩ = some (.int .u8 (c : Int)) := by
    have h := (Held.new (w1.alloc (.cells (arr8 zs) 61)) 5 #[.int .u8 (c : Int)]).cell 0
    rw [World.size_alloc, hw2] at h
    exact h
  have hq2 : w2.heap.size = w1.heap.size + 2 := by rw [← hw2]; simp
  have KP := Lib.hid (pad_own zs c w1)
  have KC := Lib.hid (by have k := collect_pad w1.heap.size (w1.heap.size + 1) zs c hz hc hl w2 (by omega) hH2 hX2; rw [hq1] at k; exact k)
  have HR := Lib.hid hR
  clear hz hc hR hH2 hX2
  go_in
  go_wp2_with (first
    | (rw [show w.alloc (.cells (arr8 zs) 61) = w1 from hw1])
    | (refine wpList_load_row rfl 61 (.tmp 3) rfl w.heap.size rfl 61 (arr8 zs) (0, 0) _ hH1 hu rfl hsz ?_)
    | fail)
  refine (KP.out).mono ?_
  rintro e w9 ⟨rfl, h9⟩
  rw [hw2] at h9
  subst h9
  go_wp2_with fail
  refine (KC.out).mono ?_
  rintro e w3 ⟨v, rfl, hO3, hb3⟩
  have hbw3 := hb2.trans (hb3.mono (by omega))
  have hO3' := own_base hO3 (show w.heap.size ≤ w9.heap.size by omega)
  have sX := HR.out.up hbw3
  have hz3 := hbw3.size
  have HM := Lib.hid (show (mpad zs c).length + bs.length ≤ maxLen ∧ ((mpad zs c).length + bs.length) * 1 ≤ 140737488355328 ∧ w.heap.size ≤ w3.heap.size by unfold maxLen; omega)
  clear hw1 hw2 hO3
  go_wp2_with (first
    | ((with_reducible refine at_append ?_); refine wpList_append_sl w3 rfl (.tmp 10) (.tmp 11) 27 rfl w.heap.size 5 i0 (.int .u8 0) 1 Tryd.underlying27 hi0 hz0 hz1 hz2 rfl v (mpad zs c).length _ rfl hO3' _ .u8 A bs.length cap (nI bs) rfl sX HM.out.1 HM.out.2.1 HM.out.2.2 ?_
       intro v4 w4 hO4 hg4 hv4
       rw [← List.map_append, show nI (mpad zs c) ++ nI bs = nI (mpad zs c ++ bs) by simp [nI]] at hO4)
    | fail)
  go_ret
  exact ⟨v4, rfl, by rw [List.length_append]; exact hO4, hbw3.grown hg4 (by omega) (fun k e => (hO3'.lt k e).1)⟩
end Go.Proofs.YtjkhkgdijnhdmaaDoor
