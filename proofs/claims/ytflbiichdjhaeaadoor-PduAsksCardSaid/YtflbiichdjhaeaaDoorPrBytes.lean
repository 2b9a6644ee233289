/- regs.pairs and regs.Bytes. -/
import Derived.Test.YtflbiichdjhaeaaDoorRows
import Derived.Test.YtflbiichdjhaeaaDoorMemB
import Derived.Test.YtflbiichdjhaeaaDoorBoxes
import Derived.Test.YtflbiichdjhaeaaDoorOrders
import Derived.Test.YtflbiichdjhaeaaDoorKeep
import Derived.RangeFuncNested
import Derived.RangeFuncBound
import Derived.RangeFuncCalls
import Derived.RangeFuncLeaves
import Derived.Shelf.Abstract
import Derived.Shelf.RegionOpen
import Derived.WalkKit
import Derived.OwnWalkIn
import Derived.TacticsInMore
import Derived.LoopNIn
import Derived.LoopIn
import Derived.Maps.AppendAt
import Derived.Deep.AppendLies
namespace Go.Proofs.YtflbiichdjhaeaaDoor
open Go.RowKit Go.Shelf
attribute [local go_sem] Oper.semAt_some

/-- A register's number. -/
abbrev Reg := { x : Int // 0 ≤ x ∧ x < 65536 }
/-- Its two bytes, as an array. -/
def pairV (x : Reg) : Array Value := #[.agg #[.int .u8 (x.1 / 256), .int .u8 (x.1 % 256)]]

set_option maxRecDepth 100000 in
set_option maxHeartbeats 2000000 in
theorem pairs1_in (F : Fence) (n : Nat) (hF : F.fn 60) (hro : F.round = none) (hn : 1 ≤ n) (l Bs n₀ : Nat) (A : Option Addr) (len cap : Nat) (zs : List Reg) (hreach : len ≤ 1000000) (hl : zs.length = len) (J Jx : List Reg → World → Prop)
    (hY : ∀ pre x W, J pre W → pre.length < len → YieldAt F (n - 1) Tryd.prog l (pairV x) W fun e W' =>
      (e = .returned (.bool true) ∧ J (pre ++ [x]) W' ∧ Below n₀ W W') ∨ (e = .returned (.bool false) ∧ Jx (pre ++ [x]) W'))
    (W : World) (hBs : W.cell? ⟨Bs, 0, none⟩ = some (.slice A len cap)) (hc : RdI W n₀ .u16 A (zs.map (·.1))) (h0 : J [] W) :
    CallsIn F n Tryd.prog 60 #[.func (.yield l) #[] #[], .pointer (some ⟨Bs, 0, none⟩)] W fun e W' => (∃ v, e = .returned v) ∧
      ((∃ ys, ys = zs ∧ J ys W') ∨ (∃ pre, pre <+: zs ∧ Jx pre W')) := by
  have HC := Lib.hid hc
  have HL := Lib.hid hl
  clear hc hl
  refine callsIn_of_wp Tryd.func60 rfl hF ?_ hro
  simp only [Tryd.ntmps60, List.size_toArray, List.length_cons, List.length_nil, Nat.reduceAdd, Nat.reduceSub, Array.replicate_succ, Array.replicate_zero, List.push_toArray, List.append_toArray, List.nil_append, List.cons_append]
  gi_wp2
  gi_loopw [7] (fun i wr => ∃ k : Nat, k ≤ len ∧ i = .int .i64 k ∧ J (zs.take k) wr ∧ Below n₀ W wr)
    (fun i _ => len - (intOf i).toNat)
  case atStart => exact ⟨0, Nat.zero_le _, rfl, by simpa using h0, Below.refl _ _⟩
  case round =>
    obtain ⟨k, hk, rfl, hJs, hnx⟩ := hrel
    by_cases hlt : k < len
    · obtain ⟨x, hx⟩ : ∃ x, zs[k]? = some x := ⟨_, List.getElem?_eq_getElem (by rw [HL.out]; exact hlt)⟩
      obtain ⟨g, off, y, rfl, _, hy0, hcx⟩ := (HC.out.below hnx).at_ (i := k) (by rw [List.length_map, HL.out]; exact hlt)
      obtain rfl : x.1 = y := by simpa [hx] using hy0
      clear hy0
      obtain ⟨fn, tmps, assign, body, hy, hR⟩ := hY _ x wr hJs (by rw [List.length_take, HL.out]; omega)
      have HX := Lib.hid (show zs.take (k + 1) = zs.take k ++ [x] by rw [List.take_add_one, hx, Option.toList_some])
      obtain ⟨x, hx0, hx1⟩ := x
      unfold pairV at hy
      dsimp only at hy hcx
      clear hx
      gi_wp2
      refine hR.mono ?_
      rintro e W3 (⟨rfl, hJ3, hk3⟩ | ⟨rfl, hJx3⟩)
      · gi_wp2
        go_roundw
        case rel => exact ⟨k + 1, by omega, by simp, by rw [HX.out]; exact hJ3, hnx.trans hk3⟩
        case measure => simp [intOf]; omega
      · gi_wp2
        refine bodyPost_ret (results_none rfl _ _ _) rfl ?_
        exact ⟨⟨_, rfl⟩, .inr ⟨_, by rw [← HX.out]; exact List.take_prefix _ _, hJx3⟩⟩
    · obtain rfl : k = len := by omega
      gi_wp2
      go_end0
      exact ⟨⟨_, rfl⟩, .inl ⟨_, by rw [List.take_of_length_le (by rw [HL.out]; omega)], hJs⟩⟩

theorem pairs_in (F : Fence) (n : Nat) (hF : F.fn 50) (hro : F.round = none) (A : Option Addr) (len cap : Nat) (w : World) :
    CallsIn F n Tryd.prog 50 #[.slice A len cap] w fun e w' => e = .returned (.func (.func 60) #[] #[.pointer (some ⟨w.heap.size, 0, none⟩)]) ∧ w' = w.alloc (.cells #[.slice A len cap] 23) := by
  refine callsIn_of_wp Tryd.func50 rfl hF ?_ hro
  simp only [Tryd.ntmps50, List.size_toArray, List.length_cons, List.length_nil, Nat.reduceAdd, Nat.reduceSub, Array.replicate_succ, Array.replicate_zero, List.push_toArray, List.append_toArray, List.nil_append, List.cons_append]
  gi_wp2
  go_ret
  exact ⟨rfl, rfl⟩

theorem pairs_stops (F : Fence) (n : Nat) (hF : F.fn 60) (hro : F.round = none) (hn : 1 ≤ n) (Bs n₀ : Nat) (A : Option Addr) (len cap : Nat) (zs : List Reg) (hreach : len ≤ 1000000) (hl : zs.length = len) (w : World) (hBs : Bs < w.heap.size) (hn₀ : n₀ ≤ w.heap.size)
    (hc : w.cell? ⟨Bs, 0, none⟩ = some (.slice A len cap)) (hR : RdI w n₀ .u16 A (zs.map (·.1))) :
    SeqStopsK F n Tryd.prog 60 #[.pointer (some ⟨Bs, 0, none⟩)] pairV (Below n₀) (fun ys => ys = zs) (fun pre => pre <+: zs) len w := fun l J Jx W hW _ _ hY h0 =>
  pairs1_in F n hF hro hn l Bs n₀ A len cap zs hreach hl J Jx hY W ((hW.cell (p := ⟨Bs, 0, none⟩) hBs).trans hc) (hR.below (hW.mono hn₀)) h0

/-- Registers' bytes. -/
def bytesOf (l : List Reg) : List Int := l.flatMap fun x => [x.1 / 256, x.1 % 256]
theorem bytesOf_snoc (l : List Reg) (x : Reg) : bytesOf (l ++ [x]) = bytesOf l ++ [x.1 / 256, x.1 % 256] := by simp [bytesOf]
theorem bytesOf_len (l : List Reg) : (bytesOf l).length = 2 * l.length := by
  induction l with
  | nil => rfl
  | cons a l ih => simp [bytesOf] at ih ⊢; omega
theorem infoB : (Tryd.prog.info? 5).map (fun i => (i.zero, i.size, i.bytes)) = some (some (.int .u8 0), 1, 1) := by kernel_rfl

set_option maxRecDepth 100000 in
set_option maxHeartbeats 2000000 in
theorem bytes_in (F : Fence) (n : Nat) (h1F : F.fn 30) (h2F : F.fn 50) (h3F : F.fn 60) (hro : F.round = none) (hn : 3 ≤ n) (A : Option Addr) (len cap : Nat) (zs : List Reg) (hreach : len ≤ 1000000) (hl : zs.length = len) (w : World) (hR : RdI w w.heap.size .u16 A (zs.map (·.1))) :
    CallsIn F n Tryd.prog 30 #[.slice A len cap] w fun e W' => ∃ v, e = .returned v ∧ W'.ownsRow w.heap.size 5 1 v (bytesOf zs).length ((bytesOf zs).map (Value.int .u8)) ∧ Below w.heap.size w W' := by
  have h1 : 1 ≤ n := by omega
  have HR := Lib.hid hR
  have HL := Lib.hid hl
  clear hR hl
  obtain ⟨i0, hi, hz0, hz1, hz2⟩ := info_parts infoB
  refine callsIn_of_wp_marks Tryd.func30 rfl h1F ?_ hro
  simp only [Tryd.ntmps30, List.size_toArray, List.length_cons, List.length_nil, Nat.reduceAdd, Nat.reduceSub, Array.replicate_succ, Array.replicate_zero, List.push_toArray, List.append_toArray, List.nil_append, List.cons_append]
  gi_wp2_with (gi_at_call 50; refine (pairs_in F (n - 1) h2F hro A len cap _).mono ?_; rintro e w' ⟨rfl, rfl⟩)
  have bO := Boxed.new w 28 (.slice none 0 0)
  have bN := Boxed.new (w.alloc (.cells #[.slice none 0 0] 28)) 23 (.slice A len cap)
  rw [World.size_alloc] at bN
  have hB0 : Below w.heap.size w ((w.alloc (.cells #[.slice none 0 0] 28)).alloc (.cells #[.slice A len cap] 23)) := ((Below.refl _ w).alloc (Nat.le_refl _) _).alloc (by simp) _
  refine wpIn_rangeFunc_ownH hro h1 (gf := 60) (lb := #[.pointer (some ⟨w.heap.size + 1, 0, none⟩)]) rfl h3F (enters_of Tryd.func60 (by kernel_rfl) rfl)
    (pairs_stops F (n - 1) h3F hro (by omega) (w.heap.size + 1) w.heap.size A len cap zs hreach HL.out _ (by simp) (by simp; omega) bN.cell (HR.out.below hB0)) belowK_t (belowK_b (by simp; omega)) (Below.refl _ _) (fun _ => rfl)
    (fun pre W => (∃ v, Boxed W w.heap.size 28 v ∧ W.ownsRow w.heap.size 5 1 v (bytesOf pre).length ((bytesOf pre).map (Value.int .u8)) ∧ True) ∧ Below w.heap.size w W)
    (fun _ _ _ => False)
    (OwnFrom.and (Own.from (holdsRow_own w.heap.size w.heap.size 28 5 1 (fun pre => (bytesOf pre).length) (fun pre => (bytesOf pre).map (Value.int .u8)) (fun _ _ => True)) _) (ownFrom_below (Nat.le_refl _) (by simp; omega)))
    (fun _ _ _ _ _ hs _ _ => hs)
    ⟨⟨_, bO.alloc _, World.ownsRow_nil _ _ _ _, trivial⟩, hB0⟩
    (fun x a' W => ∃ Bx, w.heap.size < Bx ∧ Held W Bx 84 #[.int .u8 (x.1 / 256), .int .u8 (x.1 % 256)] ∧
      a' = { tmps := #[.slice A len cap, undef, .slice none 0 0, .pointer (some ⟨w.heap.size, 0, none⟩), .pointer (some ⟨Bx, 0, none⟩), .slice A len cap, .func (.func 60) #[] #[.pointer (some ⟨w.heap.size + 1, 0, none⟩)], .agg #[.int .u8 (x.1 / 256), .int .u8 (x.1 % 256)], undef, undef, undef, undef], defers := [] })
    (fun x a' _ X Y row hs hg hr => by obtain ⟨Bx, e1, e2, e3⟩ := hs; exact ⟨Bx, e1, held_ownFrom () X Y row e2 hg hr, e3⟩) ?assign ?body ?done ?stop
  case assign =>
    rintro l pre x W K ⟨⟨v, hv, hrow, _⟩, hB⟩ hK
    have hlt := hv.lt
    unfold pairV
    gi_wp2
    exact hK _ _ ((KeepsOthers.alloc _ _).from _) ((Below.refl _ W).alloc hB.size _) ⟨⟨v, hv.alloc _, hrow.alloc _, trivial⟩, hB.alloc hB.size _⟩ ⟨W.heap.size, hlt, Held.new _ _ _, rfl⟩
  case body =>
    rintro l pre x a' W hl ⟨r, hr⟩ ⟨⟨v, hv, hrow, _⟩, hB⟩ ⟨Bx, hBx, hX, rfl⟩ hlt
    have hc := hv.cell
    have hsz := hB.size
    have hpl := bytesOf_len pre
    have HPL := Lib.hid hpl
    have HSN := Lib.hid (bytesOf_snoc pre x)
    obtain ⟨x, hx0, hx1⟩ := x
    dsimp only at hX HSN ⊢
    clear hpl
    gi_wp2
    refine wpIn_region_two (by kernel_rfl) [0, 1, 2, 3] [1, 0, 2, 3] (by kernel_rfl) ?_ ?_
    all_goals
      simp only [opsAt_cons, opsAt_nil, List.getElem?_toArray, List.getElem?_cons_succ, List.getElem?_cons_zero, Option.toList_some, List.cons_append, List.nil_append]
      gi_wp2_with (gi_at_builtin; refine wpListIn_append_own _ rfl _ _ 28 rfl w.heap.size 5 i0 (.int .u8 0) 1 1 Tryd.underlying28 hi hz0 hz1 hz2 rfl (by decide) _ _ _ rfl hrow.drew ⟨Bx, 0, none⟩ 2 2 [.int .u8 (x / 256), .int .u8 (x % 256)] rfl rfl (World.news_of_block (cs := #[.int .u8 (x / 256), .int .u8 (x % 256)]) (t := 84) (fr := (0, 0)) hX.drew) (by simp [Value.oneCell']) (by rw [HPL.out]; unfold maxLen; omega) (by rw [HPL.out]; omega) (by simp; omega) ?_; intro v' w1 hown' hgrow _; obtain ⟨g', cap', rfl⟩ := ownsRow_succ hown'; obtain ⟨hv1, hv2, hr2, hk2, hb2⟩ := boxed_appended (W := W) (w0 := W.drew) hv (by decide) hrow.drew hsz (Nat.le_refl _) (KeepsOthers.drew _) ((Below.refl _ _).drew) hown' hgrow; have hc1 := hv1.cell; have hf1 := hv1.frozen)
      exact ⟨hk2.from _, hb2, ⟨⟨_, hv2, by rw [HSN.out]; simpa using hr2, trivial⟩, hB.trans hb2⟩⟩
  case done =>
    rintro D ys W hD rfl ⟨⟨v, hv, hrow, _⟩, hB⟩ hK
    have hc := hv.cell
    gi_wp2
    refine ⟨by simp, .inl ⟨_, _, rfl, run_takeDeferred hK, ?_⟩⟩
    exact ⟨_, results_tmp rfl _ _ _, v, rfl, ownsRow_putObj hrow _ hK rfl, hB.trans (belowK_b (w := w) (Nat.le_refl _) W D _ _ (by simp at hD; omega) hK rfl rfl)⟩
  case stop =>
    rintro D c pre W _ _ h _
    exact h.elim

theorem bytes_any (A : Option Addr) (len cap : Nat) (zs : List Reg) (hreach : len ≤ 1000000) (hl : zs.length = len) (w : World) (hR : RdI w w.heap.size .u16 A (zs.map (·.1))) :
    Calls Tryd.prog 30 #[.slice A len cap] w fun e W' => ∃ v, e = .returned v ∧ W'.ownsRow w.heap.size 5 1 v (bytesOf zs).length ((bytesOf zs).map (Value.int .u8)) ∧ Below w.heap.size w W' :=
  (callsIn_wide (n := 5)).1 (bytes_in Fence.wide 5 trivial trivial trivial rfl (by omega) A len cap zs hreach hl w hR)
end Go.Proofs.YtflbiichdjhaeaaDoor
