/- entry.fields: its iterator's contract. -/
import Derived.Test.YtjcpgnachkhjaaaDoorLedGet
import Derived.Test.YtjcpgnachkhjaaaDoorKeep
import Derived.Test.YtjcpgnachkhjaaaDoorBoxes
import Derived.RangeFuncNested
import Derived.RangeFuncBound
import Derived.RangeFuncCalls
import Derived.RangeFuncLeaves
import Derived.Shelf.Abstract
import Derived.Shelf.RegionOpen
import Derived.OwnWalkIn
import Derived.TacticsInMore
import Derived.LoopNIn
import Derived.LoopIn
namespace Go.Proofs.YtjcpgnachkhjaaaDoor
open Go.RowKit Go.Shelf
attribute [local go_sem] Oper.semAt_some
set_option linter.unusedVariables false
set_option linter.unusedSimpArgs false
set_option maxRecDepth 100000

/-- The ten letters. -/
def letN (x : Fin 10) : Int := [109, 116, 101, 98, 112, 99, 102, 110, 115, 104].getD x.1 0
def letV (x : Fin 10) : Array Value := #[.int .u8 (letN x)]
def fieldI (k : Int) : List (Fin 10) :=
  if k = 1 then [0, 1, 2, 3, 4, 5, 6] else if k = 2 then [0, 1, 7] else if k = 3 then [0, 1, 7, 8, 9] else if k = 4 then [0, 3, 2, 5, 8, 9] else if k = 5 then [8, 9] else []
theorem fieldI_L (k : Int) : (fieldI k).map letN = fieldL k := by
  unfold fieldI fieldL
  repeat' split
  all_goals rfl

/- The five kinds, one by one. -/
set_option maxHeartbeats 4000000 in
theorem fields1_1 (l Bs n₀ n₁ : Nat) (J Jx : List (Fin 10) → World → Prop)
    (hY : ∀ pre x W, J pre W → pre.length < 7 → YieldAt Fence.wide 4 Tryd.prog l (letV x) W fun e W' =>
      (e = .returned (.bool true) ∧ J (pre ++ [x]) W' ∧ Kx n₀ n₁ W W') ∨ (e = .returned (.bool false) ∧ Jx (pre ++ [x]) W'))
    (W : World) (hcs : W.cell? ⟨Bs, 0, none⟩ = some (.int .i64 1)) (h0 : J [] W) :
    CallsIn Fence.wide 5 Tryd.prog 55 #[.func (.yield l) #[] #[], .pointer (some ⟨Bs, 0, none⟩)] W fun e W' => (∃ v, e = .returned v) ∧
      ((∃ ys, ys = ([0, 1, 2, 3, 4, 5, 6] : List (Fin 10)) ∧ J ys W') ∨ (∃ pre, pre <+: ([0, 1, 2, 3, 4, 5, 6] : List (Fin 10)) ∧ Jx pre W')) := by
  refine callsIn_of_wp Tryd.func55 rfl trivial ?_ rfl
  simp only [Tryd.ntmps55, List.size_toArray, List.length_cons, List.length_nil, Nat.reduceAdd, Nat.reduceSub, Array.replicate_succ, Array.replicate_zero, List.push_toArray, List.append_toArray, List.nil_append, List.cons_append]
  gi_wp2
  gi_loopw [18] (fun n wr => ∃ i : Nat, i ≤ 7 ∧ n = .int .i64 i ∧ J (([0, 1, 2, 3, 4, 5, 6] : List (Fin 10)).take i) wr ∧ Kx n₀ n₁ W wr) (fun n _ => 8 - (intOf n).toNat)
  case atStart => exact ⟨0, Nat.zero_le _, rfl, by simpa using h0, Kx.refl _ _ _⟩
  case round =>
    obtain ⟨i, hi, rfl, hJs, hnx⟩ := hrel
    rcases (show i = 0 ∨ i = 1 ∨ i = 2 ∨ i = 3 ∨ i = 4 ∨ i = 5 ∨ i = 6 ∨ i = 7 by omega) with rfl | rfl | rfl | rfl | rfl | rfl | rfl | rfl
    · obtain ⟨fn, tmps, assign, body, hy, hR⟩ := hY _ (0 : Fin 10) wr hJs (by decide)
      have HX : Hid (([0, 1, 2, 3, 4, 5, 6] : List (Fin 10)).take 0 ++ [(0 : Fin 10)] = ([0, 1, 2, 3, 4, 5, 6] : List (Fin 10)).take 1) := Lib.hid (by decide)
      have hb : (({ data := #[109, 116, 101, 98, 112, 99, 102] } : ByteArray)[0]'(by decide)).toNat = 109 := rfl
      have hy2 : Instr.yield l #[Value.int .u8 ((({ data := #[109, 116, 101, 98, 112, 99, 102] } : ByteArray)[0]'(by decide)).toNat : Nat)] = Instr.yield l #[Value.int .u8 109] := rfl
      change (Instr.yield l #[Value.int .u8 109]).run Tryd.prog wr = _ at hy
      rw [← hy2] at hy
      clear hy2 hb
      clear hJs
      gi_wp2
      refine hR.mono ?_
      rintro e W3 (⟨rfl, hJ3, hk3⟩ | ⟨rfl, hJx3⟩)
      · gi_wp2
        go_roundw
        case rel => exact ⟨1, by omega, rfl, by rw [← HX.out]; exact hJ3, hnx.trans hk3⟩
        case measure => simp [intOf]
      · gi_wp2
        refine bodyPost_ret (results_none rfl _ _ _) rfl ?_
        exact ⟨⟨_, rfl⟩, .inr ⟨_, by rw [HX.out]; exact List.take_prefix _ _, hJx3⟩⟩
    · obtain ⟨fn, tmps, assign, body, hy, hR⟩ := hY _ (1 : Fin 10) wr hJs (by decide)
      have HX : Hid (([0, 1, 2, 3, 4, 5, 6] : List (Fin 10)).take 1 ++ [(1 : Fin 10)] = ([0, 1, 2, 3, 4, 5, 6] : List (Fin 10)).take 2) := Lib.hid (by decide)
      have hb : (({ data := #[109, 116, 101, 98, 112, 99, 102] } : ByteArray)[1]'(by decide)).toNat = 116 := rfl
      have hy2 : Instr.yield l #[Value.int .u8 ((({ data := #[109, 116, 101, 98, 112, 99, 102] } : ByteArray)[1]'(by decide)).toNat : Nat)] = Instr.yield l #[Value.int .u8 116] := rfl
      change (Instr.yield l #[Value.int .u8 116]).run Tryd.prog wr = _ at hy
      rw [← hy2] at hy
      clear hy2 hb
      clear hJs
      gi_wp2
      refine hR.mono ?_
      rintro e W3 (⟨rfl, hJ3, hk3⟩ | ⟨rfl, hJx3⟩)
      · gi_wp2
        go_roundw
        case rel => exact ⟨2, by omega, rfl, by rw [← HX.out]; exact hJ3, hnx.trans hk3⟩
        case measure => simp [intOf]
      · gi_wp2
        refine bodyPost_ret (results_none rfl _ _ _) rfl ?_
        exact ⟨⟨_, rfl⟩, .inr ⟨_, by rw [HX.out]; exact List.take_prefix _ _, hJx3⟩⟩
    · obtain ⟨fn, tmps, assign, body, hy, hR⟩ := hY _ (2 : Fin 10) wr hJs (by decide)
      have HX : Hid (([0, 1, 2, 3, 4, 5, 6] : List (Fin 10)).take 2 ++ [(2 : Fin 10)] = ([0, 1, 2, 3, 4, 5, 6] : List (Fin 10)).take 3) := Lib.hid (by decide)
      have hb : (({ data := #[109, 116, 101, 98, 112, 99, 102] } : ByteArray)[2]'(by decide)).toNat = 101 := rfl
      have hy2 : Instr.yield l #[Value.int .u8 ((({ data := #[109, 116, 101, 98, 112, 99, 102] } : ByteArray)[2]'(by decide)).toNat : Nat)] = Instr.yield l #[Value.int .u8 101] := rfl
      change (Instr.yield l #[Value.int .u8 101]).run Tryd.prog wr = _ at hy
      rw [← hy2] at hy
      clear hy2 hb
      clear hJs
      gi_wp2
      refine hR.mono ?_
      rintro e W3 (⟨rfl, hJ3, hk3⟩ | ⟨rfl, hJx3⟩)
      · gi_wp2
        go_roundw
        case rel => exact ⟨3, by omega, rfl, by rw [← HX.out]; exact hJ3, hnx.trans hk3⟩
        case measure => simp [intOf]
      · gi_wp2
        refine bodyPost_ret (results_none rfl _ _ _) rfl ?_
        exact ⟨⟨_, rfl⟩, .inr ⟨_, by rw [HX.out]; exact List.take_prefix _ _, hJx3⟩⟩
    · obtain ⟨fn, tmps, assign, body, hy, hR⟩ := hY _ (3 : Fin 10) wr hJs (by decide)
      have HX : Hid (([0, 1, 2, 3, 4, 5, 6] : List (Fin 10)).take 3 ++ [(3 : Fin 10)] = ([0, 1, 2, 3, 4, 5, 6] : List (Fin 10)).take 4) := Lib.hid (by decide)
      have hb : (({ data := #[109, 116, 101, 98, 112, 99, 102] } : ByteArray)[3]'(by decide)).toNat = 98 := rfl
      have hy2 : Instr.yield l #[Value.int .u8 ((({ data := #[109, 116, 101, 98, 112, 99, 102] } : ByteArray)[3]'(by decide)).toNat : Nat)] = Instr.yield l #[Value.int .u8 98] := rfl
      change (Instr.yield l #[Value.int .u8 98]).run Tryd.prog wr = _ at hy
      rw [← hy2] at hy
      clear hy2 hb
      clear hJs
      gi_wp2
      refine hR.mono ?_
      rintro e W3 (⟨rfl, hJ3, hk3⟩ | ⟨rfl, hJx3⟩)
      · gi_wp2
        go_roundw
        case rel => exact ⟨4, by omega, rfl, by rw [← HX.out]; exact hJ3, hnx.trans hk3⟩
        case measure => simp [intOf]
      · gi_wp2
        refine bodyPost_ret (results_none rfl _ _ _) rfl ?_
        exact ⟨⟨_, rfl⟩, .inr ⟨_, by rw [HX.out]; exact List.take_prefix _ _, hJx3⟩⟩
    · obtain ⟨fn, tmps, assign, body, hy, hR⟩ := hY _ (4 : Fin 10) wr hJs (by decide)
      have HX : Hid (([0, 1, 2, 3, 4, 5, 6] : List (Fin 10)).take 4 ++ [(4 : Fin 10)] = ([0, 1, 2, 3, 4, 5, 6] : List (Fin 10)).take 5) := Lib.hid (by decide)
      have hb : (({ data := #[109, 116, 101, 98, 112, 99, 102] } : ByteArray)[4]'(by decide)).toNat = 112 := rfl
      have hy2 : Instr.yield l #[Value.int .u8 ((({ data := #[109, 116, 101, 98, 112, 99, 102] } : ByteArray)[4]'(by decide)).toNat : Nat)] = Instr.yield l #[Value.int .u8 112] := rfl
      change (Instr.yield l #[Value.int .u8 112]).run Tryd.prog wr = _ at hy
      rw [← hy2] at hy
      clear hy2 hb
      clear hJs
      gi_wp2
      refine hR.mono ?_
      rintro e W3 (⟨rfl, hJ3, hk3⟩ | ⟨rfl, hJx3⟩)
      · gi_wp2
        go_roundw
        case rel => exact ⟨5, by omega, rfl, by rw [← HX.out]; exact hJ3, hnx.trans hk3⟩
        case measure => simp [intOf]
      · gi_wp2
        refine bodyPost_ret (results_none rfl _ _ _) rfl ?_
        exact ⟨⟨_, rfl⟩, .inr ⟨_, by rw [HX.out]; exact List.take_prefix _ _, hJx3⟩⟩
    · obtain ⟨fn, tmps, assign, body, hy, hR⟩ := hY _ (5 : Fin 10) wr hJs (by decide)
      have HX : Hid (([0, 1, 2, 3, 4, 5, 6] : List (Fin 10)).take 5 ++ [(5 : Fin 10)] = ([0, 1, 2, 3, 4, 5, 6] : List (Fin 10)).take 6) := Lib.hid (by decide)
      have hb : (({ data := #[109, 116, 101, 98, 112, 99, 102] } : ByteArray)[5]'(by decide)).toNat = 99 := rfl
      have hy2 : Instr.yield l #[Value.int .u8 ((({ data := #[109, 116, 101, 98, 112, 99, 102] } : ByteArray)[5]'(by decide)).toNat : Nat)] = Instr.yield l #[Value.int .u8 99] := rfl
      change (Instr.yield l #[Value.int .u8 99]).run Tryd.prog wr = _ at hy
      rw [← hy2] at hy
      clear hy2 hb
      clear hJs
      gi_wp2
      refine hR.mono ?_
      rintro e W3 (⟨rfl, hJ3, hk3⟩ | ⟨rfl, hJx3⟩)
      · gi_wp2
        go_roundw
        case rel => exact ⟨6, by omega, rfl, by rw [← HX.out]; exact hJ3, hnx.trans hk3⟩
        case measure => simp [intOf]
      · gi_wp2
        refine bodyPost_ret (results_none rfl _ _ _) rfl ?_
        exact ⟨⟨_, rfl⟩, .inr ⟨_, by rw [HX.out]; exact List.take_prefix _ _, hJx3⟩⟩
    · obtain ⟨fn, tmps, assign, body, hy, hR⟩ := hY _ (6 : Fin 10) wr hJs (by decide)
      have HX : Hid (([0, 1, 2, 3, 4, 5, 6] : List (Fin 10)).take 6 ++ [(6 : Fin 10)] = ([0, 1, 2, 3, 4, 5, 6] : List (Fin 10)).take 7) := Lib.hid (by decide)
      have hb : (({ data := #[109, 116, 101, 98, 112, 99, 102] } : ByteArray)[6]'(by decide)).toNat = 102 := rfl
      have hy2 : Instr.yield l #[Value.int .u8 ((({ data := #[109, 116, 101, 98, 112, 99, 102] } : ByteArray)[6]'(by decide)).toNat : Nat)] = Instr.yield l #[Value.int .u8 102] := rfl
      change (Instr.yield l #[Value.int .u8 102]).run Tryd.prog wr = _ at hy
      rw [← hy2] at hy
      clear hy2 hb
      clear hJs
      gi_wp2
      refine hR.mono ?_
      rintro e W3 (⟨rfl, hJ3, hk3⟩ | ⟨rfl, hJx3⟩)
      · gi_wp2
        go_roundw
        case rel => exact ⟨7, by omega, rfl, by rw [← HX.out]; exact hJ3, hnx.trans hk3⟩
        case measure => simp [intOf]
      · gi_wp2
        refine bodyPost_ret (results_none rfl _ _ _) rfl ?_
        exact ⟨⟨_, rfl⟩, .inr ⟨_, by rw [HX.out]; exact List.take_prefix _ _, hJx3⟩⟩
    · gi_wp2
      go_end0
      exact ⟨⟨_, rfl⟩, .inl ⟨_, rfl, hJs⟩⟩
set_option maxHeartbeats 4000000 in
theorem fields1_2 (l Bs n₀ n₁ : Nat) (J Jx : List (Fin 10) → World → Prop)
    (hY : ∀ pre x W, J pre W → pre.length < 7 → YieldAt Fence.wide 4 Tryd.prog l (letV x) W fun e W' =>
      (e = .returned (.bool true) ∧ J (pre ++ [x]) W' ∧ Kx n₀ n₁ W W') ∨ (e = .returned (.bool false) ∧ Jx (pre ++ [x]) W'))
    (W : World) (hcs : W.cell? ⟨Bs, 0, none⟩ = some (.int .i64 2)) (h0 : J [] W) :
    CallsIn Fence.wide 5 Tryd.prog 55 #[.func (.yield l) #[] #[], .pointer (some ⟨Bs, 0, none⟩)] W fun e W' => (∃ v, e = .returned v) ∧
      ((∃ ys, ys = ([0, 1, 7] : List (Fin 10)) ∧ J ys W') ∨ (∃ pre, pre <+: ([0, 1, 7] : List (Fin 10)) ∧ Jx pre W')) := by
  refine callsIn_of_wp Tryd.func55 rfl trivial ?_ rfl
  simp only [Tryd.ntmps55, List.size_toArray, List.length_cons, List.length_nil, Nat.reduceAdd, Nat.reduceSub, Array.replicate_succ, Array.replicate_zero, List.push_toArray, List.append_toArray, List.nil_append, List.cons_append]
  gi_wp2
  gi_loopw [18] (fun n wr => ∃ i : Nat, i ≤ 3 ∧ n = .int .i64 i ∧ J (([0, 1, 7] : List (Fin 10)).take i) wr ∧ Kx n₀ n₁ W wr) (fun n _ => 4 - (intOf n).toNat)
  case atStart => exact ⟨0, Nat.zero_le _, rfl, by simpa using h0, Kx.refl _ _ _⟩
  case round =>
    obtain ⟨i, hi, rfl, hJs, hnx⟩ := hrel
    rcases (show i = 0 ∨ i = 1 ∨ i = 2 ∨ i = 3 by omega) with rfl | rfl | rfl | rfl
    · obtain ⟨fn, tmps, assign, body, hy, hR⟩ := hY _ (0 : Fin 10) wr hJs (by decide)
      have HX : Hid (([0, 1, 7] : List (Fin 10)).take 0 ++ [(0 : Fin 10)] = ([0, 1, 7] : List (Fin 10)).take 1) := Lib.hid (by decide)
      have hb : (({ data := #[109, 116, 110] } : ByteArray)[0]'(by decide)).toNat = 109 := rfl
      have hy2 : Instr.yield l #[Value.int .u8 ((({ data := #[109, 116, 110] } : ByteArray)[0]'(by decide)).toNat : Nat)] = Instr.yield l #[Value.int .u8 109] := rfl
      change (Instr.yield l #[Value.int .u8 109]).run Tryd.prog wr = _ at hy
      rw [← hy2] at hy
      clear hy2 hb
      clear hJs
      gi_wp2
      refine hR.mono ?_
      rintro e W3 (⟨rfl, hJ3, hk3⟩ | ⟨rfl, hJx3⟩)
      · gi_wp2
        go_roundw
        case rel => exact ⟨1, by omega, rfl, by rw [← HX.out]; exact hJ3, hnx.trans hk3⟩
        case measure => simp [intOf]
      · gi_wp2
        refine bodyPost_ret (results_none rfl _ _ _) rfl ?_
        exact ⟨⟨_, rfl⟩, .inr ⟨_, by rw [HX.out]; exact List.take_prefix _ _, hJx3⟩⟩
    · obtain ⟨fn, tmps, assign, body, hy, hR⟩ := hY _ (1 : Fin 10) wr hJs (by decide)
      have HX : Hid (([0, 1, 7] : List (Fin 10)).take 1 ++ [(1 : Fin 10)] = ([0, 1, 7] : List (Fin 10)).take 2) := Lib.hid (by decide)
      have hb : (({ data := #[109, 116, 110] } : ByteArray)[1]'(by decide)).toNat = 116 := rfl
      have hy2 : Instr.yield l #[Value.int .u8 ((({ data := #[109, 116, 110] } : ByteArray)[1]'(by decide)).toNat : Nat)] = Instr.yield l #[Value.int .u8 116] := rfl
      change (Instr.yield l #[Value.int .u8 116]).run Tryd.prog wr = _ at hy
      rw [← hy2] at hy
      clear hy2 hb
      clear hJs
      gi_wp2
      refine hR.mono ?_
      rintro e W3 (⟨rfl, hJ3, hk3⟩ | ⟨rfl, hJx3⟩)
      · gi_wp2
        go_roundw
        case rel => exact ⟨2, by omega, rfl, by rw [← HX.out]; exact hJ3, hnx.trans hk3⟩
        case measure => simp [intOf]
      · gi_wp2
        refine bodyPost_ret (results_none rfl _ _ _) rfl ?_
        exact ⟨⟨_, rfl⟩, .inr ⟨_, by rw [HX.out]; exact List.take_prefix _ _, hJx3⟩⟩
    · obtain ⟨fn, tmps, assign, body, hy, hR⟩ := hY _ (7 : Fin 10) wr hJs (by decide)
      have HX : Hid (([0, 1, 7] : List (Fin 10)).take 2 ++ [(7 : Fin 10)] = ([0, 1, 7] : List (Fin 10)).take 3) := Lib.hid (by decide)
      have hb : (({ data := #[109, 116, 110] } : ByteArray)[2]'(by decide)).toNat = 110 := rfl
      have hy2 : Instr.yield l #[Value.int .u8 ((({ data := #[109, 116, 110] } : ByteArray)[2]'(by decide)).toNat : Nat)] = Instr.yield l #[Value.int .u8 110] := rfl
      change (Instr.yield l #[Value.int .u8 110]).run Tryd.prog wr = _ at hy
      rw [← hy2] at hy
      clear hy2 hb
      clear hJs
      gi_wp2
      refine hR.mono ?_
      rintro e W3 (⟨rfl, hJ3, hk3⟩ | ⟨rfl, hJx3⟩)
      · gi_wp2
        go_roundw
        case rel => exact ⟨3, by omega, rfl, by rw [← HX.out]; exact hJ3, hnx.trans hk3⟩
        case measure => simp [intOf]
      · gi_wp2
        refine bodyPost_ret (results_none rfl _ _ _) rfl ?_
        exact ⟨⟨_, rfl⟩, .inr ⟨_, by rw [HX.out]; exact List.take_prefix _ _, hJx3⟩⟩
    · gi_wp2
      go_end0
      exact ⟨⟨_, rfl⟩, .inl ⟨_, rfl, hJs⟩⟩
set_option maxHeartbeats 4000000 in
theorem fields1_3 (l Bs n₀ n₁ : Nat) (J Jx : List (Fin 10) → World → Prop)
    (hY : ∀ pre x W, J pre W → pre.length < 7 → YieldAt Fence.wide 4 Tryd.prog l (letV x) W fun e W' =>
      (e = .returned (.bool true) ∧ J (pre ++ [x]) W' ∧ Kx n₀ n₁ W W') ∨ (e = .returned (.bool false) ∧ Jx (pre ++ [x]) W'))
    (W : World) (hcs : W.cell? ⟨Bs, 0, none⟩ = some (.int .i64 3)) (h0 : J [] W) :
    CallsIn Fence.wide 5 Tryd.prog 55 #[.func (.yield l) #[] #[], .pointer (some ⟨Bs, 0, none⟩)] W fun e W' => (∃ v, e = .returned v) ∧
      ((∃ ys, ys = ([0, 1, 7, 8, 9] : List (Fin 10)) ∧ J ys W') ∨ (∃ pre, pre <+: ([0, 1, 7, 8, 9] : List (Fin 10)) ∧ Jx pre W')) := by
  refine callsIn_of_wp Tryd.func55 rfl trivial ?_ rfl
  simp only [Tryd.ntmps55, List.size_toArray, List.length_cons, List.length_nil, Nat.reduceAdd, Nat.reduceSub, Array.replicate_succ, Array.replicate_zero, List.push_toArray, List.append_toArray, List.nil_append, List.cons_append]
  gi_wp2
  gi_loopw [18] (fun n wr => ∃ i : Nat, i ≤ 5 ∧ n = .int .i64 i ∧ J (([0, 1, 7, 8, 9] : List (Fin 10)).take i) wr ∧ Kx n₀ n₁ W wr) (fun n _ => 6 - (intOf n).toNat)
  case atStart => exact ⟨0, Nat.zero_le _, rfl, by simpa using h0, Kx.refl _ _ _⟩
  case round =>
    obtain ⟨i, hi, rfl, hJs, hnx⟩ := hrel
    rcases (show i = 0 ∨ i = 1 ∨ i = 2 ∨ i = 3 ∨ i = 4 ∨ i = 5 by omega) with rfl | rfl | rfl | rfl | rfl | rfl
    · obtain ⟨fn, tmps, assign, body, hy, hR⟩ := hY _ (0 : Fin 10) wr hJs (by decide)
      have HX : Hid (([0, 1, 7, 8, 9] : List (Fin 10)).take 0 ++ [(0 : Fin 10)] = ([0, 1, 7, 8, 9] : List (Fin 10)).take 1) := Lib.hid (by decide)
      have hb : (({ data := #[109, 116, 110, 115, 104] } : ByteArray)[0]'(by decide)).toNat = 109 := rfl
      have hy2 : Instr.yield l #[Value.int .u8 ((({ data := #[109, 116, 110, 115, 104] } : ByteArray)[0]'(by decide)).toNat : Nat)] = Instr.yield l #[Value.int .u8 109] := rfl
      change (Instr.yield l #[Value.int .u8 109]).run Tryd.prog wr = _ at hy
      rw [← hy2] at hy
      clear hy2 hb
      clear hJs
      gi_wp2
      refine hR.mono ?_
      rintro e W3 (⟨rfl, hJ3, hk3⟩ | ⟨rfl, hJx3⟩)
      · gi_wp2
        go_roundw
        case rel => exact ⟨1, by omega, rfl, by rw [← HX.out]; exact hJ3, hnx.trans hk3⟩
        case measure => simp [intOf]
      · gi_wp2
        refine bodyPost_ret (results_none rfl _ _ _) rfl ?_
        exact ⟨⟨_, rfl⟩, .inr ⟨_, by rw [HX.out]; exact List.take_prefix _ _, hJx3⟩⟩
    · obtain ⟨fn, tmps, assign, body, hy, hR⟩ := hY _ (1 : Fin 10) wr hJs (by decide)
      have HX : Hid (([0, 1, 7, 8, 9] : List (Fin 10)).take 1 ++ [(1 : Fin 10)] = ([0, 1, 7, 8, 9] : List (Fin 10)).take 2) := Lib.hid (by decide)
      have hb : (({ data := #[109, 116, 110, 115, 104] } : ByteArray)[1]'(by decide)).toNat = 116 := rfl
      have hy2 : Instr.yield l #[Value.int .u8 ((({ data := #[109, 116, 110, 115, 104] } : ByteArray)[1]'(by decide)).toNat : Nat)] = Instr.yield l #[Value.int .u8 116] := rfl
      change (Instr.yield l #[Value.int .u8 116]).run Tryd.prog wr = _ at hy
      rw [← hy2] at hy
      clear hy2 hb
      clear hJs
      gi_wp2
      refine hR.mono ?_
      rintro e W3 (⟨rfl, hJ3, hk3⟩ | ⟨rfl, hJx3⟩)
      · gi_wp2
        go_roundw
        case rel => exact ⟨2, by omega, rfl, by rw [← HX.out]; exact hJ3, hnx.trans hk3⟩
        case measure => simp [intOf]
      · gi_wp2
        refine bodyPost_ret (results_none rfl _ _ _) rfl ?_
        exact ⟨⟨_, rfl⟩, .inr ⟨_, by rw [HX.out]; exact List.take_prefix _ _, hJx3⟩⟩
    · obtain ⟨fn, tmps, assign, body, hy, hR⟩ := hY _ (7 : Fin 10) wr hJs (by decide)
      have HX : Hid (([0, 1, 7, 8, 9] : List (Fin 10)).take 2 ++ [(7 : Fin 10)] = ([0, 1, 7, 8, 9] : List (Fin 10)).take 3) := Lib.hid (by decide)
      have hb : (({ data := #[109, 116, 110, 115, 104] } : ByteArray)[2]'(by decide)).toNat = 110 := rfl
      have hy2 : Instr.yield l #[Value.int .u8 ((({ data := #[109, 116, 110, 115, 104] } : ByteArray)[2]'(by decide)).toNat : Nat)] = Instr.yield l #[Value.int .u8 110] := rfl
      change (Instr.yield l #[Value.int .u8 110]).run Tryd.prog wr = _ at hy
      rw [← hy2] at hy
      clear hy2 hb
      clear hJs
      gi_wp2
      refine hR.mono ?_
      rintro e W3 (⟨rfl, hJ3, hk3⟩ | ⟨rfl, hJx3⟩)
      · gi_wp2
        go_roundw
        case rel => exact ⟨3, by omega, rfl, by rw [← HX.out]; exact hJ3, hnx.trans hk3⟩
        case measure => simp [intOf]
      · gi_wp2
        refine bodyPost_ret (results_none rfl _ _ _) rfl ?_
        exact ⟨⟨_, rfl⟩, .inr ⟨_, by rw [HX.out]; exact List.take_prefix _ _, hJx3⟩⟩
    · obtain ⟨fn, tmps, assign, body, hy, hR⟩ := hY _ (8 : Fin 10) wr hJs (by decide)
      have HX : Hid (([0, 1, 7, 8, 9] : List (Fin 10)).take 3 ++ [(8 : Fin 10)] = ([0, 1, 7, 8, 9] : List (Fin 10)).take 4) := Lib.hid (by decide)
      have hb : (({ data := #[109, 116, 110, 115, 104] } : ByteArray)[3]'(by decide)).toNat = 115 := rfl
      have hy2 : Instr.yield l #[Value.int .u8 ((({ data := #[109, 116, 110, 115, 104] } : ByteArray)[3]'(by decide)).toNat : Nat)] = Instr.yield l #[Value.int .u8 115] := rfl
      change (Instr.yield l #[Value.int .u8 115]).run Tryd.prog wr = _ at hy
      rw [← hy2] at hy
      clear hy2 hb
      clear hJs
      gi_wp2
      refine hR.mono ?_
      rintro e W3 (⟨rfl, hJ3, hk3⟩ | ⟨rfl, hJx3⟩)
      · gi_wp2
        go_roundw
        case rel => exact ⟨4, by omega, rfl, by rw [← HX.out]; exact hJ3, hnx.trans hk3⟩
        case measure => simp [intOf]
      · gi_wp2
        refine bodyPost_ret (results_none rfl _ _ _) rfl ?_
        exact ⟨⟨_, rfl⟩, .inr ⟨_, by rw [HX.out]; exact List.take_prefix _ _, hJx3⟩⟩
    · obtain ⟨fn, tmps, assign, body, hy, hR⟩ := hY _ (9 : Fin 10) wr hJs (by decide)
      have HX : Hid (([0, 1, 7, 8, 9] : List (Fin 10)).take 4 ++ [(9 : Fin 10)] = ([0, 1, 7, 8, 9] : List (Fin 10)).take 5) := Lib.hid (by decide)
      have hb : (({ data := #[109, 116, 110, 115, 104] } : ByteArray)[4]'(by decide)).toNat = 104 := rfl
      have hy2 : Instr.yield l #[Value.int .u8 ((({ data := #[109, 116, 110, 115, 104] } : ByteArray)[4]'(by decide)).toNat : Nat)] = Instr.yield l #[Value.int .u8 104] := rfl
      change (Instr.yield l #[Value.int .u8 104]).run Tryd.prog wr = _ at hy
      rw [← hy2] at hy
      clear hy2 hb
      clear hJs
      gi_wp2
      refine hR.mono ?_
      rintro e W3 (⟨rfl, hJ3, hk3⟩ | ⟨rfl, hJx3⟩)
      · gi_wp2
        go_roundw
        case rel => exact ⟨5, by omega, rfl, by rw [← HX.out]; exact hJ3, hnx.trans hk3⟩
        case measure => simp [intOf]
      · gi_wp2
        refine bodyPost_ret (results_none rfl _ _ _) rfl ?_
        exact ⟨⟨_, rfl⟩, .inr ⟨_, by rw [HX.out]; exact List.take_prefix _ _, hJx3⟩⟩
    · gi_wp2
      go_end0
      exact ⟨⟨_, rfl⟩, .inl ⟨_, rfl, hJs⟩⟩
set_option maxHeartbeats 4000000 in
theorem fields1_4 (l Bs n₀ n₁ : Nat) (J Jx : List (Fin 10) → World → Prop)
    (hY : ∀ pre x W, J pre W → pre.length < 7 → YieldAt Fence.wide 4 Tryd.prog l (letV x) W fun e W' =>
      (e = .returned (.bool true) ∧ J (pre ++ [x]) W' ∧ Kx n₀ n₁ W W') ∨ (e = .returned (.bool false) ∧ Jx (pre ++ [x]) W'))
    (W : World) (hcs : W.cell? ⟨Bs, 0, none⟩ = some (.int .i64 4)) (h0 : J [] W) :
    CallsIn Fence.wide 5 Tryd.prog 55 #[.func (.yield l) #[] #[], .pointer (some ⟨Bs, 0, none⟩)] W fun e W' => (∃ v, e = .returned v) ∧
      ((∃ ys, ys = ([0, 3, 2, 5, 8, 9] : List (Fin 10)) ∧ J ys W') ∨ (∃ pre, pre <+: ([0, 3, 2, 5, 8, 9] : List (Fin 10)) ∧ Jx pre W')) := by
  refine callsIn_of_wp Tryd.func55 rfl trivial ?_ rfl
  simp only [Tryd.ntmps55, List.size_toArray, List.length_cons, List.length_nil, Nat.reduceAdd, Nat.reduceSub, Array.replicate_succ, Array.replicate_zero, List.push_toArray, List.append_toArray, List.nil_append, List.cons_append]
  gi_wp2
  gi_loopw [18] (fun n wr => ∃ i : Nat, i ≤ 6 ∧ n = .int .i64 i ∧ J (([0, 3, 2, 5, 8, 9] : List (Fin 10)).take i) wr ∧ Kx n₀ n₁ W wr) (fun n _ => 7 - (intOf n).toNat)
  case atStart => exact ⟨0, Nat.zero_le _, rfl, by simpa using h0, Kx.refl _ _ _⟩
  case round =>
    obtain ⟨i, hi, rfl, hJs, hnx⟩ := hrel
    rcases (show i = 0 ∨ i = 1 ∨ i = 2 ∨ i = 3 ∨ i = 4 ∨ i = 5 ∨ i = 6 by omega) with rfl | rfl | rfl | rfl | rfl | rfl | rfl
    · obtain ⟨fn, tmps, assign, body, hy, hR⟩ := hY _ (0 : Fin 10) wr hJs (by decide)
      have HX : Hid (([0, 3, 2, 5, 8, 9] : List (Fin 10)).take 0 ++ [(0 : Fin 10)] = ([0, 3, 2, 5, 8, 9] : List (Fin 10)).take 1) := Lib.hid (by decide)
      have hb : (({ data := #[109, 98, 101, 99, 115, 104] } : ByteArray)[0]'(by decide)).toNat = 109 := rfl
      have hy2 : Instr.yield l #[Value.int .u8 ((({ data := #[109, 98, 101, 99, 115, 104] } : ByteArray)[0]'(by decide)).toNat : Nat)] = Instr.yield l #[Value.int .u8 109] := rfl
      change (Instr.yield l #[Value.int .u8 109]).run Tryd.prog wr = _ at hy
      rw [← hy2] at hy
      clear hy2 hb
      clear hJs
      gi_wp2
      refine hR.mono ?_
      rintro e W3 (⟨rfl, hJ3, hk3⟩ | ⟨rfl, hJx3⟩)
      · gi_wp2
        go_roundw
        case rel => exact ⟨1, by omega, rfl, by rw [← HX.out]; exact hJ3, hnx.trans hk3⟩
        case measure => simp [intOf]
      · gi_wp2
        refine bodyPost_ret (results_none rfl _ _ _) rfl ?_
        exact ⟨⟨_, rfl⟩, .inr ⟨_, by rw [HX.out]; exact List.take_prefix _ _, hJx3⟩⟩
    · obtain ⟨fn, tmps, assign, body, hy, hR⟩ := hY _ (3 : Fin 10) wr hJs (by decide)
      have HX : Hid (([0, 3, 2, 5, 8, 9] : List (Fin 10)).take 1 ++ [(3 : Fin 10)] = ([0, 3, 2, 5, 8, 9] : List (Fin 10)).take 2) := Lib.hid (by decide)
      have hb : (({ data := #[109, 98, 101, 99, 115, 104] } : ByteArray)[1]'(by decide)).toNat = 98 := rfl
      have hy2 : Instr.yield l #[Value.int .u8 ((({ data := #[109, 98, 101, 99, 115, 104] } : ByteArray)[1]'(by decide)).toNat : Nat)] = Instr.yield l #[Value.int .u8 98] := rfl
      change (Instr.yield l #[Value.int .u8 98]).run Tryd.prog wr = _ at hy
      rw [← hy2] at hy
      clear hy2 hb
      clear hJs
      gi_wp2
      refine hR.mono ?_
      rintro e W3 (⟨rfl, hJ3, hk3⟩ | ⟨rfl, hJx3⟩)
      · gi_wp2
        go_roundw
        case rel => exact ⟨2, by omega, rfl, by rw [← HX.out]; exact hJ3, hnx.trans hk3⟩
        case measure => simp [intOf]
      · gi_wp2
        refine bodyPost_ret (results_none rfl _ _ _) rfl ?_
        exact ⟨⟨_, rfl⟩, .inr ⟨_, by rw [HX.out]; exact List.take_prefix _ _, hJx3⟩⟩
    · obtain ⟨fn, tmps, assign, body, hy, hR⟩ := hY _ (2 : Fin 10) wr hJs (by decide)
      have HX : Hid (([0, 3, 2, 5, 8, 9] : List (Fin 10)).take 2 ++ [(2 : Fin 10)] = ([0, 3, 2, 5, 8, 9] : List (Fin 10)).take 3) := Lib.hid (by decide)
      have hb : (({ data := #[109, 98, 101, 99, 115, 104] } : ByteArray)[2]'(by decide)).toNat = 101 := rfl
      have hy2 : Instr.yield l #[Value.int .u8 ((({ data := #[109, 98, 101, 99, 115, 104] } : ByteArray)[2]'(by decide)).toNat : Nat)] = Instr.yield l #[Value.int .u8 101] := rfl
      change (Instr.yield l #[Value.int .u8 101]).run Tryd.prog wr = _ at hy
      rw [← hy2] at hy
      clear hy2 hb
      clear hJs
      gi_wp2
      refine hR.mono ?_
      rintro e W3 (⟨rfl, hJ3, hk3⟩ | ⟨rfl, hJx3⟩)
      · gi_wp2
        go_roundw
        case rel => exact ⟨3, by omega, rfl, by rw [← HX.out]; exact hJ3, hnx.trans hk3⟩
        case measure => simp [intOf]
      · gi_wp2
        refine bodyPost_ret (results_none rfl _ _ _) rfl ?_
        exact ⟨⟨_, rfl⟩, .inr ⟨_, by rw [HX.out]; exact List.take_prefix _ _, hJx3⟩⟩
    · obtain ⟨fn, tmps, assign, body, hy, hR⟩ := hY _ (5 : Fin 10) wr hJs (by decide)
      have HX : Hid (([0, 3, 2, 5, 8, 9] : List (Fin 10)).take 3 ++ [(5 : Fin 10)] = ([0, 3, 2, 5, 8, 9] : List (Fin 10)).take 4) := Lib.hid (by decide)
      have hb : (({ data := #[109, 98, 101, 99, 115, 104] } : ByteArray)[3]'(by decide)).toNat = 99 := rfl
      have hy2 : Instr.yield l #[Value.int .u8 ((({ data := #[109, 98, 101, 99, 115, 104] } : ByteArray)[3]'(by decide)).toNat : Nat)] = Instr.yield l #[Value.int .u8 99] := rfl
      change (Instr.yield l #[Value.int .u8 99]).run Tryd.prog wr = _ at hy
      rw [← hy2] at hy
      clear hy2 hb
      clear hJs
      gi_wp2
      refine hR.mono ?_
      rintro e W3 (⟨rfl, hJ3, hk3⟩ | ⟨rfl, hJx3⟩)
      · gi_wp2
        go_roundw
        case rel => exact ⟨4, by omega, rfl, by rw [← HX.out]; exact hJ3, hnx.trans hk3⟩
        case measure => simp [intOf]
      · gi_wp2
        refine bodyPost_ret (results_none rfl _ _ _) rfl ?_
        exact ⟨⟨_, rfl⟩, .inr ⟨_, by rw [HX.out]; exact List.take_prefix _ _, hJx3⟩⟩
    · obtain ⟨fn, tmps, assign, body, hy, hR⟩ := hY _ (8 : Fin 10) wr hJs (by decide)
      have HX : Hid (([0, 3, 2, 5, 8, 9] : List (Fin 10)).take 4 ++ [(8 : Fin 10)] = ([0, 3, 2, 5, 8, 9] : List (Fin 10)).take 5) := Lib.hid (by decide)
      have hb : (({ data := #[109, 98, 101, 99, 115, 104] } : ByteArray)[4]'(by decide)).toNat = 115 := rfl
      have hy2 : Instr.yield l #[Value.int .u8 ((({ data := #[109, 98, 101, 99, 115, 104] } : ByteArray)[4]'(by decide)).toNat : Nat)] = Instr.yield l #[Value.int .u8 115] := rfl
      change (Instr.yield l #[Value.int .u8 115]).run Tryd.prog wr = _ at hy
      rw [← hy2] at hy
      clear hy2 hb
      clear hJs
      gi_wp2
      refine hR.mono ?_
      rintro e W3 (⟨rfl, hJ3, hk3⟩ | ⟨rfl, hJx3⟩)
      · gi_wp2
        go_roundw
        case rel => exact ⟨5, by omega, rfl, by rw [← HX.out]; exact hJ3, hnx.trans hk3⟩
        case measure => simp [intOf]
      · gi_wp2
        refine bodyPost_ret (results_none rfl _ _ _) rfl ?_
        exact ⟨⟨_, rfl⟩, .inr ⟨_, by rw [HX.out]; exact List.take_prefix _ _, hJx3⟩⟩
    · obtain ⟨fn, tmps, assign, body, hy, hR⟩ := hY _ (9 : Fin 10) wr hJs (by decide)
      have HX : Hid (([0, 3, 2, 5, 8, 9] : List (Fin 10)).take 5 ++ [(9 : Fin 10)] = ([0, 3, 2, 5, 8, 9] : List (Fin 10)).take 6) := Lib.hid (by decide)
      have hb : (({ data := #[109, 98, 101, 99, 115, 104] } : ByteArray)[5]'(by decide)).toNat = 104 := rfl
      have hy2 : Instr.yield l #[Value.int .u8 ((({ data := #[109, 98, 101, 99, 115, 104] } : ByteArray)[5]'(by decide)).toNat : Nat)] = Instr.yield l #[Value.int .u8 104] := rfl
      change (Instr.yield l #[Value.int .u8 104]).run Tryd.prog wr = _ at hy
      rw [← hy2] at hy
      clear hy2 hb
      clear hJs
      gi_wp2
      refine hR.mono ?_
      rintro e W3 (⟨rfl, hJ3, hk3⟩ | ⟨rfl, hJx3⟩)
      · gi_wp2
        go_roundw
        case rel => exact ⟨6, by omega, rfl, by rw [← HX.out]; exact hJ3, hnx.trans hk3⟩
        case measure => simp [intOf]
      · gi_wp2
        refine bodyPost_ret (results_none rfl _ _ _) rfl ?_
        exact ⟨⟨_, rfl⟩, .inr ⟨_, by rw [HX.out]; exact List.take_prefix _ _, hJx3⟩⟩
    · gi_wp2
      go_end0
      exact ⟨⟨_, rfl⟩, .inl ⟨_, rfl, hJs⟩⟩
set_option maxHeartbeats 4000000 in
theorem fields1_5 (l Bs n₀ n₁ : Nat) (J Jx : List (Fin 10) → World → Prop)
    (hY : ∀ pre x W, J pre W → pre.length < 7 → YieldAt Fence.wide 4 Tryd.prog l (letV x) W fun e W' =>
      (e = .returned (.bool true) ∧ J (pre ++ [x]) W' ∧ Kx n₀ n₁ W W') ∨ (e = .returned (.bool false) ∧ Jx (pre ++ [x]) W'))
    (W : World) (hcs : W.cell? ⟨Bs, 0, none⟩ = some (.int .i64 5)) (h0 : J [] W) :
    CallsIn Fence.wide 5 Tryd.prog 55 #[.func (.yield l) #[] #[], .pointer (some ⟨Bs, 0, none⟩)] W fun e W' => (∃ v, e = .returned v) ∧
      ((∃ ys, ys = ([8, 9] : List (Fin 10)) ∧ J ys W') ∨ (∃ pre, pre <+: ([8, 9] : List (Fin 10)) ∧ Jx pre W')) := by
  refine callsIn_of_wp Tryd.func55 rfl trivial ?_ rfl
  simp only [Tryd.ntmps55, List.size_toArray, List.length_cons, List.length_nil, Nat.reduceAdd, Nat.reduceSub, Array.replicate_succ, Array.replicate_zero, List.push_toArray, List.append_toArray, List.nil_append, List.cons_append]
  gi_wp2
  gi_loopw [18] (fun n wr => ∃ i : Nat, i ≤ 2 ∧ n = .int .i64 i ∧ J (([8, 9] : List (Fin 10)).take i) wr ∧ Kx n₀ n₁ W wr) (fun n _ => 3 - (intOf n).toNat)
  case atStart => exact ⟨0, Nat.zero_le _, rfl, by simpa using h0, Kx.refl _ _ _⟩
  case round =>
    obtain ⟨i, hi, rfl, hJs, hnx⟩ := hrel
    rcases (show i = 0 ∨ i = 1 ∨ i = 2 by omega) with rfl | rfl | rfl
    · obtain ⟨fn, tmps, assign, body, hy, hR⟩ := hY _ (8 : Fin 10) wr hJs (by decide)
      have HX : Hid (([8, 9] : List (Fin 10)).take 0 ++ [(8 : Fin 10)] = ([8, 9] : List (Fin 10)).take 1) := Lib.hid (by decide)
      have hb : (({ data := #[115, 104] } : ByteArray)[0]'(by decide)).toNat = 115 := rfl
      have hy2 : Instr.yield l #[Value.int .u8 ((({ data := #[115, 104] } : ByteArray)[0]'(by decide)).toNat : Nat)] = Instr.yield l #[Value.int .u8 115] := rfl
      change (Instr.yield l #[Value.int .u8 115]).run Tryd.prog wr = _ at hy
      rw [← hy2] at hy
      clear hy2 hb
      clear hJs
      gi_wp2
      refine hR.mono ?_
      rintro e W3 (⟨rfl, hJ3, hk3⟩ | ⟨rfl, hJx3⟩)
      · gi_wp2
        go_roundw
        case rel => exact ⟨1, by omega, rfl, by rw [← HX.out]; exact hJ3, hnx.trans hk3⟩
        case measure => simp [intOf]
      · gi_wp2
        refine bodyPost_ret (results_none rfl _ _ _) rfl ?_
        exact ⟨⟨_, rfl⟩, .inr ⟨_, by rw [HX.out]; exact List.take_prefix _ _, hJx3⟩⟩
    · obtain ⟨fn, tmps, assign, body, hy, hR⟩ := hY _ (9 : Fin 10) wr hJs (by decide)
      have HX : Hid (([8, 9] : List (Fin 10)).take 1 ++ [(9 : Fin 10)] = ([8, 9] : List (Fin 10)).take 2) := Lib.hid (by decide)
      have hb : (({ data := #[115, 104] } : ByteArray)[1]'(by decide)).toNat = 104 := rfl
      have hy2 : Instr.yield l #[Value.int .u8 ((({ data := #[115, 104] } : ByteArray)[1]'(by decide)).toNat : Nat)] = Instr.yield l #[Value.int .u8 104] := rfl
      change (Instr.yield l #[Value.int .u8 104]).run Tryd.prog wr = _ at hy
      rw [← hy2] at hy
      clear hy2 hb
      clear hJs
      gi_wp2
      refine hR.mono ?_
      rintro e W3 (⟨rfl, hJ3, hk3⟩ | ⟨rfl, hJx3⟩)
      · gi_wp2
        go_roundw
        case rel => exact ⟨2, by omega, rfl, by rw [← HX.out]; exact hJ3, hnx.trans hk3⟩
        case measure => simp [intOf]
      · gi_wp2
        refine bodyPost_ret (results_none rfl _ _ _) rfl ?_
        exact ⟨⟨_, rfl⟩, .inr ⟨_, by rw [HX.out]; exact List.take_prefix _ _, hJx3⟩⟩
    · gi_wp2
      go_end0
      exact ⟨⟨_, rfl⟩, .inl ⟨_, rfl, hJs⟩⟩
theorem fields1_no (k : Int) (hk : ¬ (1 ≤ k ∧ k ≤ 5)) (l Bs n₀ n₁ : Nat) (J Jx : List (Fin 10) → World → Prop)
    (hY : ∀ pre x W, J pre W → pre.length < 7 → YieldAt Fence.wide 4 Tryd.prog l (letV x) W fun e W' =>
      (e = .returned (.bool true) ∧ J (pre ++ [x]) W' ∧ Kx n₀ n₁ W W') ∨ (e = .returned (.bool false) ∧ Jx (pre ++ [x]) W'))
    (W : World) (hcs : W.cell? ⟨Bs, 0, none⟩ = some (.int .i64 k)) (h0 : J [] W) :
    CallsIn Fence.wide 5 Tryd.prog 55 #[.func (.yield l) #[] #[], .pointer (some ⟨Bs, 0, none⟩)] W fun e W' => (∃ v, e = .returned v) ∧
      ((∃ ys, ys = [] ∧ J ys W') ∨ (∃ pre, pre <+: [] ∧ Jx pre W')) := by
  have h1 : (k == 1) = false := by simp; omega
  have h2 : (k == 2) = false := by simp; omega
  have h3 : (k == 3) = false := by simp; omega
  have h4 : (k == 4) = false := by simp; omega
  have h5 : (k == 5) = false := by simp; omega
  clear hk
  refine callsIn_of_wp Tryd.func55 rfl trivial ?_ rfl
  simp only [Tryd.ntmps55, List.size_toArray, List.length_cons, List.length_nil, Nat.reduceAdd, Nat.reduceSub, Array.replicate_succ, Array.replicate_zero, List.push_toArray, List.append_toArray, List.nil_append, List.cons_append]
  gi_wp2
  gi_loopw [18] (fun n wr => n = .int .i64 0 ∧ J [] wr ∧ Kx n₀ n₁ W wr) (fun _ _ => 0)
  case atStart => exact ⟨rfl, h0, Kx.refl _ _ _⟩
  case round =>
    obtain ⟨rfl, hJs, hnx⟩ := hrel
    gi_wp2
    go_end0
    exact ⟨⟨_, rfl⟩, .inl ⟨_, rfl, hJs⟩⟩
theorem fields1_in (k : Int) (l Bs n₀ n₁ : Nat) (J Jx : List (Fin 10) → World → Prop)
    (hY : ∀ pre x W, J pre W → pre.length < 7 → YieldAt Fence.wide 4 Tryd.prog l (letV x) W fun e W' =>
      (e = .returned (.bool true) ∧ J (pre ++ [x]) W' ∧ Kx n₀ n₁ W W') ∨ (e = .returned (.bool false) ∧ Jx (pre ++ [x]) W'))
    (W : World) (hcs : W.cell? ⟨Bs, 0, none⟩ = some (.int .i64 k)) (h0 : J [] W) :
    CallsIn Fence.wide 5 Tryd.prog 55 #[.func (.yield l) #[] #[], .pointer (some ⟨Bs, 0, none⟩)] W fun e W' => (∃ v, e = .returned v) ∧
      ((∃ ys, ys = fieldI k ∧ J ys W') ∨ (∃ pre, pre <+: fieldI k ∧ Jx pre W')) := by
  by_cases hk : 1 ≤ k ∧ k ≤ 5
  · rcases (show k = 1 ∨ k = 2 ∨ k = 3 ∨ k = 4 ∨ k = 5 by omega) with rfl | rfl | rfl | rfl | rfl
    · exact fields1_1 l Bs n₀ n₁ J Jx hY W hcs h0
    · exact fields1_2 l Bs n₀ n₁ J Jx hY W hcs h0
    · exact fields1_3 l Bs n₀ n₁ J Jx hY W hcs h0
    · exact fields1_4 l Bs n₀ n₁ J Jx hY W hcs h0
    · exact fields1_5 l Bs n₀ n₁ J Jx hY W hcs h0
  · have e : fieldI k = [] := by
      unfold fieldI
      rw [if_neg (by omega), if_neg (by omega), if_neg (by omega), if_neg (by omega), if_neg (by omega)]
    rw [e]
    exact fields1_no k hk l Bs n₀ n₁ J Jx hY W hcs h0
theorem fields_in (k : Int) (w : World) :
    CallsIn Fence.wide 5 Tryd.prog 45 #[.int .i64 k] w fun e w' => e = .returned (.func (.func 55) #[] #[.pointer (some ⟨w.heap.size, 0, none⟩)]) ∧ w' = w.alloc (.cells #[.int .i64 k] 3) := by
  refine callsIn_of_wp Tryd.func45 rfl trivial ?_ rfl
  simp only [Tryd.ntmps45, List.size_toArray, List.length_cons, List.length_nil, Nat.reduceAdd, Nat.reduceSub, Array.replicate_succ, Array.replicate_zero, List.push_toArray, List.append_toArray, List.nil_append, List.cons_append]
  gi_wp2
  go_ret
  exact ⟨rfl, rfl⟩
theorem fields_stops (k : Int) (Bs n₀ n₁ : Nat) (w : World) (hBs : Bs < w.heap.size) (hc : w.cell? ⟨Bs, 0, none⟩ = some (.int .i64 k)) :
    SeqStopsK Fence.wide 5 Tryd.prog 55 #[.pointer (some ⟨Bs, 0, none⟩)] letV (Kx n₀ n₁) (fun ys => ys = fieldI k) (fun pre => pre <+: fieldI k) 7 w := fun l J Jx W hW _ _ hY h0 =>
  fields1_in k l Bs n₀ n₁ J Jx hY W ((hW.cell (p := ⟨Bs, 0, none⟩) hBs).trans hc) h0
end Go.Proofs.YtjcpgnachkhjaaaDoor
