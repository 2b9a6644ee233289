/- mac.pad, and slices.Collect of it. -/
import Derived.Test.YtjkhkgdijnhdmaaDoorShaOf
import Derived.Test.YtjkhkgdijnhdmaaDoorBoxes
import Derived.RangeFuncNested
import Derived.RangeFuncBound
import Derived.RangeFuncCalls
import Derived.LoopIn
import Derived.Test.YtjkhkgdijnhdmaaDoorScope
import Derived.OwnWalkIn
import Derived.TacticsInMore
import Derived.Laws.Rows
namespace Go.Proofs.YtjkhkgdijnhdmaaDoor
open Go.RowKit
attribute [local go_sem] Oper.semAt_some

/-- A block's bytes, each xor a number. -/
def mpad (b : List Nat) (x : Nat) : List Nat := b.map (· ^^^ x)
theorem mpad_len (b : List Nat) (x : Nat) : (mpad b x).length = b.length := by simp [mpad]
theorem mpad_in (b : List Nat) (x : Nat) (hb : ∀ y ∈ b, y < 256) (hx : x < 256) : ∀ y ∈ mpad b x, y < 256 := by
  intro y hy
  simp only [mpad, List.mem_map] at hy
  obtain ⟨z, hz, rfl⟩ := hy
  exact Nat.xor_lt_two_pow (n := 8) (hb z hz) hx
theorem wpListIn_load_row {F : Fence} {n : Nat} {P : Program} {ops : Array Oper} {rest : List Oper} {o : Oper} {a : Act} {w : World} {Q : Exit → Act → World → Prop} (hgd : o.guard = none) (ty : TypeId) (x : Operand) (ho : o.op = .load ty x)
    (g : Nat) (hx : a.eval x = .pointer (some ⟨g, 0, none⟩)) (t : TypeId) (cs : Array Value) (fr : Nat × Nat) (d : TypeDesc) (hg : w.heap[g]? = some (.cells cs t fr))
    (hu : P.underlying ty = some d) (hd : (match d with | .struct _ | .array _ _ => true | _ => false) = true) (hi : (P.info? ty).map (·.size) = some cs.size)
    (h : wpListIn F n P ops Q rest (a.put o.dst (.agg cs)) w) : wpListIn F n P ops Q (o :: rest) a w := by
  refine wpListIn_plain hgd fun K hK => ?_
  unfold Oper.wpIn
  refine ⟨by simp [Oper.about, ho], ?_⟩
  rw [Oper.semAt_plain F _ _ (by rw [ho]; intro c hc; cases hc)]
  unfold execOp
  simp only [ho, hx, Instr.loadAt, Instr.sureAddr, Sem.run_bind, Sem.run_pure, Result.andThen_ok, run_loadVar_row w g t ty cs fr d hg hu hd hi]
  exact hK _ _ h
/-- One byte. -/
def byteV (x : Nat) : Array Value := #[.int .u8 (x : Int)]
theorem arr64_size (l : List Nat) (h : l.length = 64) : (Tryd.prog.info? 61).map (·.size) = some (arr8 l).size := by
  rw [arr8_size, h]; kernel_rfl

theorem index_pad (l : List Nat) (j x : Nat) (hx : l[j]? = some x) (hj : j < 64) (w : World) : (Instr.index 61 (.agg (arr8 l)) (.int .i64 j)).run Tryd.prog w = .ok (.int .u8 x) w := by
  have hc := arr8_at l j x hx
  have e1 : (0 : Int) ≤ j ∧ (j : Int) < ((64 : Nat) : Int) := by omega
  have e2 := Tryd.sizeOf5
  have e3 := Tryd.isAgg5
  have e4 := run_underlying Tryd.underlying61
  simp [Instr.index, e4, asIntOf, e2, part, e3, hc, go_sem]
  omega

theorem pad_own (zs : List Nat) (c : Nat) (w : World) :
    Calls Tryd.prog 61 #[.agg (arr8 zs), .int .u8 (c : Int)] w fun e w' => e = .returned (.func (.func 65) #[] #[.pointer (some ⟨w.heap.size, 0, none⟩), .pointer (some ⟨w.heap.size + 1, 0, none⟩)]) ∧ w' = (w.alloc (.cells (arr8 zs) 61)).alloc (.cells #[.int .u8 (c : Int)] 5) := by
  go_in
  go_wp2
  go_ret
  exact ⟨rfl, rfl⟩

set_option maxRecDepth 100000 in
set_option maxHeartbeats 2000000 in
theorem pad1_in (F : Fence) (n : Nat) (hF : F.fn 65) (hro : F.round = none) (hn : 1 ≤ n) (l Bb Bx n₀ : Nat) (zs : List Nat) (c : Nat) (hz : ∀ x ∈ zs, x < 256) (hc : c < 256) (hl : zs.length = 64) (hB0 : Bx < n₀) (J Jx : List Nat → World → Prop)
    (hY : ∀ pre x W, J pre W → pre.length < 64 → YieldAt F (n - 1) Tryd.prog l (byteV x) W fun e W' =>
      (e = .returned (.bool true) ∧ J (pre ++ [x]) W' ∧ Below n₀ W W') ∨ (e = .returned (.bool false) ∧ Jx (pre ++ [x]) W'))
    (W : World) (hB : Held W Bb 61 (arr8 zs)) (hX : W.cell? ⟨Bx, 0, none⟩ = some (.int .u8 (c : Int))) (h0 : J [] W) :
    CallsIn F n Tryd.prog 65 #[.func (.yield l) #[] #[], .pointer (some ⟨Bb, 0, none⟩), .pointer (some ⟨Bx, 0, none⟩)] W fun e W' => (∃ v, e = .returned v) ∧
      ((∃ ys, ys = mpad zs c ∧ J ys W') ∨ (∃ pre, pre <+: mpad zs c ∧ Jx pre W')) := by
  have HL := Lib.hid hl
  have HZ := Lib.hid hz
  have hsz := arr64_size zs hl
  have hu := Tryd.underlying61
  clear hl hz
  refine callsIn_of_wp Tryd.func65 rfl hF ?_ hro
  simp only [Tryd.ntmps65, List.size_toArray, List.length_cons, List.length_nil, Nat.reduceAdd, Nat.reduceSub, Array.replicate_succ, Array.replicate_zero, List.push_toArray, List.append_toArray, List.nil_append, List.cons_append]
  gi_wp2
  refine wpIn_scope ?_
  gi_wp2
  refine wpIn_label ?_
  gi_wp2_with (refine wpListIn_load_row rfl 61 (.tmp 1) rfl Bb rfl 61 (arr8 zs) (0, 0) _ hB hu rfl hsz ?_)
  gi_loopw [7] (fun i wr => ∃ k : Nat, k ≤ 64 ∧ i = .int .i64 k ∧ J ((mpad zs c).take k) wr ∧ Below n₀ W wr) (fun i _ => 64 - (intOf i).toNat)
  case atStart => exact ⟨0, Nat.zero_le _, rfl, by simpa using h0, Below.refl _ _⟩
  case round =>
    obtain ⟨k, hk, rfl, hJs, hnx⟩ := hrel
    have hcx := (hnx.cell (p := ⟨Bx, 0, none⟩) hB0).trans hX
    by_cases hlt : k < 64
    · obtain ⟨z, hz⟩ : ∃ z, zs[k]? = some z := ⟨_, List.getElem?_eq_getElem (by rw [HL.out]; exact hlt)⟩
      have hz0 := arr8_at zs k z hz
      have hz2 := HZ.out z (List.mem_of_getElem? hz)
      have hxz := u8_xor_nat z c hz2 hc
      have hx : (mpad zs c)[k]? = some (z ^^^ c) := by simp [mpad, hz]
      obtain ⟨fn, tmps, assign, body, hy, hR⟩ := hY _ (z ^^^ c) wr hJs (by rw [List.length_take, mpad_len, HL.out]; omega)
      have HX := Lib.hid (show (mpad zs c).take (k + 1) = (mpad zs c).take k ++ [z ^^^ c] by rw [List.take_add_one, hx, Option.toList_some])
      unfold byteV at hy
      have hix := index_pad zs k z hz hlt
      clear hx hz
      gi_wp2_with (rw [hix])
      refine hR.mono ?_
      rintro e W3 (⟨rfl, hJ3, hk3⟩ | ⟨rfl, hJx3⟩)
      · gi_wp2
        go_roundw
        case rel => exact ⟨k + 1, by omega, by go_num, by rw [HX.out]; exact hJ3, hnx.trans hk3⟩
        case measure => simp [intOf]; omega
      · gi_wp2
        simp only [Exit.noGoto]
        go_end0
        exact ⟨⟨_, rfl⟩, .inr ⟨_, by rw [← HX.out]; exact List.take_prefix _ _, hJx3⟩⟩
    · obtain rfl : k = 64 := by omega
      gi_wp2
      simp only [Exit.noGoto]
      go_end0
      exact ⟨⟨_, rfl⟩, .inl ⟨_, by rw [List.take_of_length_le (by rw [mpad_len, HL.out]; omega)], hJs⟩⟩
end Go.Proofs.YtjkhkgdijnhdmaaDoor
