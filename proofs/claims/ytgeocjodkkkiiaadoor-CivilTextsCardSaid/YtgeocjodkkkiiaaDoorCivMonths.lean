/- civil.months: its iterator's contract. -/
import Derived.Test.YtgeocjodkkkiiaaDoorCivBase2
import Derived.Test.YtgeocjodkkkiiaaDoorKeep
import Derived.Test.YtgeocjodkkkiiaaDoorBoxes
import Derived.RangeFuncNested
import Derived.RangeFuncBound
import Derived.RangeFuncCalls
import Derived.RangeFuncLeaves
import Derived.Shelf.Abstract
import Derived.Shelf.RegionOpen
import Derived.OwnWalkIn
import Derived.TacticsInMore
import Derived.LoopNIn
import Derived.LoopIn
namespace Go.Proofs.YtgeocjodkkkiiaaDoor
open Go.RowKit Go.Shelf
attribute [local go_sem] Oper.semAt_some

/-- The k-th month, and the days ahead of it. -/
def monthV (y : Int) (k : Fin 12) : Array Value := #[.int .i64 ((k.1 : Int) + 1), .int .i64 (cumN y k.1)]

set_option maxRecDepth 100000 in
set_option maxHeartbeats 2000000 in
theorem months1_in (y : Int) (l Bs n₀ n₁ : Nat) (hg : 0 < n₀) (hBs : Bs < n₁) (hBs' : Bs ≠ n₀) (J Jx : List (Fin 12) → World → Prop)
    (hY : ∀ pre x W, J pre W → pre.length < 12 → YieldAt Fence.wide 4 Tryd.prog l (monthV y x) W fun e W' =>
      (e = .returned (.bool true) ∧ J (pre ++ [x]) W' ∧ Kx n₀ n₁ W W') ∨ (e = .returned (.bool false) ∧ Jx (pre ++ [x]) W'))
    (W : World) (T : Lens W) (hcs : W.cell? ⟨Bs, 0, none⟩ = some (.int .i64 y)) (h0 : J [] W) :
    CallsIn Fence.wide 5 Tryd.prog 42 #[.func (.yield l) #[] #[], .pointer (some ⟨Bs, 0, none⟩)] W fun e W' => (∃ v, e = .returned v) ∧
      ((∃ ys, ys = List.finRange 12 ∧ J ys W') ∨ (∃ pre, pre <+: List.finRange 12 ∧ Jx pre W')) := by
  have HT := Lib.hid T
  clear T
  refine callsIn_of_wp Tryd.func42 rfl trivial ?_ rfl
  simp only [Tryd.ntmps42, List.size_toArray, List.length_cons, List.length_nil, Nat.reduceAdd, Nat.reduceSub, Array.replicate_succ, Array.replicate_zero, List.push_toArray, List.append_toArray, List.nil_append, List.cons_append]
  gi_wp2
  gi_loopw [3, 4] (fun n m wr => ∃ k : Nat, k ≤ 12 ∧ m = .int .i64 (k + 1) ∧ n = .int .i64 (cumN y k) ∧ J ((List.finRange 12).take k) wr ∧ Kx n₀ n₁ W wr)
    (fun _ m _ => 13 - (intOf m).toNat)
  case atStart => exact ⟨0, Nat.zero_le _, rfl, rfl, by simpa using h0, Kx.refl _ _ _⟩
  case round =>
    obtain ⟨k, hk, rfl, rfl, hJs, hnx⟩ := hrel
    have hcb := cumN_in y k
    have hdb := daysN_in y (k + 1)
    have HS := Lib.hid (show cumN y (k + 1) = cumN y k + daysN y (k + 1) from rfl)
    by_cases hlt : k < 12
    · obtain ⟨fn, tmps, assign, body, hy, hR⟩ := hY _ ⟨k, hlt⟩ wr hJs (by rw [List.length_take, List.length_finRange]; omega)
      have HX := Lib.hid (show (List.finRange 12).take (k + 1) = (List.finRange 12).take k ++ [⟨k, hlt⟩] by rw [List.take_add_one, List.getElem?_eq_getElem (by rw [List.length_finRange]; exact hlt), List.getElem_finRange]; rfl)
      unfold monthV at hy
      dsimp only at hy
      gi_wp2
      refine hR.mono ?_
      rintro e W3 (⟨rfl, hJ3, hk3⟩ | ⟨rfl, hJx3⟩)
      · have hk4 := hnx.trans hk3
        have c3 := (hk4.cell (p := ⟨Bs, 0, none⟩) hBs' hBs).trans hcs
        have HT3 := Lib.hid (show Lens W3 from fun i hi => (hk4.cell (p := ⟨0, i, none⟩) (by show 0 ≠ _; omega) (by show 0 < _; omega)).trans (HT.out i hi))
        have h18 : Fence.wide.fn 18 := trivial
        gi_wp2_with (gi_at_call 18; refine (callsIn_wide.2 (days_own y _ _ HT3.out)).mono ?_; rintro e w' ⟨rfl, rfl⟩)
        go_roundw
        case rel => exact ⟨k + 1, by omega, by go_num, by rw [HS.out], by rw [HX.out]; exact hJ3, hk4⟩
        case measure => simp [intOf]; omega
      · gi_wp2
        refine bodyPost_ret (results_none rfl _ _ _) rfl ?_
        exact ⟨⟨_, rfl⟩, .inr ⟨_, by rw [← HX.out]; exact List.take_prefix _ _, hJx3⟩⟩
    · obtain rfl : k = 12 := by omega
      gi_wp2
      go_end0
      exact ⟨⟨_, rfl⟩, .inl ⟨_, by rw [List.take_of_length_le (by rw [List.length_finRange]; omega)], hJs⟩⟩

theorem months_in (y : Int) (w : World) :
    CallsIn Fence.wide 5 Tryd.prog 37 #[.int .i64 y] w fun e w' => e = .returned (.func (.func 42) #[] #[.pointer (some ⟨w.heap.size, 0, none⟩)]) ∧ w' = w.alloc (.cells #[.int .i64 y] 3) := by
  refine callsIn_of_wp Tryd.func37 rfl trivial ?_ rfl
  simp only [Tryd.ntmps37, List.size_toArray, List.length_cons, List.length_nil, Nat.reduceAdd, Nat.reduceSub, Array.replicate_succ, Array.replicate_zero, List.push_toArray, List.append_toArray, List.nil_append, List.cons_append]
  gi_wp2
  go_ret
  exact ⟨rfl, rfl⟩

theorem months_stops (y : Int) (Bs n₀ n₁ : Nat) (hg : 0 < n₀) (hBs : Bs < n₁) (hBs' : Bs ≠ n₀) (w : World) (hn₁ : n₁ ≤ w.heap.size) (T : Lens w)
    (hc : w.cell? ⟨Bs, 0, none⟩ = some (.int .i64 y)) :
    SeqStopsK Fence.wide 5 Tryd.prog 42 #[.pointer (some ⟨Bs, 0, none⟩)] (monthV y) (Kx n₀ n₁) (fun ys => ys = List.finRange 12) (fun pre => pre <+: List.finRange 12) 12 w := fun l J Jx W hW _ _ hY h0 =>
  months1_in y l Bs n₀ n₁ hg hBs hBs' J Jx hY W (T.up hW) ((hW.cell (p := ⟨Bs, 0, none⟩) (by show Bs < _; omega)).trans hc) h0
end Go.Proofs.YtgeocjodkkkiiaaDoor
