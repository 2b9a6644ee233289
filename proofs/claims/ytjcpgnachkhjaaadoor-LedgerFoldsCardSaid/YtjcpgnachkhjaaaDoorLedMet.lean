/- ledger.Meters. -/
import Derived.Test.YtjcpgnachkhjaaaDoorLedFold
import Derived.Test.YtjcpgnachkhjaaaDoorGuards
namespace Go.Proofs.YtjcpgnachkhjaaaDoor
open Go.RowKit Go.Shelf
attribute [local go_sem] Oper.semAt_some
set_option linter.unusedVariables false
set_option linter.unusedSimpArgs false
set_option maxRecDepth 100000

/-- The meters below a number of which there are some. -/
def metN (b : Bk) (n : Nat) : List Nat := (List.range n).filter fun m => decide (0 < b.ofAt m)
def metI (b : Bk) (n : Nat) : List Int := (metN b n).map fun (m : Nat) => (m : Int)
theorem metI_yes (b : Bk) (n : Nat) (h : 0 < b.ofAt n) : metI b (n + 1) = metI b n ++ [(n : Int)] := by
  unfold metI metN
  rw [List.range_succ, List.filter_append, List.map_append]
  simp [h]
theorem metI_no (b : Bk) (n : Nat) (h : ¬ 0 < b.ofAt n) : metI b (n + 1) = metI b n := by
  unfold metI metN
  rw [List.range_succ, List.filter_append, List.map_append]
  simp [h]
theorem metI_len (b : Bk) (n : Nat) : (metI b n).length ≤ n := by
  unfold metI metN
  rw [List.length_map]
  exact Nat.le_trans (List.length_filter_le _ _) (by simp)
theorem info_int : (Tryd.prog.info? 3).map (fun i => (i.zero, i.size, i.bytes)) = some (some (.int .i64 0), 1, 8) := by kernel_rfl
theorem Bk.of_range {K : Int} (b : Bk) (h : b.ok K) {W : World} {g : Nat} {t : TypeId} (hB : Held W g t b.arr) : W.rangeAt g 4672 (b.ofm.map (Value.int .i64)) := by
  have e : b.cells = (b.tot.flatMap Tot.cells ++ b.sums.flatMap SumS.cells) ++ (b.ofm.map (Value.int .i64) ++ [.int .i64 b.many, .int .i64 b.seals]) := by unfold Bk.cells; simp
  unfold Bk.arr at hB
  rw [e] at hB
  have := held_range hB
  rwa [Bk.head_len b h] at this
theorem index_of {K : Int} (b : Bk) (h : b.ok K) (i : Nat) (hi : i < 64) (w : World) : (Instr.index 38 (.agg (b.ofm.map (Value.int .i64)).toArray) (.int .i64 i)).run Tryd.prog w = .ok (.int .i64 (b.ofAt i)) w := by
  have hs : ∀ w, (sizeOf 3).run Tryd.prog w = .ok 1 w := fun w => Tryd.sizeOf3 w
  have hg : (b.ofm.map (Value.int .i64)).toArray[i]? = some (.int .i64 (b.ofAt i)) := by
    rw [List.getElem?_toArray, List.getElem?_map]
    unfold Bk.ofAt
    rw [List.getD_eq_getElem?_getD, List.getElem?_eq_getElem (by rw [h.ol]; exact hi)]
    rfl
  have hp : ∀ w, (part 3 (b.ofm.map (Value.int .i64)).toArray i).run Tryd.prog w = .ok (.int .i64 (b.ofAt i)) w := fun w => by simp [part, isAgg, run_underlying Tryd.underlying3, hg]
  have hb : (0 : Int) ≤ i ∧ (i : Int) < 64 := by omega
  generalize (b.ofm.map (Value.int .i64)).toArray = X at hp ⊢
  simp [Instr.index, Sem.run_bind, asIntOf, run_underlying Tryd.underlying38, hs, hp, hb.2]
  try (intro h; omega)
/-- What stands at a round's head. -/
def MetR (b : Bk) (w : World) (v i : Value) (wr : World) : Prop := ∃ n : Nat, n ≤ 64 ∧ i = .int .i64 n ∧ wr.ownsRow w.heap.size 3 1 v (metI b n).length ((metI b n).map (Value.int .i64)) ∧ Below w.heap.size w wr
/-- What Meters tells. -/
def MetPost (b : Bk) (w : World) (e : Ending) (w' : World) : Prop := (∃ A c, e = .returned (.slice A (metI b 64).length c) ∧ SlI w' w'.heap.size .i64 A (metI b 64).length c (metI b 64)) ∧ Below w.heap.size w w'
set_option maxHeartbeats 4000000 in
theorem meters_any (K : Int) (b : Bk) (hb : b.ok K) (gb : Nat) (w : World) (hB : Held w gb 40 b.arr) : Calls Tryd.prog 23 #[.pointer (some ⟨gb, 0, none⟩)] w (MetPost b w) := by
  have HR := Lib.hid (b.of_range hb hB)
  have IO : Hid ((Tryd.prog.info? 38).map (·.size) = some (b.ofm.map (Value.int .i64)).length) := Lib.hid (by rw [List.length_map, hb.ol]; kernel_rfl)
  obtain ⟨i0, hi, hz0, hz1, hz2⟩ := info_parts info_int
  clear hB
  go_in
  go_wp2_with ((with_reducible refine wpList_load_at (dst := some 11) 38 (.tmp 10) gb 4672 (b.ofm.map (Value.int .i64)) _ (by kernel_rfl) (by kernel_rfl) HR.out Tryd.underlying38 (by kernel_rfl) IO.out ?_); simp only [Act.put, List.setIfInBounds_toArray, List.set_cons_succ, List.set_cons_zero])
  go_loopw [3, 12] (MetR b w) (fun _ i _ => 64 - (intOf i).toNat)
  case atStart => exact ⟨0, by omega, rfl, World.ownsRow_nil _ _ _ _, Below.refl _ _⟩
  case round =>
    rename_i wr _
    obtain ⟨n, hn, rfl, hown, hbl⟩ := hrel
    by_cases hlt : n < 64
    · have HIX := index_of b hb n hlt
      have hnI : (n : Int) < 64 := by omega
      have hml := metI_len b n
      by_cases hp : 0 < b.ofAt n
      · have HM := Lib.hid (metI_yes b n hp)
        have hbz := hbl.size
        have HB1 := Lib.hid (show (metI b n).length + 1 ≤ maxLen ∧ ((metI b n).length + 1) * 8 ≤ 140737488355328 by unfold maxLen; omega)
        have hsl : SlI (wr.alloc (.cells #[.int .i64 n] 3)) (wr.alloc (.cells #[.int .i64 n] 3)).heap.size .i64 (some ⟨wr.heap.size, 0, none⟩) 1 1 [(n : Int)] := SlI.of_lit rfl rfl (by omega)
        have hbz2 : w.heap.size ≤ (wr.alloc (.cells #[.int .i64 n] 3)).heap.size := by simp; omega
        go_wp2_with ((with_reducible refine at_append ?_); refine wpList_append_sl _ rfl (.tmp 18) (.tmp 20) 59 rfl w.heap.size 3 i0 (.int .i64 0) 8 Tryd.underlying59 hi hz0 hz1 hz2 rfl _ _ _ rfl (hown.alloc _) _ .i64 (some ⟨wr.heap.size, 0, none⟩) 1 1 [(n : Int)] rfl hsl HB1.out.1 HB1.out.2 hbz2 ?_; intro v' w1 hown1 hgrow _; (have hb1 : Below w.heap.size w w1 := (hbl.alloc hbz _).grown hgrow hbz2 (fun k hk => (hown.lt k hk).1)))
        go_roundw
        case rel => exact ⟨n + 1, by omega, by go_num, by rw [HM.out, List.length_append, List.map_append]; exact hown1, hb1⟩
        case measure => simp [intOf]; omega
      · have HM := Lib.hid (metI_no b n hp)
        have hp2 : decide (0 < b.ofAt n) = false := by simpa using hp
        clear hp
        go_wp2_with fail
        go_roundw
        case rel => exact ⟨n + 1, by omega, by go_num, by rw [HM.out]; exact hown, hbl⟩
        case measure => simp [intOf]; omega
    · obtain rfl : n = 64 := by omega
      obtain ⟨A, c, rfl, hs⟩ := SlI.of_own hown
      go_wp2_with fail
      go_ret
      exact ⟨⟨A, c, rfl, hs⟩, hbl⟩
end Go.Proofs.YtjcpgnachkhjaaaDoor
