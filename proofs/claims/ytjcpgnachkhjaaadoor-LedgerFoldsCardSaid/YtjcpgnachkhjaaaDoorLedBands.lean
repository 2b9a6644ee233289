/- ledger.bands: its iterator's contract. -/
import Derived.Test.YtjcpgnachkhjaaaDoorLedMet
import Derived.Test.YtjcpgnachkhjaaaDoorLedSame
import Derived.Test.YtjcpgnachkhjaaaDoorScope
import Derived.RangeFuncNested
import Derived.RangeFuncBound
import Derived.RangeFuncCalls
import Derived.RangeFuncLeaves
import Derived.Shelf.Abstract
import Derived.Shelf.RegionOpen
import Derived.OwnWalkIn
import Derived.TacticsInMore
import Derived.LoopNIn
import Derived.LoopIn
namespace Go.Proofs.YtjcpgnachkhjaaaDoor
open Go.RowKit Go.Shelf
attribute [local go_sem] Oper.semAt_some
set_option linter.unusedVariables false
set_option linter.unusedSimpArgs false
set_option maxRecDepth 100000

/-- The bands of a meter that have something, of the first ones. -/
def bandN (b : Bk) (m n : Nat) : List (Fin 8) := ((List.finRange 8).take n).filter fun k => decide ((b.totAt m k.1).many ≠ 0)
def bandV (b : Bk) (m : Nat) (k : Fin 8) : Array Value := #[.int .i64 (k.1 : Nat), .agg #[.int .i64 (b.totAt m k.1).energy, .int .i64 (b.totAt m k.1).cost, .int .i64 (b.totAt m k.1).many]]
theorem bandN_succ (b : Bk) (m n : Nat) (h : n < 8) : bandN b m (n + 1) = if (b.totAt m n).many ≠ 0 then bandN b m n ++ [⟨n, h⟩] else bandN b m n := by
  unfold bandN
  rw [List.take_add_one, List.getElem?_eq_getElem (by rw [List.length_finRange]; exact h), List.getElem_finRange, List.filter_append]
  by_cases hm : (b.totAt m n).many = 0
  · simp [hm]
  · simp [hm]
theorem bandN_len (b : Bk) (m n : Nat) : (bandN b m n).length ≤ n := by
  unfold bandN
  refine Nat.le_trans (List.length_filter_le _ _) ?_
  rw [List.length_take]; omega
theorem bandN_pre (b : Bk) (m n : Nat) (h : n ≤ 8) : bandN b m n <+: bandN b m 8 := by
  have e : (List.finRange 8).take 8 = (List.finRange 8).take n ++ ((List.finRange 8).drop n) := by
    rw [List.take_append_drop, List.take_of_length_le (by rw [List.length_finRange]; omega)]
  unfold bandN
  rw [e, List.filter_append]
  exact List.prefix_append _ _
theorem index_row (b : Bk) (hb : b.tot.length = 512) (m n : Nat) (hm : m < 64) (hn : n < 8) (w : World) : (Instr.index 33 (.agg (((b.tot.drop (m * 8)).take 8).flatMap Tot.cells).toArray) (.int .i64 n)).run Tryd.prog w = .ok (.agg #[.int .i64 (b.totAt m n).energy, .int .i64 (b.totAt m n).cost, .int .i64 (b.totAt m n).many]) w := by
  have hs : ∀ w, (sizeOf 32).run Tryd.prog w = .ok 3 w := fun w => Tryd.sizeOf32 w
  have hp : ∀ w, (part 32 (((b.tot.drop (m * 8)).take 8).flatMap Tot.cells).toArray (n * 3)).run Tryd.prog w = .ok (.agg #[.int .i64 (b.totAt m n).energy, .int .i64 (b.totAt m n).cost, .int .i64 (b.totAt m n).many]) w := fun w => by
    rw [part_row w 32 _ 3 Tryd.underlying32 (by kernel_rfl) (by kernel_rfl)]
    have := flat_at Tot.cells 3 ((b.tot.drop (m * 8)).take 8) n Tot.zero (by rw [List.length_take, List.length_drop]; omega) (fun _ _ => rfl)
    rw [getD_sub _ _ _ _ _ hn] at this
    rw [this]; rfl
  have hb2 : (n : Int) < 8 := by omega
  generalize (((b.tot.drop (m * 8)).take 8).flatMap Tot.cells).toArray = X at hp ⊢
  simp [Instr.index, Sem.run_bind, asIntOf, run_underlying Tryd.underlying33, hs, hp, hb2]
  try (intro h; omega)
theorem Bk.row_range {K : Int} (b : Bk) (h : b.ok K) (m : Nat) (hm : m < 64) {W : World} {g : Nat} {t : TypeId} (hB : Held W g t b.arr) : W.rangeAt g (m * 24) (((b.tot.drop (m * 8)).take 8).flatMap Tot.cells) := by
  have e : b.tot.flatMap Tot.cells = (b.tot.take (m * 8)).flatMap Tot.cells ++ (((b.tot.drop (m * 8)).take 8).flatMap Tot.cells ++ ((b.tot.drop (m * 8)).drop 8).flatMap Tot.cells) := by
    rw [← List.flatMap_append, List.take_append_drop, ← List.flatMap_append, List.take_append_drop]
  have e2 : b.cells = (b.tot.take (m * 8)).flatMap Tot.cells ++ (((b.tot.drop (m * 8)).take 8).flatMap Tot.cells ++ (((b.tot.drop (m * 8)).drop 8).flatMap Tot.cells ++ (b.sums.flatMap SumS.cells ++ (b.ofm.map (Value.int .i64) ++ [.int .i64 b.many, .int .i64 b.seals])))) := by
    unfold Bk.cells; rw [e]; simp only [List.append_assoc]
  unfold Bk.arr at hB
  rw [e2] at hB
  have := held_range hB
  rwa [flat_len Tot.cells 3 _ (fun _ _ => rfl), List.length_take, h.tl, show min (m * 8) 512 * 3 = m * 24 by omega] at this
set_option maxHeartbeats 2000000 in
theorem bands1_in (K : Int) (b : Bk) (hb : b.ok K) (m : Nat) (hm : m < 64) (l Bp Bm gb : Nat) (J Jx : List (Fin 8) → World → Prop) (Kp : World → World → Prop) (W : World) (hJ : AbidesFrom W.heap.size J)
    (hY : ∀ pre x W, J pre W → pre.length < 8 → YieldAt Fence.wide 4 Tryd.prog l (bandV b m x) W fun e W' =>
      (e = .returned (.bool true) ∧ J (pre ++ [x]) W' ∧ Kp W W') ∨ (e = .returned (.bool false) ∧ Jx (pre ++ [x]) W'))
    (hB : Held W gb 40 b.arr) (hp : W.cell? ⟨Bp, 0, none⟩ = some (.pointer (some ⟨gb, 0, none⟩))) (hq : W.cell? ⟨Bm, 0, none⟩ = some (.int .i64 m)) (h0 : J [] W) :
    CallsIn Fence.wide 5 Tryd.prog 41 #[.func (.yield l) #[] #[], .pointer (some ⟨Bp, 0, none⟩), .pointer (some ⟨Bm, 0, none⟩)] W fun e W' => (∃ v, e = .returned v) ∧
      ((∃ ys, ys = bandN b m 8 ∧ J ys W') ∨ (∃ pre, pre <+: bandN b m 8 ∧ Jx pre W')) := by
  refine callsIn_of_wp Tryd.func41 rfl trivial ?_ rfl
  simp only [Tryd.ntmps41, List.size_toArray, List.length_cons, List.length_nil, Nat.reduceAdd, Nat.reduceSub, Array.replicate_succ, Array.replicate_zero, List.push_toArray, List.append_toArray, List.nil_append, List.cons_append]
  gi_wp2
  refine wpIn_scope ?_
  gi_wp2
  refine wpIn_label ?_
  gi_wp2
  refine wpIn_wide.2 ?_
  have hmI : (m : Int) < 64 := by omega
  have HRR := Lib.hid (fun (V : World) (h : Below W.heap.size W V) => b.row_range hb m hm (hB.below h hB.lt))
  have IR : Hid ((Tryd.prog.info? 33).map (·.size) = some (((b.tot.drop (m * 8)).take 8).flatMap Tot.cells).length) := Lib.hid (by rw [flat_len Tot.cells 3 _ (fun _ _ => rfl), List.length_take, List.length_drop, hb.tl, show min 8 (512 - m * 8) = 8 by omega]; kernel_rfl)
  have hpl := World.block_lt_of_cell? W _ hp
  have hql := World.block_lt_of_cell? W _ hq
  have HIXR := Lib.hid (fun (n : Nat) (hn : n < 8) (V : World) => index_row b hb.tl m n hm hn V)
  have HBN := Lib.hid (fun (n : Nat) (hn : n < 8) => bandN_succ b m n hn)
  obtain ⟨RW, hRW⟩ : ∃ R, ((b.tot.drop (m * 8)).take 8).flatMap Tot.cells = R := ⟨_, rfl⟩
  rw [hRW] at HRR IR HIXR
  obtain ⟨wd0, hwd0⟩ : ∃ Y : World, W.drew = Y := ⟨_, rfl⟩
  have hS : Below W.heap.size W wd0 := by rw [← hwd0]; exact (Below.refl _ _).drew
  have HJW : Hid (J [] wd0) := Lib.hid (by rw [← hwd0]; exact hJ [] W W.drew none h0 (grownBy_drew (World.grownBy.refl W none)) (fun r e => by cases e))
  refine wp_region_held (S := Below W.heap.size W) (by kernel_rfl) ?_
  change wpAnyH _ _ _ _ _ _ _ _ W.drew
  rw [hwd0]
  clear hwd0
  refine wpAnyH_take (i := 0) (v := ?v0_1) rfl (by kernel_rfl) (by kernel_rfl) (by kernel_rfl) (fun _ _ _ h => h) (Or.inl ⟨by rfl, ?y0_1⟩) hS ?r0_1
  case y0_1 =>
    rintro Y hH
    have xp := (hH.cell (p := ⟨Bp, 0, none⟩) hpl).trans hp
    have xq := (hH.cell (p := ⟨Bm, 0, none⟩) hql).trans hq
    go_simp
    with_reducible rfl
  simp only [Act.put]
  try simp only [List.getElem_toArray, List.getElem_cons_zero]
  try simp only [List.setIfInBounds_toArray, List.set_cons_succ, List.set_cons_zero]
  refine wpAnyH_take (i := 1) (v := ?v1_2) rfl (by kernel_rfl) (by kernel_rfl) (by kernel_rfl) (fun _ _ _ h => h) (Or.inl ⟨by rfl, ?y1_2⟩) hS ?r1_2
  case y1_2 =>
    rintro Y hH
    have xp := (hH.cell (p := ⟨Bp, 0, none⟩) hpl).trans hp
    have xq := (hH.cell (p := ⟨Bm, 0, none⟩) hql).trans hq
    go_simp
    with_reducible rfl
  simp only [Act.put]
  try simp only [List.getElem_toArray, List.getElem_cons_succ, List.getElem_cons_zero]
  try simp only [List.setIfInBounds_toArray, List.set_cons_succ, List.set_cons_zero]
  refine wpAnyH_take (i := 2) (v := ?v2_3) rfl (by kernel_rfl) (by kernel_rfl) (by kernel_rfl) (fun _ _ _ h => h) (Or.inl ⟨by rfl, ?y2_3⟩) hS ?r2_3
  case y2_3 =>
    rintro Y hH
    go_simp
    with_reducible rfl
  simp only [Act.put]
  try simp only [List.getElem_toArray, List.getElem_cons_succ, List.getElem_cons_zero]
  try simp only [List.setIfInBounds_toArray, List.set_cons_succ, List.set_cons_zero]
  refine wpAnyH_take (i := 3) (v := ?v3_4) rfl (by kernel_rfl) (by kernel_rfl) (by kernel_rfl) (fun _ _ _ h => h) (Or.inl ⟨by rfl, ?y3_4⟩) hS ?r3_4
  case y3_4 =>
    rintro Y hH
    go_simp
    with_reducible rfl
  simp only [Act.put]
  try simp only [List.getElem_toArray, List.getElem_cons_succ, List.getElem_cons_zero]
  try simp only [List.setIfInBounds_toArray, List.set_cons_succ, List.set_cons_zero]
  refine wpAnyH_take (i := 4) (v := ?v4_5) rfl (by kernel_rfl) (by kernel_rfl) (by kernel_rfl) (fun _ _ _ h => h) (Or.inl ⟨by rfl, ?y4_5⟩) hS ?r4_5
  case y4_5 =>
    rintro Y hH
    go_simp
    with_reducible rfl
  simp only [Act.put]
  try simp only [List.getElem_toArray, List.getElem_cons_succ, List.getElem_cons_zero]
  try simp only [List.setIfInBounds_toArray, List.set_cons_succ, List.set_cons_zero]
  refine wpAnyH_take (i := 5) (v := Value.agg RW.toArray) rfl (by kernel_rfl) (by kernel_rfl) (by kernel_rfl) (fun _ _ _ h => h) ?y5_6 hS ?r5_6
  case y5_6 => exact yieldsIf_load_mid (by kernel_rfl) 33 (.tmp 10) rfl gb (m * 24) (by kernel_rfl) RW _ (fun V h => HRR.out V h) Tryd.underlying33 (by kernel_rfl) IR.out
  simp only [Act.put]
  try simp only [List.getElem_toArray, List.getElem_cons_succ, List.getElem_cons_zero]
  try simp only [List.setIfInBounds_toArray, List.set_cons_succ, List.set_cons_zero]
  refine wpAnyH_take (i := 6) (v := ?v6_7) rfl (by kernel_rfl) (by kernel_rfl) (by kernel_rfl) (fun _ _ _ h => h) (Or.inl ⟨by rfl, ?y6_7⟩) hS ?r6_7
  case y6_7 =>
    rintro Y hH
    go_simp
    with_reducible rfl
  simp only [Act.put]
  try simp only [List.getElem_toArray, List.getElem_cons_succ, List.getElem_cons_zero]
  try simp only [List.setIfInBounds_toArray, List.set_cons_succ, List.set_cons_zero]
  refine wpAnyH_done (by kernel_rfl) ?_ _
  have HJ0 : Hid (J (bandN b m 0) wd0) := Lib.hid HJW.out
  clear hp hq hB HRR IR hS
  gi_wp2
  gi_loopw [12] (fun i wr => ∃ n : Nat, n ≤ 8 ∧ i = .int .i64 n ∧ J (bandN b m n) wr) (fun i _ => 8 - (intOf i).toNat)
  case atStart => exact ⟨0, by omega, rfl, HJ0.out⟩
  case round =>
    obtain ⟨n, hn, rfl, hJn⟩ := hrel
    by_cases hlt : n < 8
    · have hix := HIXR.out n hlt
      have hsu := HBN.out n hlt
      have hnI : (n : Int) < 8 := by omega
      have hJa : J (bandN b m n) (wr.alloc (.cells #[.int .i64 (b.totAt m n).energy, .int .i64 (b.totAt m n).cost, .int .i64 (b.totAt m n).many] 32)) := hJ _ _ _ none hJn (World.grownBy_alloc _ _ none) (fun r e => by cases e)
      by_cases hm0 : (b.totAt m n).many = 0
      · have HS := Lib.hid (show bandN b m (n + 1) = bandN b m n by rw [hsu, if_neg (by simp [hm0])])
        have HJA := Lib.hid hJa
        clear hsu hJn hJa
        rw [hm0] at hix HJA
        clear hm0
        gi_wp2
        go_roundw
        case rel => exact ⟨n + 1, by omega, by go_num, by rw [HS.out]; exact HJA.out⟩
        case measure => simp [intOf]; omega
      · have HS := Lib.hid (show bandN b m (n + 1) = bandN b m n ++ [⟨n, hlt⟩] by rw [hsu, if_pos hm0])
        have hm1 : ((b.totAt m n).many == 0) = false := by simpa using hm0
        obtain ⟨fn, tmps, assign, body, hy, hR⟩ := hY _ ⟨n, hlt⟩ _ hJa (by have := bandN_len b m n; omega)
        have HPre := Lib.hid (show bandN b m (n + 1) <+: bandN b m 8 from bandN_pre b m (n + 1) (by omega))
        clear hsu hJn hJa hm0
        unfold bandV at hy
        dsimp only at hy
        gi_wp2
        refine hR.mono ?_
        rintro e W3 (⟨rfl, hJ3, hk3⟩ | ⟨rfl, hJx3⟩)
        · gi_wp2
          go_roundw
          case rel => exact ⟨n + 1, by omega, by go_num, by rw [HS.out]; exact hJ3⟩
          case measure => simp [intOf]; omega
        · gi_wp2
          rw [Exit.noGoto_ret]
          refine bodyPost_ret (results_none rfl _ _ _) rfl ?_
          exact ⟨⟨_, rfl⟩, .inr ⟨_, by rw [← HS.out]; exact HPre.out, hJx3⟩⟩
    · obtain rfl : n = 8 := by omega
      gi_wp2
      refine ⟨rfl, _, results_none rfl _ _ _, ?_⟩
      exact ⟨⟨_, rfl⟩, .inl ⟨_, rfl, hJn⟩⟩
theorem bands_in (gb : Nat) (m : Int) (w : World) :
    CallsIn Fence.wide 5 Tryd.prog 33 #[.pointer (some ⟨gb, 0, none⟩), .int .i64 m] w fun e w' => e = .returned (.func (.func 41) #[] #[.pointer (some ⟨w.heap.size, 0, none⟩), .pointer (some ⟨w.heap.size + 1, 0, none⟩)]) ∧ w' = (w.alloc (.cells #[.pointer (some ⟨gb, 0, none⟩)] 30)).alloc (.cells #[.int .i64 m] 3) := by
  refine callsIn_of_wp Tryd.func33 rfl trivial ?_ rfl
  simp only [Tryd.ntmps33, List.size_toArray, List.length_cons, List.length_nil, Nat.reduceAdd, Nat.reduceSub, Array.replicate_succ, Array.replicate_zero, List.push_toArray, List.append_toArray, List.nil_append, List.cons_append]
  gi_wp2
  go_ret
  exact ⟨rfl, rfl⟩
theorem bands_stops (K : Int) (b : Bk) (hb : b.ok K) (m : Nat) (hm : m < 64) (Bp Bm gb : Nat) (Kp : World → World → Prop) (w : World) (hB : Held w gb 40 b.arr) (hp : w.cell? ⟨Bp, 0, none⟩ = some (.pointer (some ⟨gb, 0, none⟩))) (hq : w.cell? ⟨Bm, 0, none⟩ = some (.int .i64 m)) :
    SeqStopsK Fence.wide 5 Tryd.prog 41 #[.pointer (some ⟨Bp, 0, none⟩), .pointer (some ⟨Bm, 0, none⟩)] (bandV b m) Kp (fun ys => ys = bandN b m 8) (fun pre => pre <+: bandN b m 8) 8 w := fun l J Jx W hW hJ _ hY h0 =>
  bands1_in K b hb m hm l Bp Bm gb J Jx Kp W hJ hY (hB.below hW hB.lt) ((hW.cell (p := ⟨Bp, 0, none⟩) (World.block_lt_of_cell? w _ hp)).trans hp) ((hW.cell (p := ⟨Bm, 0, none⟩) (World.block_lt_of_cell? w _ hq)).trans hq) h0
end Go.Proofs.YtjcpgnachkhjaaaDoor
