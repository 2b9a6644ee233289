/- ledger.Same, walked. -/
import Derived.Test.YtjcpgnachkhjaaaDoorLedSame
namespace Go.Proofs.YtjcpgnachkhjaaaDoor
open Go.RowKit Go.Shelf
attribute [local go_sem] Oper.semAt_some
set_option linter.unusedVariables false
set_option linter.unusedSimpArgs false
set_option maxRecDepth 100000

theorem book_eql (K L : Int) (a b : Bk) (ha : a.ok K) (hb : b.ok L) (w : World) : (binOp .eql 40 (.agg a.arr) (.agg b.arr)).run Tryd.prog w = .ok (.bool (decide (a = b))) w := by
  rw [run_eql_struct, book_in 9994 K L a b ha hb]; rfl
theorem book_guard (w : World) (x y : Operand) (xs ys : Array Value) : (eqGuard .eql 40 x y (.agg xs) (.agg ys)).run Tryd.prog w = .ok () w := run_eqGuard_agg w .eql 40 x y xs ys (by kernel_rfl)
theorem yieldsIf_bin {P : Program} {ops : Array Oper} {a : Act} {S : World → Prop} {dst : Option Tmp} {t2 : TypeId} {pos : String} {after : Array Edge} {guard : Option (Nat × Bool)} (b : BinOp) (ty t3 : TypeId) (x y : Operand) (vx vy v : Value)
    (hw : Region.wanted ⟨dst, .binOp b ty x y t3, t2, pos, after, guard⟩ (yielded ops a.tmps) = true) (hx : a.eval x = vx) (hy : a.eval y = vy) (hg : ∀ w, (eqGuard b ty x y vx vy).run P w = .ok () w) (h : ∀ w, (binOp b ty vx vy).run P w = .ok v w) :
    YieldsIf P ops S ⟨dst, .binOp b ty x y t3, t2, pos, after, guard⟩ v a :=
  .inl ⟨hw, fun w _ => exec_bin b ty t3 x y vx vy v hx hy (hg w) (h w)⟩
set_option maxHeartbeats 4000000 in
theorem same_any (K L : Int) (a b : Bk) (ha : a.ok K) (hb : b.ok L) (ga gb : Nat) (w : World) (hA : Held w ga 40 a.arr) (hB : Held w gb 40 b.arr) :
    Calls Tryd.prog 15 #[.pointer (some ⟨ga, 0, none⟩), .pointer (some ⟨gb, 0, none⟩)] w fun e w' => e = .returned (.bool (decide (a = b))) ∧ Below w.heap.size w w' := by
  have IA : Hid ((Tryd.prog.info? 40).map (·.size) = some (a).arr.size) := Lib.hid (by rw [book_size, Bk.arr_size _ ha])
  have IB : Hid ((Tryd.prog.info? 40).map (·.size) = some (b).arr.size) := Lib.hid (by rw [book_size, Bk.arr_size _ hb])
  have HEQ := Lib.hid (fun v => book_eql K L (a) (b) ha hb v)
  generalize decide ((a) = (b)) = r at HEQ ⊢
  have hz0 : w.heap.size < (w.alloc (.cells Bk.zero.arr 40)).heap.size := by simp
  have hZ0 : Held (w.alloc (.cells Bk.zero.arr 40)) w.heap.size 40 Bk.zero.arr := Held.new w _ _
  have hb0 : Below w.heap.size w (w.alloc (.cells Bk.zero.arr 40)) := (Below.refl _ _).alloc (Nat.le_refl _) _
  have HA := Lib.hid alloc_book
  go_in
  go_upto_region 6 with (((with_reducible refine wpList_alloc_at (dst := some 5) 40 _ _ (by kernel_rfl) (HA.out _) ?_); simp only [Act.put, List.setIfInBounds_toArray, List.set_cons_succ, List.set_cons_zero]))
  generalize w.alloc (.cells Bk.zero.arr 40) = w1 at hz0 hZ0 hb0 ⊢
  have h1 : Held w1 ga 40 (a).arr := hA.below hb0 hA.lt
  have h2 : Held w1 gb 40 (b).arr := hB.below hb0 hB.lt
  obtain ⟨wd6, hwd6⟩ : ∃ W : World, w1.drew = W := ⟨_, rfl⟩
  have hS : Below w1.heap.size w1 wd6 := by rw [← hwd6]; exact (Below.refl _ _).drew
  refine wp_region_held (S := Below w1.heap.size w1) (by kernel_rfl) ?_
  change wpAnyH _ _ _ _ _ _ _ _ w1.drew
  rw [hwd6]
  clear hwd6
  refine wpAnyH_take (i := 0) (v := ?v0_1) rfl (by kernel_rfl) (by kernel_rfl) (by kernel_rfl) (fun _ _ _ h => h) (Or.inl ⟨by rfl, ?y0_1⟩) hS ?r0_1
  case y0_1 =>
    rintro W hH
    go_simp
    with_reducible rfl
  simp only [Act.put]
  try simp only [List.getElem_toArray, List.getElem_cons_zero]
  try simp only [List.setIfInBounds_toArray, List.set_cons_succ, List.set_cons_zero]
  refine wpAnyH_take (i := 1) (v := ?v1_2) rfl (by kernel_rfl) (by kernel_rfl) (by kernel_rfl) (fun _ _ _ h => h) (Or.inl ⟨by rfl, ?y1_2⟩) hS ?r1_2
  case y1_2 =>
    rintro W hH
    go_simp
    with_reducible rfl
  simp only [Act.put]
  try simp only [List.getElem_toArray, List.getElem_cons_succ, List.getElem_cons_zero]
  try simp only [List.setIfInBounds_toArray, List.set_cons_succ, List.set_cons_zero]
  refine wpAnyH_take (i := 2) (v := Value.agg (a).arr) rfl (by kernel_rfl) (by kernel_rfl) (by kernel_rfl) (fun _ _ _ h => h) ?y2_3 hS ?r2_3
  case y2_3 => exact yieldsIf_load_held (by kernel_rfl) 40 (.tmp 11) rfl (ga) 40 (a).arr _ (by kernel_rfl) (fun _ h => h1.below h h1.lt) Tryd.underlying40 (by kernel_rfl) IA.out
  simp only [Act.put]
  try simp only [List.getElem_toArray, List.getElem_cons_succ, List.getElem_cons_zero]
  try simp only [List.setIfInBounds_toArray, List.set_cons_succ, List.set_cons_zero]
  refine wpAnyH_take (i := 3) (v := ?v3_4) rfl (by kernel_rfl) (by kernel_rfl) (by kernel_rfl) (fun _ _ _ h => h) (Or.inl ⟨by rfl, ?y3_4⟩) hS ?r3_4
  case y3_4 =>
    rintro W hH
    go_simp
    with_reducible rfl
  simp only [Act.put]
  try simp only [List.getElem_toArray, List.getElem_cons_succ, List.getElem_cons_zero]
  try simp only [List.setIfInBounds_toArray, List.set_cons_succ, List.set_cons_zero]
  refine wpAnyH_take (i := 4) (v := ?v4_5) rfl (by kernel_rfl) (by kernel_rfl) (by kernel_rfl) (fun _ _ _ h => h) (Or.inl ⟨by rfl, ?y4_5⟩) hS ?r4_5
  case y4_5 =>
    rintro W hH
    go_simp
    with_reducible rfl
  simp only [Act.put]
  try simp only [List.getElem_toArray, List.getElem_cons_succ, List.getElem_cons_zero]
  try simp only [List.setIfInBounds_toArray, List.set_cons_succ, List.set_cons_zero]
  refine wpAnyH_take (i := 5) (v := Value.agg (b).arr) rfl (by kernel_rfl) (by kernel_rfl) (by kernel_rfl) (fun _ _ _ h => h) ?y5_6 hS ?r5_6
  case y5_6 => exact yieldsIf_load_held (by kernel_rfl) 40 (.tmp 14) rfl (gb) 40 (b).arr _ (by kernel_rfl) (fun _ h => h2.below h h2.lt) Tryd.underlying40 (by kernel_rfl) IB.out
  simp only [Act.put]
  try simp only [List.getElem_toArray, List.getElem_cons_succ, List.getElem_cons_zero]
  try simp only [List.setIfInBounds_toArray, List.set_cons_succ, List.set_cons_zero]
  refine wpAnyH_take (i := 6) (v := Value.bool r) rfl (by kernel_rfl) (by kernel_rfl) (by kernel_rfl) (fun _ _ _ h => h) ?y6_7 hS ?r6_7
  case y6_7 => exact yieldsIf_bin .eql 40 40 (.tmp 12) (.tmp 15) (.agg (a).arr) (.agg (b).arr) _ (by kernel_rfl) (by kernel_rfl) (by kernel_rfl) (fun v => book_guard v _ _ _ _) HEQ.out
  simp only [Act.put]
  try simp only [List.getElem_toArray, List.getElem_cons_succ, List.getElem_cons_zero]
  try simp only [List.setIfInBounds_toArray, List.set_cons_succ, List.set_cons_zero]
  refine wpAnyH_take (i := 7) (v := ?v7_8) rfl (by kernel_rfl) (by kernel_rfl) (by kernel_rfl) (fun _ _ _ h => h) (Or.inl ⟨by rfl, ?y7_8⟩) hS ?r7_8
  case y7_8 =>
    rintro W hH
    go_simp
    with_reducible rfl
  simp only [Act.put]
  try simp only [List.getElem_toArray, List.getElem_cons_succ, List.getElem_cons_zero]
  try simp only [List.setIfInBounds_toArray, List.set_cons_succ, List.set_cons_zero]
  refine wpAnyH_done (by kernel_rfl) ?_ _
  go_wp2_with fail
  go_ret
  exact ⟨rfl, hb0.trans (hS.mono hb0.size)⟩
set_option maxHeartbeats 4000000 in
theorem same_none (L : Int) (b : Bk) (hb : b.ok L) (gb : Nat) (w : World) (hB : Held w gb 40 b.arr) :
    Calls Tryd.prog 15 #[.pointer none, .pointer (some ⟨gb, 0, none⟩)] w fun e w' => e = .returned (.bool (decide (Bk.zero = b))) ∧ Below w.heap.size w w' := by
  have ha := Bk.zero_ok
  have IA : Hid ((Tryd.prog.info? 40).map (·.size) = some (Bk.zero).arr.size) := Lib.hid (by rw [book_size, Bk.arr_size _ ha])
  have IB : Hid ((Tryd.prog.info? 40).map (·.size) = some (b).arr.size) := Lib.hid (by rw [book_size, Bk.arr_size _ hb])
  have HEQ := Lib.hid (fun v => book_eql 0 L (Bk.zero) (b) ha hb v)
  generalize decide ((Bk.zero) = (b)) = r at HEQ ⊢
  have hz0 : w.heap.size < (w.alloc (.cells Bk.zero.arr 40)).heap.size := by simp
  have hZ0 : Held (w.alloc (.cells Bk.zero.arr 40)) w.heap.size 40 Bk.zero.arr := Held.new w _ _
  have hb0 : Below w.heap.size w (w.alloc (.cells Bk.zero.arr 40)) := (Below.refl _ _).alloc (Nat.le_refl _) _
  have HA := Lib.hid alloc_book
  go_in
  go_upto_region 6 with (((with_reducible refine wpList_alloc_at (dst := some 5) 40 _ _ (by kernel_rfl) (HA.out _) ?_); simp only [Act.put, List.setIfInBounds_toArray, List.set_cons_succ, List.set_cons_zero]))
  generalize w.alloc (.cells Bk.zero.arr 40) = w1 at hz0 hZ0 hb0 ⊢
  have h1 : Held w1 w.heap.size 40 (Bk.zero).arr := hZ0
  have h2 : Held w1 gb 40 (b).arr := hB.below hb0 hB.lt
  obtain ⟨wd6, hwd6⟩ : ∃ W : World, w1.drew = W := ⟨_, rfl⟩
  have hS : Below w1.heap.size w1 wd6 := by rw [← hwd6]; exact (Below.refl _ _).drew
  refine wp_region_held (S := Below w1.heap.size w1) (by kernel_rfl) ?_
  change wpAnyH _ _ _ _ _ _ _ _ w1.drew
  rw [hwd6]
  clear hwd6
  refine wpAnyH_take (i := 0) (v := ?v0_1) rfl (by kernel_rfl) (by kernel_rfl) (by kernel_rfl) (fun _ _ _ h => h) (Or.inl ⟨by rfl, ?y0_1⟩) hS ?r0_1
  case y0_1 =>
    rintro W hH
    go_simp
    with_reducible rfl
  simp only [Act.put]
  try simp only [List.getElem_toArray, List.getElem_cons_zero]
  try simp only [List.setIfInBounds_toArray, List.set_cons_succ, List.set_cons_zero]
  refine wpAnyH_take (i := 1) (v := ?v1_2) rfl (by kernel_rfl) (by kernel_rfl) (by kernel_rfl) (fun _ _ _ h => h) (Or.inl ⟨by rfl, ?y1_2⟩) hS ?r1_2
  case y1_2 =>
    rintro W hH
    go_simp
    with_reducible rfl
  simp only [Act.put]
  try simp only [List.getElem_toArray, List.getElem_cons_succ, List.getElem_cons_zero]
  try simp only [List.setIfInBounds_toArray, List.set_cons_succ, List.set_cons_zero]
  refine wpAnyH_take (i := 2) (v := Value.agg (Bk.zero).arr) rfl (by kernel_rfl) (by kernel_rfl) (by kernel_rfl) (fun _ _ _ h => h) ?y2_3 hS ?r2_3
  case y2_3 => exact yieldsIf_load_held (by kernel_rfl) 40 (.tmp 11) rfl (w.heap.size) 40 (Bk.zero).arr _ (by kernel_rfl) (fun _ h => h1.below h h1.lt) Tryd.underlying40 (by kernel_rfl) IA.out
  simp only [Act.put]
  try simp only [List.getElem_toArray, List.getElem_cons_succ, List.getElem_cons_zero]
  try simp only [List.setIfInBounds_toArray, List.set_cons_succ, List.set_cons_zero]
  refine wpAnyH_take (i := 3) (v := ?v3_4) rfl (by kernel_rfl) (by kernel_rfl) (by kernel_rfl) (fun _ _ _ h => h) (Or.inl ⟨by rfl, ?y3_4⟩) hS ?r3_4
  case y3_4 =>
    rintro W hH
    go_simp
    with_reducible rfl
  simp only [Act.put]
  try simp only [List.getElem_toArray, List.getElem_cons_succ, List.getElem_cons_zero]
  try simp only [List.setIfInBounds_toArray, List.set_cons_succ, List.set_cons_zero]
  refine wpAnyH_take (i := 4) (v := ?v4_5) rfl (by kernel_rfl) (by kernel_rfl) (by kernel_rfl) (fun _ _ _ h => h) (Or.inl ⟨by rfl, ?y4_5⟩) hS ?r4_5
  case y4_5 =>
    rintro W hH
    go_simp
    with_reducible rfl
  simp only [Act.put]
  try simp only [List.getElem_toArray, List.getElem_cons_succ, List.getElem_cons_zero]
  try simp only [List.setIfInBounds_toArray, List.set_cons_succ, List.set_cons_zero]
  refine wpAnyH_take (i := 5) (v := Value.agg (b).arr) rfl (by kernel_rfl) (by kernel_rfl) (by kernel_rfl) (fun _ _ _ h => h) ?y5_6 hS ?r5_6
  case y5_6 => exact yieldsIf_load_held (by kernel_rfl) 40 (.tmp 14) rfl (gb) 40 (b).arr _ (by kernel_rfl) (fun _ h => h2.below h h2.lt) Tryd.underlying40 (by kernel_rfl) IB.out
  simp only [Act.put]
  try simp only [List.getElem_toArray, List.getElem_cons_succ, List.getElem_cons_zero]
  try simp only [List.setIfInBounds_toArray, List.set_cons_succ, List.set_cons_zero]
  refine wpAnyH_take (i := 6) (v := Value.bool r) rfl (by kernel_rfl) (by kernel_rfl) (by kernel_rfl) (fun _ _ _ h => h) ?y6_7 hS ?r6_7
  case y6_7 => exact yieldsIf_bin .eql 40 40 (.tmp 12) (.tmp 15) (.agg (Bk.zero).arr) (.agg (b).arr) _ (by kernel_rfl) (by kernel_rfl) (by kernel_rfl) (fun v => book_guard v _ _ _ _) HEQ.out
  simp only [Act.put]
  try simp only [List.getElem_toArray, List.getElem_cons_succ, List.getElem_cons_zero]
  try simp only [List.setIfInBounds_toArray, List.set_cons_succ, List.set_cons_zero]
  refine wpAnyH_take (i := 7) (v := ?v7_8) rfl (by kernel_rfl) (by kernel_rfl) (by kernel_rfl) (fun _ _ _ h => h) (Or.inl ⟨by rfl, ?y7_8⟩) hS ?r7_8
  case y7_8 =>
    rintro W hH
    go_simp
    with_reducible rfl
  simp only [Act.put]
  try simp only [List.getElem_toArray, List.getElem_cons_succ, List.getElem_cons_zero]
  try simp only [List.setIfInBounds_toArray, List.set_cons_succ, List.set_cons_zero]
  refine wpAnyH_done (by kernel_rfl) ?_ _
  go_wp2_with fail
  go_ret
  exact ⟨rfl, hb0.trans (hS.mono hb0.size)⟩
end Go.Proofs.YtjcpgnachkhjaaaDoor
