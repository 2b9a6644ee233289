/- A new entry: the first region of entry.Check. -/
import Derived.Test.YtjcpgnachkhjaaaDoorLedGet
import Derived.Deep.WholeRow
import Derived.TacticsInMore
namespace Go.Proofs.YtjcpgnachkhjaaaDoor
open Go.RowKit
attribute [local go_sem] Oper.semAt_some
set_option linter.unusedVariables false
set_option linter.unusedSimpArgs false
set_option maxRecDepth 100000

theorem ent_info : (Tryd.prog.info? 28).map (fun i => (i.zero, i.size)) = some (some (.agg (Ent.none 0).arr), 42) := by kernel_rfl
theorem ent_zero (w : World) : (zeroValue 28).run Tryd.prog w = .ok (.agg (Ent.none 0).arr) w := (zero_of_info ent_info).1 w
theorem ent_size (e : Ent) (h : e.hash.length = 32) : (Tryd.prog.info? 28).map (·.size) = some e.arr.size := by
  rw [Ent.arr_size e h]; exact (zero_of_info ent_info).2
theorem ent_one (e : Ent) : e.arr.all (·.oneCell') = true := by
  simp [Ent.arr, Ent.cells, Value.oneCell']
theorem alloc_new (w : World) : (Instr.alloc 28 true (.tuple #[])).run Tryd.prog w = .ok (.pointer (some ⟨w.heap.size, 0, none⟩)) (w.alloc (.cells (Ent.none 0).arr 28)) := by
  have hz := ent_zero
  generalize (Ent.none 0).arr = Z at hz ⊢
  simp [Instr.alloc, Sem.run_bind, hz, go_sem]
theorem store_new (w : World) (e : Ent) (h : e.hash.length = 32) : (Instr.storeAt 28 (.pointer (some ⟨w.heap.size, 0, none⟩)) (.agg e.arr)).run Tryd.prog (w.alloc (.cells (Ent.none 0).arr 28)) = .ok () (w.alloc (.cells e.arr 28)) :=
  run_storeAt_new w _ _ _ (ent_size e h) (by rw [Ent.arr_size e h]; rfl) (ent_one e)
theorem build_new (w : World) (k : Int) : (Instr.build 28 #[(0, .int .i64 k)]).run Tryd.prog w = .ok (.agg (Ent.none k).arr) w := by
  have hz := ent_zero
  have hk : (Ent.none k).arr = (Ent.none 0).arr.setIfInBounds 0 (.int .i64 k) := by simp [Ent.none, Ent.arr, Ent.cells]
  have hne : (Ent.none 0).arr ≠ #[] := by simp [Ent.arr, Ent.cells]
  rw [hk]
  generalize (Ent.none 0).arr = Z at hz hne ⊢
  simp [Instr.build, Sem.run_bind, hz, hne, go_sem]
section
variable {P : Program} {op : Oper} {a : Act} {w w' : World} {K : Act → World → Prop} {Q : Exit → Act → World → Prop}
theorem wp_build_of (t : TypeId) (ps : Array (Nat × Operand)) (ho : op.op = .build t ps) (vs : Array (Nat × Value)) (hv : (ps.map fun (i, x) => (i, a.eval x)) = vs) (v : Value) (h : (Instr.build t vs).run P w = .ok v w') (hk : K (a.put op.dst v) w') : op.wp P a w K Q := by
  unfold Oper.wp execOp
  subst hv
  simp only [ho, h, Sem.run_bind, Sem.run_pure, Result.andThen_ok]
  exact hk
theorem wp_alloc_of (t : TypeId) (ho : op.op = .alloc t) (v : Value) (h : (Instr.alloc t true (.tuple #[])).run P w = .ok v w') (hk : K (a.put op.dst v) w') : op.wp P a w K Q := by
  unfold Oper.wp execOp
  simp only [ho, h, Sem.run_bind, Sem.run_pure, Result.andThen_ok]
  exact hk
theorem wp_store_of (t : TypeId) (x y : Operand) (ho : op.op = .store t x y) (vx vy : Value) (hx : a.eval x = vx) (hy : a.eval y = vy) (h : (Instr.storeAt t vx vy).run P w = .ok () w') (hk : K (a.put op.dst undef) w') : op.wp P a w K Q := by
  unfold Oper.wp execOp
  simp only [ho, hx, hy, h, Sem.run_bind, Sem.run_pure, Result.andThen_ok]
  exact hk
variable {F : Fence} {n : Nat} {ops : Array Oper} {rest : List Oper}
/-- A whole load at a plain region's list, guarded or not: an arm of the walk. -/
theorem wpList_load_w (ty : TypeId) (x : Operand) (ho : op.op = .load ty x) (b o : Nat) (hx : a.eval x = .pointer (some ⟨b, o, none⟩)) (hw : Region.wanted op (yielded ops a.tmps) = true) (cs : List Value) (d : TypeDesc) (hc : w.rangeAt b o cs)
    (hu : P.underlying ty = some d) (hd : d.isRow = true) (hi : (P.info? ty).map (·.size) = some cs.length)
    (h : wpList P ops Q rest (a.put op.dst (.agg cs.toArray)) w) : wpList P ops Q (op :: rest) a w :=
  wpList_step fun K hK => by rw [if_pos hw]; exact wp_load_mid ty x ho b o hx cs d hc hu hd hi (hK _ _ h)
theorem wpIn_load_mid (ty : TypeId) (x : Operand) (ho : op.op = .load ty x) (b o : Nat) (hx : a.eval x = .pointer (some ⟨b, o, none⟩)) (cs : List Value) (d : TypeDesc) (hc : w.rangeAt b o cs)
    (hu : P.underlying ty = some d) (hd : d.isRow = true) (hi : (P.info? ty).map (·.size) = some cs.length)
    (h : K (a.put op.dst (.agg cs.toArray)) w) : op.wpIn F n P a w K Q := by
  unfold Oper.wpIn
  refine ⟨fun f hf => ?_, ?_⟩
  · simp [Oper.about, ho] at hf
  rw [Oper.semAt_eq _ _ _ (fun c hc => by rw [ho] at hc; cases hc)]
  unfold execOp
  simp only [ho, hx, Instr.loadAt, Instr.sureAddr, Sem.run_bind, Sem.run_pure, Result.andThen_ok, run_loadVar_mid w b o ty cs d hc hu hd hi]
  exact h
theorem wpIn_store_mid (ty : TypeId) (x y : Operand) (ho : op.op = .store ty x y)
    (b o : Nat) (cells : Array Value) (hx : a.eval x = .pointer (some ⟨b, o, none⟩)) (hy : a.eval y = .agg cells)
    (ht : w.there b o cells.size) (hi : (P.info? ty).map (·.size) = some cells.size) (h1 : cells.all (·.oneCell') = true)
    (h : K (a.put op.dst undef) (w.setCells b o cells.toList)) : op.wpIn F n P a w K Q := by
  unfold Oper.wpIn
  refine ⟨fun f hf => ?_, ?_⟩
  · simp [Oper.about, ho] at hf
  rw [Oper.semAt_eq _ _ _ (fun c hc => by rw [ho] at hc; cases hc)]
  unfold execOp
  simp only [ho, hx, hy, Instr.storeAt, Instr.sureAddr, Sem.run_bind, Sem.run_pure, Result.andThen_ok, run_storeVar_mid w b o ty cells ht hi h1]
  exact h
end
end Go.Proofs.YtjcpgnachkhjaaaDoor
