/- Operations on whole structs, one law each, at a list's head, guarded or not: arms of a walk, so that no struct is opened cell by cell. The operation is written out: another one fails at once. -/
import Derived.Test.YtnnknnaimabehaaDoorBoxes
import Derived.Deep.MidRow
import Derived.Deep.WholeRow
import Derived.TacticsInMore
import Derived.WalkKit
namespace Go.Proofs.YtnnknnaimabehaaDoor
open Go.RowKit
set_option linter.unusedVariables false

/- The same, the world behind an operation by what it holds. -/
theorem Held.new_at {W : World} {B : Nat} {t : TypeId} {cs : Array Value} (h : B = W.heap.size) : Held (W.alloc (.cells cs t)) B t cs := by rw [h]; exact Held.new W t cs
theorem Held.range {W : World} {B : Nat} {t : TypeId} {cs : Array Value} (h : Held W B t cs) : W.rangeAt B 0 cs.toList := fun j v hv => by
  rw [Nat.zero_add, h.cell j]
  simpa using hv
theorem Held.there {W : World} {B : Nat} {t : TypeId} {cs : Array Value} (h : Held W B t cs) (o n : Nat) (hn : o + n ≤ cs.size) : W.there B o n := fun j hj => by
  refine ⟨?_, h.frozen _⟩
  rw [h.cell, Array.getElem?_eq_getElem (by omega)]; rfl
theorem held_splice {B : Nat} {t : TypeId} : ∀ (vs old : List Value) {W : World} (A C : List Value), vs.length = old.length → Held W B t (A ++ (old ++ C)).toArray → Held (W.setCells B A.length vs) B t (A ++ (vs ++ C)).toArray
  | [], [], W, A, C, _, h => h
  | v :: vs, u :: old, W, A, C, hl, h => by
    have h2 := h.set A.length v
    simp only [List.cons_append, List.setIfInBounds_toArray, List.set_append_right _ _ (Nat.le_refl _), Nat.sub_self, List.set_cons_zero] at h2
    have h3 := held_splice vs old (A ++ [v]) C (by simpa using hl) (by simpa using h2)
    simpa [World.setCells] using h3
theorem Held.whole {W : World} {B : Nat} {t : TypeId} {old cs : Array Value} (h : Held W B t old) (hs : cs.size = old.size) : Held (W.setCells B 0 cs.toList) B t cs := by
  have := held_splice (W := W) (B := B) (t := t) cs.toList old.toList [] [] (by simpa using hs) (by simpa using h)
  simpa using this
theorem size_setCells (B : Nat) : ∀ (vs : List Value) (o : Nat) (W : World), (W.setCells B o vs).heap.size = W.heap.size
  | [], _, _ => rfl
  | v :: vs, o, W => by rw [World.setCells, size_setCells B vs (o + 1) _, World.size_setCell]
/-- All blocks but one are as they were; none is gone. -/
def But (g : Nat) (W W' : World) : Prop := Below 0 W W' ∧ ∀ k, k ≠ g → k < W.heap.size → W'.heap[k]? = W.heap[k]?
theorem But.size {g : Nat} {W W' : World} (h : But g W W') : W.heap.size ≤ W'.heap.size := h.1.size
theorem But.refl (g : Nat) (W : World) : But g W W := ⟨Below.refl _ _, fun _ _ _ => rfl⟩
theorem But.trans {g : Nat} {A B C : World} (h : But g A B) (k : But g B C) : But g A C := ⟨h.1.trans k.1, fun j h1 h2 => (k.2 j h1 (Nat.lt_of_lt_of_le h2 h.size)).trans (h.2 j h1 h2)⟩
theorem But.of_below {g : Nat} {A B : World} (h : Below A.heap.size A B) : But g A B := ⟨h.mono (Nat.zero_le _), fun k _ hk => h.block k hk⟩
theorem But.set {g : Nat} {A B : World} (h : But g A B) (i : Nat) (v : Value) : But g A (B.setCell ⟨g, i, none⟩ v) :=
  ⟨h.1.setCell (p := ⟨g, i, none⟩) (Nat.zero_le _) v, fun k h1 h2 => (Below.heap_setCell B ⟨g, i, none⟩ v k h1).trans (h.2 k h1 h2)⟩
theorem But.sets {g : Nat} {A : World} : ∀ (vs : List Value) (o : Nat) {B : World}, But g A B → But g A (B.setCells g o vs)
  | [], _, _, h => h
  | v :: vs, o, _, h => by rw [World.setCells]; exact But.sets vs (o + 1) (h.set o v)
theorem But.held {g k : Nat} {t : TypeId} {cs : Array Value} {A B : World} (h : But g A B) (hk : k ≠ g) (hh : Held A k t cs) : Held B k t cs := (h.2 k hk hh.lt).trans hh
theorem But.below {g n : Nat} {A B : World} (h : But g A B) (hg : n ≤ g) (hA : n ≤ A.heap.size) : Below n A B := ⟨h.1.os, h.1.tape, h.1.output, h.1.size, fun k hk => h.2 k (by omega) (by omega)⟩
theorem Held.sets_far {W : World} {B : Nat} {t : TypeId} {cs : Array Value} (h : Held W B t cs) (B' o : Nat) (vs : List Value) (hne : B ≠ B') : Held (W.setCells B' o vs) B t cs := (But.sets vs o (But.refl B' W)).held hne h
theorem Held.drewN {W : World} {B : Nat} {t : TypeId} {cs : Array Value} (h : Held W B t cs) (n : Nat) : Held (W.drewN n) B t cs := (below_drewN (Below.refl W.heap.size W) n).block B h.lt |>.trans h

section
variable {P : Program} {a : Act} {w w' : World} {K : Act → World → Prop} {Q : Exit → Act → World → Prop} {ops : Array Oper} {rest : List Oper}
variable {dst : Option Tmp} {t2 : TypeId} {pos : String} {after : Array Edge} {guard : Option (Nat × Bool)}
theorem wpList_val {op : Oper} (hw : Region.wanted op (yielded ops a.tmps) = true) (v : Value) (h : (execOp a.eval op).run P w = .ok (.value v) w') (hk : wpList P ops Q rest (a.put op.dst v) w') : wpList P ops Q (op :: rest) a w :=
  wpList_step fun K hK => by rw [if_pos hw]; unfold Oper.wp; rw [h]; exact hK _ _ hk
theorem wpList_skp {op : Oper} (hw : Region.wanted op (yielded ops a.tmps) = true) (h : (execOp a.eval op).run P w = .ok .skip w') (hk : wpList P ops Q rest (a.put op.dst undef) w') : wpList P ops Q (op :: rest) a w :=
  wpList_step fun K hK => by rw [if_pos hw]; unfold Oper.wp; rw [h]; exact hK _ _ hk
theorem wpListIn_val {F : Fence} {n : Nat} {op : Oper} (hw : Region.wanted op (yielded ops a.tmps) = true) (ho : op.about P w a.eval = none) (hd : ∀ c, op.op ≠ .defer c) (v : Value) (h : (execOp a.eval op).run P w = .ok (.value v) w') (hk : wpListIn F n P ops Q rest (a.put op.dst v) w') : wpListIn F n P ops Q (op :: rest) a w :=
  wpListIn_step fun K hK => by
    rw [if_pos hw]; unfold Oper.wpIn
    refine ⟨fun f hf => (by rw [ho] at hf; cases hf), ?_⟩
    rw [Oper.semAt_eq _ _ _ hd, h]; exact hK _ _ hk
theorem wpListIn_skp {F : Fence} {n : Nat} {op : Oper} (hw : Region.wanted op (yielded ops a.tmps) = true) (ho : op.about P w a.eval = none) (hd : ∀ c, op.op ≠ .defer c) (h : (execOp a.eval op).run P w = .ok .skip w') (hk : wpListIn F n P ops Q rest (a.put op.dst undef) w') : wpListIn F n P ops Q (op :: rest) a w :=
  wpListIn_step fun K hK => by
    rw [if_pos hw]; unfold Oper.wpIn
    refine ⟨fun f hf => (by rw [ho] at hf; cases hf), ?_⟩
    rw [Oper.semAt_eq _ _ _ hd, h]; exact hK _ _ hk

theorem exec_load {ρ : Operand → Value} (ty : TypeId) (x : Operand) (b o : Nat) (cs : List Value) (d : TypeDesc) (hx : ρ x = .pointer (some ⟨b, o, none⟩)) (hc : w.rangeAt b o cs)
    (hu : P.underlying ty = some d) (hd : d.isRow = true) (hi : (P.info? ty).map (·.size) = some cs.length) : (execOp ρ ⟨dst, .load ty x, t2, pos, after, guard⟩).run P w = .ok (.value (.agg cs.toArray)) w := by
  unfold execOp
  simp only [hx, Sem.run_bind, run_loadAt_mid w b o ty cs d hc hu hd hi, Result.andThen_ok, Sem.run_pure]
theorem exec_store {ρ : Operand → Value} (ty : TypeId) (x y : Operand) (b o : Nat) (cells : Array Value) (hx : ρ x = .pointer (some ⟨b, o, none⟩)) (hy : ρ y = .agg cells)
    (ht : w.there b o cells.size) (hi : (P.info? ty).map (·.size) = some cells.size) (h1 : cells.all (·.oneCell') = true) : (execOp ρ ⟨dst, .store ty x y, t2, pos, after, guard⟩).run P w = .ok .skip (w.setCells b o cells.toList) := by
  unfold execOp
  simp only [hx, hy, Sem.run_bind, run_storeAt_mid w b o ty cells ht hi h1, Result.andThen_ok, Sem.run_pure]
theorem exec_store_to {ρ : Operand → Value} (ty : TypeId) (x y : Operand) (vx vy : Value) (hx : ρ x = vx) (hy : ρ y = vy) (h : (Instr.storeAt ty vx vy).run P w = .ok () w') : (execOp ρ ⟨dst, .store ty x y, t2, pos, after, guard⟩).run P w = .ok .skip w' := by
  unfold execOp
  simp only [hx, hy, Sem.run_bind, h, Result.andThen_ok, Sem.run_pure]
theorem exec_alloc {ρ : Operand → Value} (ty : TypeId) (v : Value) (h : (Instr.alloc ty true (.tuple #[])).run P w = .ok v w') : (execOp ρ ⟨dst, .alloc ty, t2, pos, after, guard⟩).run P w = .ok (.value v) w' := by
  unfold execOp
  simp only [Sem.run_bind, h, Result.andThen_ok, Sem.run_pure]
theorem exec_build {ρ : Operand → Value} (ty : TypeId) (ps : Array (Nat × Operand)) (vs : Array (Nat × Value)) (v : Value) (hv : (ps.map fun (i, x) => (i, ρ x)) = vs) (h : (Instr.build ty vs).run P w = .ok v w') : (execOp ρ ⟨dst, .build ty ps, t2, pos, after, guard⟩).run P w = .ok (.value v) w' := by
  subst hv
  unfold execOp
  simp only [Sem.run_bind, h, Result.andThen_ok, Sem.run_pure]
theorem exec_bin {ρ : Operand → Value} (b : BinOp) (ty t3 : TypeId) (x y : Operand) (vx vy v : Value) (hx : ρ x = vx) (hy : ρ y = vy) (hg : (eqGuard b ty x y vx vy).run P w = .ok () w) (h : (binOp b ty vx vy).run P w = .ok v w) : (execOp ρ ⟨dst, .binOp b ty x y t3, t2, pos, after, guard⟩).run P w = .ok (.value v) w := by
  unfold execOp
  simp only [hx, hy, Sem.run_bind, hg, h, Result.andThen_ok, Sem.run_pure]

/- The laws at a list's head. -/
theorem wpList_load_at (ty : TypeId) (x : Operand) (b o : Nat) (cs : List Value) (d : TypeDesc) (hw : Region.wanted ⟨dst, .load ty x, t2, pos, after, guard⟩ (yielded ops a.tmps) = true) (hx : a.eval x = .pointer (some ⟨b, o, none⟩)) (hc : w.rangeAt b o cs)
    (hu : P.underlying ty = some d) (hd : d.isRow = true) (hi : (P.info? ty).map (·.size) = some cs.length) (hk : wpList P ops Q rest (a.put dst (.agg cs.toArray)) w) : wpList P ops Q (⟨dst, .load ty x, t2, pos, after, guard⟩ :: rest) a w :=
  wpList_val hw _ (exec_load ty x b o cs d hx hc hu hd hi) hk
theorem wpListIn_load_at {F : Fence} {n : Nat} (ty : TypeId) (x : Operand) (b o : Nat) (cs : List Value) (d : TypeDesc) (hw : Region.wanted ⟨dst, .load ty x, t2, pos, after, guard⟩ (yielded ops a.tmps) = true) (hx : a.eval x = .pointer (some ⟨b, o, none⟩)) (hc : w.rangeAt b o cs)
    (hu : P.underlying ty = some d) (hd : d.isRow = true) (hi : (P.info? ty).map (·.size) = some cs.length) (hk : wpListIn F n P ops Q rest (a.put dst (.agg cs.toArray)) w) : wpListIn F n P ops Q (⟨dst, .load ty x, t2, pos, after, guard⟩ :: rest) a w :=
  wpListIn_val hw rfl (fun c h => by cases h) _ (exec_load ty x b o cs d hx hc hu hd hi) hk
theorem wpList_store_at (ty : TypeId) (x y : Operand) (b o : Nat) (cells : Array Value) (hw : Region.wanted ⟨dst, .store ty x y, t2, pos, after, guard⟩ (yielded ops a.tmps) = true) (hx : a.eval x = .pointer (some ⟨b, o, none⟩)) (hy : a.eval y = .agg cells)
    (ht : w.there b o cells.size) (hi : (P.info? ty).map (·.size) = some cells.size) (h1 : cells.all (·.oneCell') = true) (hk : wpList P ops Q rest (a.put dst undef) (w.setCells b o cells.toList)) : wpList P ops Q (⟨dst, .store ty x y, t2, pos, after, guard⟩ :: rest) a w :=
  wpList_skp hw (exec_store ty x y b o cells hx hy ht hi h1) hk
theorem wpListIn_store_at {F : Fence} {n : Nat} (ty : TypeId) (x y : Operand) (b o : Nat) (cells : Array Value) (hw : Region.wanted ⟨dst, .store ty x y, t2, pos, after, guard⟩ (yielded ops a.tmps) = true) (hx : a.eval x = .pointer (some ⟨b, o, none⟩)) (hy : a.eval y = .agg cells)
    (ht : w.there b o cells.size) (hi : (P.info? ty).map (·.size) = some cells.size) (h1 : cells.all (·.oneCell') = true) (hk : wpListIn F n P ops Q rest (a.put dst undef) (w.setCells b o cells.toList)) : wpListIn F n P ops Q (⟨dst, .store ty x y, t2, pos, after, guard⟩ :: rest) a w :=
  wpListIn_skp hw rfl (fun c h => by cases h) (exec_store ty x y b o cells hx hy ht hi h1) hk
theorem wpList_store_to (ty : TypeId) (x y : Operand) (vx vy : Value) (W : World) (hw : Region.wanted ⟨dst, .store ty x y, t2, pos, after, guard⟩ (yielded ops a.tmps) = true) (hx : a.eval x = vx) (hy : a.eval y = vy) (h : (Instr.storeAt ty vx vy).run P w = .ok () W)
    (hk : wpList P ops Q rest (a.put dst undef) W) : wpList P ops Q (⟨dst, .store ty x y, t2, pos, after, guard⟩ :: rest) a w :=
  wpList_skp hw (exec_store_to ty x y vx vy hx hy h) hk
theorem wpList_alloc_at (ty : TypeId) (v : Value) (W : World) (hw : Region.wanted ⟨dst, .alloc ty, t2, pos, after, guard⟩ (yielded ops a.tmps) = true) (h : (Instr.alloc ty true (.tuple #[])).run P w = .ok v W)
    (hk : wpList P ops Q rest (a.put dst v) W) : wpList P ops Q (⟨dst, .alloc ty, t2, pos, after, guard⟩ :: rest) a w :=
  wpList_val hw _ (exec_alloc ty v h) hk
theorem wpList_build_at (ty : TypeId) (ps : Array (Nat × Operand)) (vs : Array (Nat × Value)) (v : Value) (hw : Region.wanted ⟨dst, .build ty ps, t2, pos, after, guard⟩ (yielded ops a.tmps) = true) (hv : (ps.map fun (i, x) => (i, a.eval x)) = vs) (h : (Instr.build ty vs).run P w = .ok v w)
    (hk : wpList P ops Q rest (a.put dst v) w) : wpList P ops Q (⟨dst, .build ty ps, t2, pos, after, guard⟩ :: rest) a w :=
  wpList_val hw _ (exec_build ty ps vs v hv h) hk
theorem wpList_bin_at (b : BinOp) (ty t3 : TypeId) (x y : Operand) (vx vy v : Value) (hw : Region.wanted ⟨dst, .binOp b ty x y t3, t2, pos, after, guard⟩ (yielded ops a.tmps) = true) (hx : a.eval x = vx) (hy : a.eval y = vy) (hg : (eqGuard b ty x y vx vy).run P w = .ok () w) (h : (binOp b ty vx vy).run P w = .ok v w)
    (hk : wpList P ops Q rest (a.put dst v) w) : wpList P ops Q (⟨dst, .binOp b ty x y t3, t2, pos, after, guard⟩ :: rest) a w :=
  wpList_val hw _ (exec_bin b ty t3 x y vx vy v hx hy hg h) hk
/-- A whole store, the world behind it by what it holds. -/
theorem wpList_store_held (ty : TypeId) (x y : Operand) (b : Nat) (t : TypeId) (old cs : Array Value) (hw : Region.wanted ⟨dst, .store ty x y, t2, pos, after, guard⟩ (yielded ops a.tmps) = true) (hx : a.eval x = .pointer (some ⟨b, 0, none⟩)) (hy : a.eval y = .agg cs)
    (h : Held w b t old) (hs : cs.size = old.size) (hi : (P.info? ty).map (·.size) = some cs.size) (h1 : cs.all (·.oneCell') = true)
    (hk : ∀ W, Held W b t cs → But b w W → W.heap.size = w.heap.size → wpList P ops Q rest (a.put dst undef) W) : wpList P ops Q (⟨dst, .store ty x y, t2, pos, after, guard⟩ :: rest) a w :=
  wpList_store_at ty x y b 0 cs hw hx hy (h.there 0 _ (by omega)) hi h1 (hk _ (h.whole hs) (But.sets _ _ (But.refl _ _)) (size_setCells _ _ _ _))
/-- A load of what a block holds. -/
theorem wpList_load_held (ty : TypeId) (x : Operand) (b : Nat) (t : TypeId) (cs : Array Value) (d : TypeDesc) (hw : Region.wanted ⟨dst, .load ty x, t2, pos, after, guard⟩ (yielded ops a.tmps) = true) (hx : a.eval x = .pointer (some ⟨b, 0, none⟩)) (h : Held w b t cs)
    (hu : P.underlying ty = some d) (hd : d.isRow = true) (hi : (P.info? ty).map (·.size) = some cs.size) (hk : wpList P ops Q rest (a.put dst (.agg cs)) w) : wpList P ops Q (⟨dst, .load ty x, t2, pos, after, guard⟩ :: rest) a w :=
  wpList_load_at ty x b 0 cs.toList d hw hx h.range hu hd (by simpa using hi) hk
/-- A new variable of a type. -/
theorem wpList_alloc_held (ty : TypeId) (Z : Array Value) (hw : Region.wanted ⟨dst, .alloc ty, t2, pos, after, guard⟩ (yielded ops a.tmps) = true) (h : ∀ v : World, (Instr.alloc ty true (.tuple #[])).run P v = .ok (.pointer (some ⟨v.heap.size, 0, none⟩)) (v.alloc (.cells Z ty)))
    (hk : ∀ W, Held W w.heap.size ty Z → Below w.heap.size w W → W.heap.size = w.heap.size + 1 → wpList P ops Q rest (a.put dst (.pointer (some ⟨w.heap.size, 0, none⟩))) W) : wpList P ops Q (⟨dst, .alloc ty, t2, pos, after, guard⟩ :: rest) a w :=
  wpList_alloc_at ty _ _ hw (h w) (hk _ (Held.new w ty Z) ((Below.refl _ _).alloc (Nat.le_refl _) _) (by simp))
/-- The same at the single operation. -/
theorem wp_alloc_held {op : Oper} (ty : TypeId) (Z : Array Value) (ho : op.op = .alloc ty) (h : ∀ v : World, (Instr.alloc ty true (.tuple #[])).run P v = .ok (.pointer (some ⟨v.heap.size, 0, none⟩)) (v.alloc (.cells Z ty)))
    (hk : ∀ W, Held W w.heap.size ty Z → Below w.heap.size w W → W.heap.size = w.heap.size + 1 → K (a.put op.dst (.pointer (some ⟨w.heap.size, 0, none⟩))) W) : op.wp P a w K Q := by
  unfold Oper.wp execOp
  simp only [ho, h, Sem.run_bind, Sem.run_pure, Result.andThen_ok]
  exact hk _ (Held.new w ty Z) ((Below.refl _ _).alloc (Nat.le_refl _) _) (by simp)
theorem wp_store_held {op : Oper} (ty : TypeId) (x y : Operand) (ho : op.op = .store ty x y) (b : Nat) (t : TypeId) (old cs : Array Value) (hx : a.eval x = .pointer (some ⟨b, 0, none⟩)) (hy : a.eval y = .agg cs)
    (h : Held w b t old) (hs : cs.size = old.size) (hi : (P.info? ty).map (·.size) = some cs.size) (h1 : cs.all (·.oneCell') = true)
    (hk : ∀ W, Held W b t cs → But b w W → W.heap.size = w.heap.size → K (a.put op.dst undef) W) : op.wp P a w K Q :=
  wp_store_mid ty x y ho b 0 cs hx hy (h.there 0 _ (by omega)) hi h1 (hk _ (h.whole hs) (But.sets _ _ (But.refl _ _)) (size_setCells _ _ _ _))
/-- A yield of what a block holds, in a drawn region. -/
theorem yieldsIf_load_held {S : World → Prop} {op : Oper} (hw : Region.wanted op (yielded ops a.tmps) = true) (ty : TypeId) (x : Operand) (ho : op.op = .load ty x) (b : Nat) (t : TypeId) (cs : Array Value) (d : TypeDesc) (hx : a.eval x = .pointer (some ⟨b, 0, none⟩)) (hS : ∀ w, S w → Held w b t cs)
    (hu : P.underlying ty = some d) (hd : d.isRow = true) (hi : (P.info? ty).map (·.size) = some cs.size) : YieldsIf P ops S op (.agg cs) a :=
  yieldsIf_load_mid hw ty x ho b 0 hx cs.toList d (fun w h => (hS w h).range) hu hd (by simpa using hi)
end
end Go.Proofs.YtnnknnaimabehaaDoor
