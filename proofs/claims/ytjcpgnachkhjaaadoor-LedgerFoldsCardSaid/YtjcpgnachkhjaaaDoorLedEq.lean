/- Two entries: '=='. -/
import Derived.Test.YtjcpgnachkhjaaaDoorLedGet
import Derived.Laws.StructEq
import Derived.ChangeKeysEq
namespace Go.Proofs.YtjcpgnachkhjaaaDoor
open Go.RowKit
attribute [local go_sem] Oper.semAt_some
set_option linter.unusedVariables false
set_option linter.unusedSimpArgs false
set_option maxRecDepth 100000

section
variable {P : Program} (w : World)
theorem items_ints (d : Nat) (e : TypeId) (k k' : IntKind) (he : P.underlying e = some (.int k')) (xs ys : List Int) : ∀ is : List Nat, (∀ i ∈ is, i < xs.length ∧ i < ys.length) →
    (Op.eqItems (d + 1) e 1 (xs.map (Value.int k)).toArray (ys.map (Value.int k)).toArray is).run P w = .ok (is.all fun i => xs.getD i 0 == ys.getD i 0) w := by
  intro is
  induction is with
  | nil => intro _; simp [Op.eqItems]
  | cons i is ih =>
    intro h
    have h1 := (h i (by simp)).1
    have h2 := (h i (by simp)).2
    have px : (part e (xs.map (Value.int k)).toArray (i * 1)).run P w = .ok (.int k (xs.getD i 0)) w := by
      simp [part, isAgg, run_underlying he, List.getD, List.getElem?_eq_getElem h1]
    have py : (part e (ys.map (Value.int k)).toArray (i * 1)).run P w = .ok (.int k (ys.getD i 0)) w := by
      simp [part, isAgg, run_underlying he, List.getD, List.getElem?_eq_getElem h2]
    simp only [Op.eqItems, Sem.run_bind, px, py, Result.andThen_ok, run_equalIn_int w d e k k' _ _ he, List.all_cons]
    cases xs.getD i 0 == ys.getD i 0
    · simp
    · simpa using ih (fun j hj => h j (List.mem_cons_of_mem _ hj))
theorem all_getD (xs ys : List Int) (n : Nat) (hx : xs.length = n) (hy : ys.length = n) : ((List.range n).all fun i => xs.getD i 0 == ys.getD i 0) = decide (xs = ys) := by
  rw [Bool.eq_iff_iff]
  simp only [List.all_eq_true, List.mem_range, beq_iff_eq, decide_eq_true_eq]
  constructor
  · intro h
    apply List.ext_getElem (by omega)
    intro i h1 h2
    have := h i (by omega)
    simpa [List.getD, List.getElem?_eq_getElem h1, List.getElem?_eq_getElem h2] using this
  · rintro rfl i _
    rfl
theorem arr_ints (d : Nat) (t e : TypeId) (n : Nat) (i : TypeInfo) (k k' : IntKind) (hu : P.underlying t = some (.array n e)) (hi : P.info? e = some i) (hc : P.cellsOf e = 1) (he : P.underlying e = some (.int k')) (xs ys : List Int) (hx : xs.length = n) (hy : ys.length = n) :
    (Op.equalIn (d + 2) t (.agg (xs.map (Value.int k)).toArray) (.agg (ys.map (Value.int k)).toArray)).run P w = .ok (decide (xs = ys)) w := by
  rw [run_equalIn_array w (d + 1) _ _ hu hi, hc, items_ints w d e k k' he xs ys _ (fun j hj => by rw [List.mem_range] at hj; omega), all_getD xs ys n hx hy]
end
theorem cellsU8 : Tryd.prog.cellsOf 5 = 1 := by kernel_rfl
theorem infoU8 : ∃ i, Tryd.prog.info? 5 = some i := by
  cases h : Tryd.prog.info? 5 with
  | some i => exact ⟨i, rfl⟩
  | none => exact absurd (show (Tryd.prog.info? 5).isSome = true by kernel_rfl) (by rw [h]; simp)
theorem hash_in (d : Nat) (xs ys : List Int) (hx : xs.length = 32) (hy : ys.length = 32) (w : World) :
    (Op.equalIn (d + 2) 26 (.agg (xs.map (Value.int .u8)).toArray) (.agg (ys.map (Value.int .u8)).toArray)).run Tryd.prog w = .ok (decide (xs = ys)) w := by
  obtain ⟨i, hi⟩ := infoU8
  exact arr_ints w d _ 5 32 i .u8 .u8 Tryd.underlying26 hi cellsU8 Tryd.underlying5 xs ys hx hy
theorem hash_eq (xs ys : List Int) (hx : xs.length = 32) (hy : ys.length = 32) (w : World) :
    (binOp .eql 26 (.agg (xs.map (Value.int .u8)).toArray) (.agg (ys.map (Value.int .u8)).toArray)).run Tryd.prog w = .ok (.bool (decide (xs = ys))) w := by
  rw [run_eql_struct, hash_in 9998 xs ys hx hy]; rfl
theorem hash_guard (w : World) (x y : Operand) (xs ys : Array Value) : (eqGuard .eql 26 x y (.agg xs) (.agg ys)).run Tryd.prog w = .ok () w := run_eqGuard_agg w .eql 26 x y xs ys (by kernel_rfl)
theorem ent_guard (w : World) (op : BinOp) (x y : Operand) (xs ys : Array Value) : (eqGuard op 28 x y (.agg xs) (.agg ys)).run Tryd.prog w = .ok () w := run_eqGuard_agg w op 28 x y xs ys (by kernel_rfl)
theorem part_hash (w : World) (e : Ent) (he : e.hash.length = 32) : (part 26 e.arr 10).run Tryd.prog w = .ok (.agg (e.hash.map (Value.int .u8)).toArray) w := by
  have hs : (sizeOf 26).run Tryd.prog w = .ok 32 w := Tryd.sizeOf26 w
  have hx : e.arr.extract 10 (10 + 32) = (e.hash.map (Value.int .u8)).toArray := by
    simp [Ent.arr, Ent.cells]
    exact List.take_of_length_le (by simp [he])
  simp [part, isAgg, run_underlying Tryd.underlying26, hs, hx]
theorem ent_in (w : World) (n : Nat) (a b : Ent) (ha : a.hash.length = 32) (hb : b.hash.length = 32) : (Op.equalIn (n + 3) 28 (.agg a.arr) (.agg b.arr)).run Tryd.prog w = .ok (decide (a = b)) w := by
  rw [run_equalIn_struct w _ _ _ _ (by kernel_rfl) (by kernel_rfl)]
  have ei := fun (d : Nat) (x y : Int) (w : World) => run_equalIn_int (P := Tryd.prog) w d 3 .i64 .i64 x y Tryd.underlying3
  have ej := fun (d : Nat) (x y : Int) (w : World) => run_equalIn_int (P := Tryd.prog) w d 2 .i64 .i64 x y Tryd.underlying2
  have eu := fun (d : Nat) (x y : Int) (w : World) => run_equalIn_int (P := Tryd.prog) w d 23 .u32 .u32 x y Tryd.underlying23
  have ev := fun (d : Nat) (x y : Int) (w : World) => run_equalIn_int (P := Tryd.prog) w d 24 .u64 .u64 x y Tryd.underlying24
  have pa := fun (w : World) => part_hash w a ha
  have pb := fun (w : World) => part_hash w b hb
  have hh := fun (w : World) => hash_in n a.hash b.hash ha hb w
  have g0 : ∀ e : Ent, e.arr[0]? = some (.int .i64 e.kind) := fun e => by simp [Ent.arr, Ent.cells]
  have g1 : ∀ e : Ent, e.arr[1]? = some (.int .i64 e.meter) := fun e => by simp [Ent.arr, Ent.cells]
  have g2 : ∀ e : Ent, e.arr[2]? = some (.int .i64 e.start) := fun e => by simp [Ent.arr, Ent.cells]
  have g3 : ∀ e : Ent, e.arr[3]? = some (.int .i64 e.energy) := fun e => by simp [Ent.arr, Ent.cells]
  have g4 : ∀ e : Ent, e.arr[4]? = some (.int .i64 e.band) := fun e => by simp [Ent.arr, Ent.cells]
  have g5 : ∀ e : Ent, e.arr[5]? = some (.int .i64 e.price) := fun e => by simp [Ent.arr, Ent.cells]
  have g6 : ∀ e : Ent, e.arr[6]? = some (.int .i64 e.cost) := fun e => by simp [Ent.arr, Ent.cells]
  have g7 : ∀ e : Ent, e.arr[7]? = some (.int .i64 e.flags) := fun e => by simp [Ent.arr, Ent.cells]
  have g8 : ∀ e : Ent, e.arr[8]? = some (.int .u32 e.count) := fun e => by simp [Ent.arr, Ent.cells]
  have g9 : ∀ e : Ent, e.arr[9]? = some (.int .u64 e.seq) := fun e => by simp [Ent.arr, Ent.cells]
  have fin : decide (a = b) = (a.kind == b.kind && (a.meter == b.meter && (a.start == b.start && (a.energy == b.energy && (a.band == b.band && (a.price == b.price && (a.cost == b.cost && (a.flags == b.flags && (a.count == b.count && (a.seq == b.seq && decide (a.hash = b.hash))))))))))) := by
    rw [Bool.eq_iff_iff]
    cases a; cases b
    simp
  rw [fin]
  have pI : ∀ (e : Ent) (i : Nat) (v : Value) (w : World), e.arr[i]? = some v → (part 3 e.arr i).run Tryd.prog w = .ok v w := fun e i v w h => by simp [part, isAgg, run_underlying Tryd.underlying3, h]
  have pJ : ∀ (e : Ent) (i : Nat) (v : Value) (w : World), e.arr[i]? = some v → (part 2 e.arr i).run Tryd.prog w = .ok v w := fun e i v w h => by simp [part, isAgg, run_underlying Tryd.underlying2, h]
  have pU : ∀ (e : Ent) (i : Nat) (v : Value) (w : World), e.arr[i]? = some v → (part 23 e.arr i).run Tryd.prog w = .ok v w := fun e i v w h => by simp [part, isAgg, run_underlying Tryd.underlying23, h]
  have pV : ∀ (e : Ent) (i : Nat) (v : Value) (w : World), e.arr[i]? = some v → (part 24 e.arr i).run Tryd.prog w = .ok v w := fun e i v w h => by simp [part, isAgg, run_underlying Tryd.underlying24, h]
  have x0 := fun w => pI a 0 _ w (g0 a)
  have y0 := fun w => pI b 0 _ w (g0 b)
  have x1 := fun w => pI a 1 _ w (g1 a)
  have y1 := fun w => pI b 1 _ w (g1 b)
  have x2 := fun w => pJ a 2 _ w (g2 a)
  have y2 := fun w => pJ b 2 _ w (g2 b)
  have x3 := fun w => pJ a 3 _ w (g3 a)
  have y3 := fun w => pJ b 3 _ w (g3 b)
  have x4 := fun w => pI a 4 _ w (g4 a)
  have y4 := fun w => pI b 4 _ w (g4 b)
  have x5 := fun w => pJ a 5 _ w (g5 a)
  have y5 := fun w => pJ b 5 _ w (g5 b)
  have x6 := fun w => pJ a 6 _ w (g6 a)
  have y6 := fun w => pJ b 6 _ w (g6 b)
  have x7 := fun w => pI a 7 _ w (g7 a)
  have y7 := fun w => pI b 7 _ w (g7 b)
  have x8 := fun w => pU a 8 _ w (g8 a)
  have y8 := fun w => pU b 8 _ w (g8 b)
  have x9 := fun w => pV a 9 _ w (g9 a)
  have y9 := fun w => pV b 9 _ w (g9 b)
  clear fin pI pJ pU pV
  clear g0 g1 g2 g3 g4 g5 g6 g7 g8 g9
  simp only [Program.fieldsOf, Tryd.underlying28]
  generalize a.arr = A at *
  generalize b.arr = B at *
  generalize hr0 : (a.kind == b.kind) = r0 at *
  generalize hr1 : (a.meter == b.meter) = r1 at *
  generalize hr2 : (a.start == b.start) = r2 at *
  generalize hr3 : (a.energy == b.energy) = r3 at *
  generalize hr4 : (a.band == b.band) = r4 at *
  generalize hr5 : (a.price == b.price) = r5 at *
  generalize hr6 : (a.cost == b.cost) = r6 at *
  generalize hr7 : (a.flags == b.flags) = r7 at *
  generalize hr8 : (a.count == b.count) = r8 at *
  generalize hr9 : (a.seq == b.seq) = r9 at *
  cases r0
  · simp [Op.eqFields, Sem.run_bind, pa, pb, hh, ei, ej, eu, ev, x0, y0, hr0, x1, y1, hr1, x2, y2, hr2, x3, y3, hr3, x4, y4, hr4, x5, y5, hr5, x6, y6, hr6, x7, y7, hr7, x8, y8, hr8, x9, y9, hr9]
  cases r1
  · simp [Op.eqFields, Sem.run_bind, pa, pb, hh, ei, ej, eu, ev, x0, y0, hr0, x1, y1, hr1, x2, y2, hr2, x3, y3, hr3, x4, y4, hr4, x5, y5, hr5, x6, y6, hr6, x7, y7, hr7, x8, y8, hr8, x9, y9, hr9]
  cases r2
  · simp [Op.eqFields, Sem.run_bind, pa, pb, hh, ei, ej, eu, ev, x0, y0, hr0, x1, y1, hr1, x2, y2, hr2, x3, y3, hr3, x4, y4, hr4, x5, y5, hr5, x6, y6, hr6, x7, y7, hr7, x8, y8, hr8, x9, y9, hr9]
  cases r3
  · simp [Op.eqFields, Sem.run_bind, pa, pb, hh, ei, ej, eu, ev, x0, y0, hr0, x1, y1, hr1, x2, y2, hr2, x3, y3, hr3, x4, y4, hr4, x5, y5, hr5, x6, y6, hr6, x7, y7, hr7, x8, y8, hr8, x9, y9, hr9]
  cases r4
  · simp [Op.eqFields, Sem.run_bind, pa, pb, hh, ei, ej, eu, ev, x0, y0, hr0, x1, y1, hr1, x2, y2, hr2, x3, y3, hr3, x4, y4, hr4, x5, y5, hr5, x6, y6, hr6, x7, y7, hr7, x8, y8, hr8, x9, y9, hr9]
  cases r5
  · simp [Op.eqFields, Sem.run_bind, pa, pb, hh, ei, ej, eu, ev, x0, y0, hr0, x1, y1, hr1, x2, y2, hr2, x3, y3, hr3, x4, y4, hr4, x5, y5, hr5, x6, y6, hr6, x7, y7, hr7, x8, y8, hr8, x9, y9, hr9]
  cases r6
  · simp [Op.eqFields, Sem.run_bind, pa, pb, hh, ei, ej, eu, ev, x0, y0, hr0, x1, y1, hr1, x2, y2, hr2, x3, y3, hr3, x4, y4, hr4, x5, y5, hr5, x6, y6, hr6, x7, y7, hr7, x8, y8, hr8, x9, y9, hr9]
  cases r7
  · simp [Op.eqFields, Sem.run_bind, pa, pb, hh, ei, ej, eu, ev, x0, y0, hr0, x1, y1, hr1, x2, y2, hr2, x3, y3, hr3, x4, y4, hr4, x5, y5, hr5, x6, y6, hr6, x7, y7, hr7, x8, y8, hr8, x9, y9, hr9]
  cases r8
  · simp [Op.eqFields, Sem.run_bind, pa, pb, hh, ei, ej, eu, ev, x0, y0, hr0, x1, y1, hr1, x2, y2, hr2, x3, y3, hr3, x4, y4, hr4, x5, y5, hr5, x6, y6, hr6, x7, y7, hr7, x8, y8, hr8, x9, y9, hr9]
  cases r9
  · simp [Op.eqFields, Sem.run_bind, pa, pb, hh, ei, ej, eu, ev, x0, y0, hr0, x1, y1, hr1, x2, y2, hr2, x3, y3, hr3, x4, y4, hr4, x5, y5, hr5, x6, y6, hr6, x7, y7, hr7, x8, y8, hr8, x9, y9, hr9]
  cases hd : decide (a.hash = b.hash) <;> simp [Op.eqFields, Sem.run_bind, pa, pb, hh, ei, ej, eu, ev, x0, y0, hr0, x1, y1, hr1, x2, y2, hr2, x3, y3, hr3, x4, y4, hr4, x5, y5, hr5, x6, y6, hr6, x7, y7, hr7, x8, y8, hr8, x9, y9, hr9, hd]
end Go.Proofs.YtjcpgnachkhjaaaDoor
