/- ledger.Same: two books compared. -/
import Derived.Test.YtjcpgnachkhjaaaDoorLedFold
namespace Go.Proofs.YtjcpgnachkhjaaaDoor
open Go.RowKit Go.Shelf
attribute [local go_sem] Oper.semAt_some
set_option linter.unusedVariables false
set_option linter.unusedSimpArgs false
set_option maxRecDepth 100000

section
variable {P : Program} (w : World)
/-- An array's items compared, each by what its part is. -/
theorem items_of (d : Nat) (e : TypeId) (sz : Nat) (xs ys : Array Value) (fx fy : Nat → Value) (q : Nat → Bool) : ∀ is : List Nat,
    (∀ i ∈ is, (part e xs (i * sz)).run P w = .ok (fx i) w ∧ (part e ys (i * sz)).run P w = .ok (fy i) w ∧ (Op.equalIn d e (fx i) (fy i)).run P w = .ok (q i) w) →
    (Op.eqItems d e sz xs ys is).run P w = .ok (is.all q) w := by
  intro is
  induction is with
  | nil => intro _; simp [Op.eqItems]
  | cons i is ih =>
    intro h
    obtain ⟨h1, h2, h3⟩ := h i (by simp)
    simp only [Op.eqItems, Sem.run_bind, h1, h2, Result.andThen_ok, h3, List.all_cons]
    cases q i
    · simp
    · simpa using ih (fun j hj => h j (List.mem_cons_of_mem _ hj))
theorem arr_of (d : Nat) (t e : TypeId) (n sz : Nat) (i : TypeInfo) (hu : P.underlying t = some (.array n e)) (hi : P.info? e = some i) (hc : P.cellsOf e = sz) (xs ys : Array Value) (fx fy : Nat → Value) (q : Nat → Bool)
    (h : ∀ i, i < n → (part e xs (i * sz)).run P w = .ok (fx i) w ∧ (part e ys (i * sz)).run P w = .ok (fy i) w ∧ (Op.equalIn d e (fx i) (fy i)).run P w = .ok (q i) w) :
    (Op.equalIn (d + 1) t (.agg xs) (.agg ys)).run P w = .ok ((List.range n).all q) w := by
  rw [run_equalIn_array w d _ _ hu hi, hc, items_of w d e sz xs ys fx fy q _ (fun i hi => h i (List.mem_range.1 hi))]
theorem part_row (t : TypeId) (d : TypeDesc) (sz : Nat) (hu : P.underlying t = some d) (hd : d.isRow = true) (hi : (P.info? t).map (·.size) = some sz) (xs : Array Value) (o : Nat) : (part t xs o).run P w = .ok (.agg (xs.extract o (o + sz))) w := by
  have hagg : (isAgg t).run P w = .ok true w := by
    unfold isAgg
    rw [Sem.run_bind, run_underlying hu w]
    cases d <;> simp_all
  have hs : (sizeOf t).run P w = .ok sz w := by
    cases hq : P.info? t with
    | none => simp [hq] at hi
    | some i =>
      have : i.size = sz := by simpa [hq] using hi
      simp [sizeOf, typeInfo, hq, this, Sem.run_bind]
  simp [part, Sem.run_bind, hagg, hs]
end
theorem info_of {P : Program} {t : TypeId} (h : (P.info? t).isSome = true) : ∃ i, P.info? t = some i := Option.isSome_iff_exists.1 h
theorem tot_in (n : Nat) (a b : Tot) (w : World) : (Op.equalIn (n + 2) 32 (.agg a.arr) (.agg b.arr)).run Tryd.prog w = .ok (decide (a = b)) w := by
  rw [run_equalIn_struct w _ _ _ _ (by kernel_rfl) (by kernel_rfl)]
  have ei := fun (d : Nat) (x y : Int) (w : World) => run_equalIn_int (P := Tryd.prog) w d 3 .i64 .i64 x y Tryd.underlying3
  have ej := fun (d : Nat) (x y : Int) (w : World) => run_equalIn_int (P := Tryd.prog) w d 2 .i64 .i64 x y Tryd.underlying2
  have fin : decide (a = b) = (a.energy == b.energy && (a.cost == b.cost && a.many == b.many)) := by
    rw [Bool.eq_iff_iff]
    cases a; cases b
    simp
  rw [fin]
  simp only [Program.fieldsOf, Tryd.underlying32]
  have pI : ∀ (e : Tot) (i : Nat) (v : Value) (w : World), e.arr[i]? = some v → (part 3 e.arr i).run Tryd.prog w = .ok v w := fun e i v w h => by simp [part, isAgg, run_underlying Tryd.underlying3, h]
  have pJ : ∀ (e : Tot) (i : Nat) (v : Value) (w : World), e.arr[i]? = some v → (part 2 e.arr i).run Tryd.prog w = .ok v w := fun e i v w h => by simp [part, isAgg, run_underlying Tryd.underlying2, h]
  have x0 := fun (e : Tot) w => pJ e 0 _ w (show e.arr[0]? = some (.int .i64 e.energy) from rfl)
  have x1 := fun (e : Tot) w => pJ e 1 _ w (show e.arr[1]? = some (.int .i64 e.cost) from rfl)
  have x2 := fun (e : Tot) w => pI e 2 _ w (show e.arr[2]? = some (.int .i64 e.many) from rfl)
  cases h0 : a.energy == b.energy <;> cases h1 : a.cost == b.cost <;> cases h2 : a.many == b.many <;> simp [Op.eqFields, Sem.run_bind, ei, ej, x0, x1, x2, h0, h1, h2]
theorem sum_in (n : Nat) (a b : SumS) (ha : a.last.hash.length = 32) (hb : b.last.hash.length = 32) (w : World) : (Op.equalIn (n + 4) 36 (.agg a.arr) (.agg b.arr)).run Tryd.prog w = .ok (decide (a = b)) w := by
  rw [run_equalIn_struct w _ _ _ _ (by kernel_rfl) (by kernel_rfl)]
  have ei := fun (d : Nat) (x y : Int) (w : World) => run_equalIn_int (P := Tryd.prog) w d 3 .i64 .i64 x y Tryd.underlying3
  have ej := fun (d : Nat) (x y : Int) (w : World) => run_equalIn_int (P := Tryd.prog) w d 2 .i64 .i64 x y Tryd.underlying2
  have fin : decide (a = b) = (a.energy == b.energy && (a.cost == b.cost && (a.intervals == b.intervals && (a.flagged == b.flagged && (a.suspects == b.suspects && (a.replaced == b.replaced && (a.corrected == b.corrected && decide (a.last = b.last)))))))) := by
    rw [Bool.eq_iff_iff]
    cases a; cases b
    simp
  rw [fin]
  simp only [Program.fieldsOf, Tryd.underlying36]
  have pI : ∀ (e : SumS) (i : Nat) (v : Value) (w : World), e.arr[i]? = some v → (part 3 e.arr i).run Tryd.prog w = .ok v w := fun e i v w h => by simp [part, isAgg, run_underlying Tryd.underlying3, h]
  have pJ : ∀ (e : SumS) (i : Nat) (v : Value) (w : World), e.arr[i]? = some v → (part 2 e.arr i).run Tryd.prog w = .ok v w := fun e i v w h => by simp [part, isAgg, run_underlying Tryd.underlying2, h]
  have pE : ∀ (e : SumS) (w : World), e.last.hash.length = 32 → (part 28 e.arr 7).run Tryd.prog w = .ok (.agg e.last.arr) w := fun e w h => by
    rw [part_row w 28 _ 42 Tryd.underlying28 (by kernel_rfl) (by kernel_rfl)]
    have : e.arr.extract 7 (7 + 42) = e.last.arr := by
      have hl := Ent.cells_len e.last h
      simp only [SumS.arr, SumS.cells, Ent.arr, List.extract_toArray, List.extract_eq_take_drop, List.drop_succ_cons, List.drop_zero]
      rw [List.take_of_length_le (by omega)]
    rw [this]
  have x0 := fun (e : SumS) w => pJ e 0 _ w (show e.arr[0]? = some (.int .i64 e.energy) by simp [SumS.arr, SumS.cells])
  have x1 := fun (e : SumS) w => pJ e 1 _ w (show e.arr[1]? = some (.int .i64 e.cost) by simp [SumS.arr, SumS.cells])
  have x2 := fun (e : SumS) w => pI e 2 _ w (show e.arr[2]? = some (.int .i64 e.intervals) by simp [SumS.arr, SumS.cells])
  have x3 := fun (e : SumS) w => pI e 3 _ w (show e.arr[3]? = some (.int .i64 e.flagged) by simp [SumS.arr, SumS.cells])
  have x4 := fun (e : SumS) w => pI e 4 _ w (show e.arr[4]? = some (.int .i64 e.suspects) by simp [SumS.arr, SumS.cells])
  have x5 := fun (e : SumS) w => pI e 5 _ w (show e.arr[5]? = some (.int .i64 e.replaced) by simp [SumS.arr, SumS.cells])
  have x6 := fun (e : SumS) w => pI e 6 _ w (show e.arr[6]? = some (.int .i64 e.corrected) by simp [SumS.arr, SumS.cells])
  have xa := fun w => pE a w ha
  have xb := fun w => pE b w hb
  have en := fun w => ent_in w n a.last b.last ha hb
  clear pI pJ pE fin
  generalize hl : decide (a.last = b.last) = r7 at *
  generalize a.last.arr = LA at *
  generalize b.last.arr = LB at *
  have y0 := fun w => x0 b w
  have y1 := fun w => x1 b w
  have y2 := fun w => x2 b w
  have y3 := fun w => x3 b w
  have y4 := fun w => x4 b w
  have y5 := fun w => x5 b w
  have y6 := fun w => x6 b w
  replace x0 := fun w => x0 a w
  replace x1 := fun w => x1 a w
  replace x2 := fun w => x2 a w
  replace x3 := fun w => x3 a w
  replace x4 := fun w => x4 a w
  replace x5 := fun w => x5 a w
  replace x6 := fun w => x6 a w
  generalize a.arr = AA at *
  generalize b.arr = BB at *
  generalize hr0 : (a.energy == b.energy) = r0 at *
  generalize hr1 : (a.cost == b.cost) = r1 at *
  generalize hr2 : (a.intervals == b.intervals) = r2 at *
  generalize hr3 : (a.flagged == b.flagged) = r3 at *
  generalize hr4 : (a.suspects == b.suspects) = r4 at *
  generalize hr5 : (a.replaced == b.replaced) = r5 at *
  generalize hr6 : (a.corrected == b.corrected) = r6 at *
  cases r0
  · simp [Op.eqFields, Sem.run_bind, ei, ej, x0, y0, hr0]
  cases r1
  · simp [Op.eqFields, Sem.run_bind, ei, ej, x0, y0, hr0, x1, y1, hr1]
  cases r2
  · simp [Op.eqFields, Sem.run_bind, ei, ej, x0, y0, hr0, x1, y1, hr1, x2, y2, hr2]
  cases r3
  · simp [Op.eqFields, Sem.run_bind, ei, ej, x0, y0, hr0, x1, y1, hr1, x2, y2, hr2, x3, y3, hr3]
  cases r4
  · simp [Op.eqFields, Sem.run_bind, ei, ej, x0, y0, hr0, x1, y1, hr1, x2, y2, hr2, x3, y3, hr3, x4, y4, hr4]
  cases r5
  · simp [Op.eqFields, Sem.run_bind, ei, ej, x0, y0, hr0, x1, y1, hr1, x2, y2, hr2, x3, y3, hr3, x4, y4, hr4, x5, y5, hr5]
  cases r6
  · simp [Op.eqFields, Sem.run_bind, ei, ej, x0, y0, hr0, x1, y1, hr1, x2, y2, hr2, x3, y3, hr3, x4, y4, hr4, x5, y5, hr5, x6, y6, hr6]
  cases r7 <;> simp [Op.eqFields, Sem.run_bind, ei, ej, x0, y0, hr0, x1, y1, hr1, x2, y2, hr2, x3, y3, hr3, x4, y4, hr4, x5, y5, hr5, x6, y6, hr6, xa, xb, en]
theorem mid_take (A B C : List Value) (n m : Nat) (ha : A.length = n) (hb : B.length = m) : ((A ++ (B ++ C)).toArray).extract n (n + m) = B.toArray := by
  simp only [List.extract_toArray, List.extract_eq_take_drop]
  rw [List.drop_append_of_le_length (by omega), List.drop_of_length_le (by omega), List.nil_append, Nat.add_sub_cancel_left, List.take_append_of_le_length (by omega), List.take_of_length_le (by omega)]
theorem flat_at {α : Type} (c : α → List Value) (n : Nat) (l : List α) (i : Nat) (d : α) (hi : i < l.length) (hc : ∀ x ∈ l, (c x).length = n) : ((l.flatMap c).toArray).extract (i * n) (i * n + n) = (c (l.getD i d)).toArray := by
  obtain ⟨A, C, ha, hac⟩ := flat_part c n l i hi hc
  have e := hac (l.getD i d)
  rw [set_getD _ _ _ hi] at e
  rw [e]
  exact mid_take A _ C _ _ ha (hc _ (getD_mem _ _ _ hi))
theorem flat_row {α : Type} (c : α → List Value) (n : Nat) : ∀ (l : List α), (∀ x ∈ l, (c x).length = n) → ∀ (k m : Nat), k + m ≤ l.length → ((l.flatMap c).toArray).extract (k * n) (k * n + m * n) = (((l.drop k).take m).flatMap c).toArray := by
  intro l hc k m hkm
  have e : l.flatMap c = (l.take k).flatMap c ++ (((l.drop k).take m).flatMap c ++ ((l.drop k).drop m).flatMap c) := by
    rw [← List.flatMap_append, List.take_append_drop, ← List.flatMap_append, List.take_append_drop]
  rw [e]
  refine mid_take _ _ _ _ _ ?_ ?_
  · rw [flat_len c n _ (fun x hx => hc x (List.mem_of_mem_take hx)), List.length_take, Nat.min_eq_left (by omega)]
  · rw [flat_len c n _ (fun x hx => hc x (List.mem_of_mem_drop (List.mem_of_mem_take hx))), List.length_take, List.length_drop, Nat.min_eq_left (by omega)]
theorem getD_sub {α : Type} (l : List α) (k m j : Nat) (d : α) (h : j < m) : ((l.drop k).take m).getD j d = l.getD (k + j) d := by
  rw [List.getD_eq_getElem?_getD, List.getD_eq_getElem?_getD, List.getElem?_take, if_pos h, List.getElem?_drop]
theorem list_ext_getD {α : Type} [DecidableEq α] (a b : List α) (n : Nat) (d : α) (ha : a.length = n) (hb : b.length = n) : ((List.range n).all fun i => decide (a.getD i d = b.getD i d)) = decide (a = b) := by
  rw [Bool.eq_iff_iff]
  simp only [List.all_eq_true, List.mem_range, decide_eq_true_eq]
  constructor
  · intro h
    apply List.ext_getElem (by omega)
    intro i h1 h2
    have := h i (by omega)
    simpa [List.getD_eq_getElem?_getD, List.getElem?_eq_getElem h1, List.getElem?_eq_getElem h2] using this
  · rintro rfl i _
    rfl
theorem list_ext_rows (a b : List Tot) (ha : a.length = 512) (hb : b.length = 512) : ((List.range 64).all fun i => (List.range 8).all fun j => decide (a.getD (i * 8 + j) Tot.zero = b.getD (i * 8 + j) Tot.zero)) = decide (a = b) := by
  rw [← list_ext_getD a b 512 Tot.zero ha hb, Bool.eq_iff_iff]
  simp only [List.all_eq_true, List.mem_range, decide_eq_true_eq]
  constructor
  · intro h i hi
    have := h (i / 8) (by omega) (i % 8) (by omega)
    rwa [show i / 8 * 8 + i % 8 = i by omega] at this
  · intro h i hi j hj
    exact h _ (by omega)
theorem tots_in (m : Nat) (a b : List Tot) (ha : a.length = 512) (hb : b.length = 512) (w : World) :
    (Op.equalIn (m + 4) 34 (.agg (a.flatMap Tot.cells).toArray) (.agg (b.flatMap Tot.cells).toArray)).run Tryd.prog w = .ok (decide (a = b)) w := by
  obtain ⟨i8, hi8⟩ := info_of (P := Tryd.prog) (t := 33) (by kernel_rfl)
  obtain ⟨i32, hi32⟩ := info_of (P := Tryd.prog) (t := 32) (by kernel_rfl)
  rw [← list_ext_rows a b ha hb]
  refine arr_of w (m + 3) 34 33 64 24 i8 Tryd.underlying34 hi8 (by kernel_rfl) _ _ (fun i => .agg (((a.drop (i * 8)).take 8).flatMap Tot.cells).toArray) (fun i => .agg (((b.drop (i * 8)).take 8).flatMap Tot.cells).toArray) _ (fun i hi => ⟨?_, ?_, ?_⟩)
  · rw [part_row w 33 _ 24 Tryd.underlying33 (by kernel_rfl) (by kernel_rfl)]
    have := flat_row Tot.cells 3 a (fun _ _ => rfl) (i * 8) 8 (by omega)
    rw [show i * 8 * 3 = i * 24 by omega, show 8 * 3 = 24 by rfl] at this
    rw [this]
  · rw [part_row w 33 _ 24 Tryd.underlying33 (by kernel_rfl) (by kernel_rfl)]
    have := flat_row Tot.cells 3 b (fun _ _ => rfl) (i * 8) 8 (by omega)
    rw [show i * 8 * 3 = i * 24 by omega, show 8 * 3 = 24 by rfl] at this
    rw [this]
  · refine arr_of w (m + 2) 33 32 8 3 i32 Tryd.underlying33 hi32 (by kernel_rfl) _ _ (fun j => .agg (a.getD (i * 8 + j) Tot.zero).arr) (fun j => .agg (b.getD (i * 8 + j) Tot.zero).arr) _ (fun j hj => ⟨?_, ?_, ?_⟩)
    · rw [part_row w 32 _ 3 Tryd.underlying32 (by kernel_rfl) (by kernel_rfl)]
      have := flat_at Tot.cells 3 ((a.drop (i * 8)).take 8) j Tot.zero (by rw [List.length_take, List.length_drop]; omega) (fun _ _ => rfl)
      rw [getD_sub _ _ _ _ _ hj] at this
      rw [this]; rfl
    · rw [part_row w 32 _ 3 Tryd.underlying32 (by kernel_rfl) (by kernel_rfl)]
      have := flat_at Tot.cells 3 ((b.drop (i * 8)).take 8) j Tot.zero (by rw [List.length_take, List.length_drop]; omega) (fun _ _ => rfl)
      rw [getD_sub _ _ _ _ _ hj] at this
      rw [this]; rfl
    · exact tot_in m _ _ w
theorem sums_in (m : Nat) (a b : List SumS) (ha : a.length = 64) (hb : b.length = 64) (hha : ∀ s ∈ a, s.last.hash.length = 32) (hhb : ∀ s ∈ b, s.last.hash.length = 32) (w : World) :
    (Op.equalIn (m + 5) 37 (.agg (a.flatMap SumS.cells).toArray) (.agg (b.flatMap SumS.cells).toArray)).run Tryd.prog w = .ok (decide (a = b)) w := by
  obtain ⟨i36, hi36⟩ := info_of (P := Tryd.prog) (t := 36) (by kernel_rfl)
  rw [← list_ext_getD a b 64 SumS.zero ha hb]
  refine arr_of w (m + 4) 37 36 64 49 i36 Tryd.underlying37 hi36 (by kernel_rfl) _ _ (fun j => .agg (a.getD j SumS.zero).arr) (fun j => .agg (b.getD j SumS.zero).arr) _ (fun j hj => ⟨?_, ?_, ?_⟩)
  · rw [part_row w 36 _ 49 Tryd.underlying36 (by kernel_rfl) sum_size]
    rw [flat_at SumS.cells 49 a j SumS.zero (by omega) (fun x hx => SumS.cells_len x (hha x hx))]; rfl
  · rw [part_row w 36 _ 49 Tryd.underlying36 (by kernel_rfl) sum_size]
    rw [flat_at SumS.cells 49 b j SumS.zero (by omega) (fun x hx => SumS.cells_len x (hhb x hx))]; rfl
  · exact sum_in m _ _ (hha _ (getD_mem _ _ _ (by omega))) (hhb _ (getD_mem _ _ _ (by omega))) w
instance : DecidableEq Bk := fun a b => decidable_of_iff (a.tot = b.tot ∧ a.sums = b.sums ∧ a.ofm = b.ofm ∧ a.many = b.many ∧ a.seals = b.seals) (by cases a; cases b; simp)
theorem book_in (m : Nat) (K L : Int) (a b : Bk) (ha : a.ok K) (hb : b.ok L) (w : World) : (Op.equalIn (m + 6) 40 (.agg a.arr) (.agg b.arr)).run Tryd.prog w = .ok (decide (a = b)) w := by
  rw [run_equalIn_struct w _ _ _ _ (by kernel_rfl) (by kernel_rfl)]
  have ei := fun (d : Nat) (x y : Int) (w : World) => run_equalIn_int (P := Tryd.prog) w d 3 .i64 .i64 x y Tryd.underlying3
  have fin : decide (a = b) = (decide (a.tot = b.tot) && (decide (a.sums = b.sums) && (decide (a.ofm = b.ofm) && (a.many == b.many && a.seals == b.seals)))) := by
    rw [Bool.eq_iff_iff]
    cases a; cases b
    simp
  rw [fin]
  simp only [Program.fieldsOf, Tryd.underlying40]
  obtain ⟨iI, hiI⟩ := info_of (P := Tryd.prog) (t := 3) (by kernel_rfl)
  have pT : ∀ (K : Int) (c : Bk) (hc : c.ok K) (w : World), (part 34 c.arr 0).run Tryd.prog w = .ok (.agg (c.tot.flatMap Tot.cells).toArray) w := fun K c hc w => by
    rw [part_row w 34 _ 1536 Tryd.underlying34 (by kernel_rfl) (by kernel_rfl)]
    have := mid_take [] (c.tot.flatMap Tot.cells) (c.sums.flatMap SumS.cells ++ (c.ofm.map (Value.int .i64) ++ [Value.int .i64 c.many, .int .i64 c.seals])) 0 1536 rfl (by rw [flat_len Tot.cells 3 _ (fun _ _ => rfl), hc.tl])
    rw [List.nil_append] at this
    rw [show c.arr = (c.tot.flatMap Tot.cells ++ (c.sums.flatMap SumS.cells ++ (c.ofm.map (Value.int .i64) ++ [Value.int .i64 c.many, .int .i64 c.seals]))).toArray from rfl, this]
  have pS : ∀ (K : Int) (c : Bk) (hc : c.ok K) (w : World), (part 37 c.arr 1536).run Tryd.prog w = .ok (.agg (c.sums.flatMap SumS.cells).toArray) w := fun K c hc w => by
    rw [part_row w 37 _ 3136 Tryd.underlying37 (by kernel_rfl) (by kernel_rfl)]
    have := mid_take (c.tot.flatMap Tot.cells) (c.sums.flatMap SumS.cells) (c.ofm.map (Value.int .i64) ++ [Value.int .i64 c.many, .int .i64 c.seals]) 1536 3136 (by rw [flat_len Tot.cells 3 _ (fun _ _ => rfl), hc.tl]) (by rw [flat_len SumS.cells 49 _ (fun x hx => SumS.cells_len x (hc.s x hx).hash), hc.sl])
    rw [show c.arr = (c.tot.flatMap Tot.cells ++ (c.sums.flatMap SumS.cells ++ (c.ofm.map (Value.int .i64) ++ [Value.int .i64 c.many, .int .i64 c.seals]))).toArray from rfl, this]
  have pO : ∀ (K : Int) (c : Bk) (hc : c.ok K) (w : World), (part 38 c.arr 4672).run Tryd.prog w = .ok (.agg (c.ofm.map (Value.int .i64)).toArray) w := fun K c hc w => by
    rw [part_row w 38 _ 64 Tryd.underlying38 (by kernel_rfl) (by kernel_rfl)]
    have := mid_take (c.tot.flatMap Tot.cells ++ c.sums.flatMap SumS.cells) (c.ofm.map (Value.int .i64)) [Value.int .i64 c.many, .int .i64 c.seals] 4672 64 (Bk.head_len c hc) (by rw [List.length_map, hc.ol])
    rw [List.append_assoc] at this
    rw [show c.arr = (c.tot.flatMap Tot.cells ++ (c.sums.flatMap SumS.cells ++ (c.ofm.map (Value.int .i64) ++ [Value.int .i64 c.many, .int .i64 c.seals]))).toArray from rfl, this]
  have pM : ∀ (K : Int) (c : Bk) (hc : c.ok K) (w : World), (part 3 c.arr 4736).run Tryd.prog w = .ok (.int .i64 c.many) w := fun K c hc w => by simp [part, isAgg, run_underlying Tryd.underlying3, c.many_cell hc]
  have pL : ∀ (K : Int) (c : Bk) (hc : c.ok K) (w : World), (part 3 c.arr 4737).run Tryd.prog w = .ok (.int .i64 c.seals) w := fun K c hc w => by simp [part, isAgg, run_underlying Tryd.underlying3, c.seals_cell hc]
  have a1 := fun w => pT K a ha w
  have a2 := fun w => pS K a ha w
  have a3 := fun w => pO K a ha w
  have a4 := fun w => pM K a ha w
  have a5 := fun w => pL K a ha w
  have b1 := fun w => pT L b hb w
  have b2 := fun w => pS L b hb w
  have b3 := fun w => pO L b hb w
  have b4 := fun w => pM L b hb w
  have b5 := fun w => pL L b hb w
  have e1 := fun w => tots_in (m + 1) a.tot b.tot ha.tl hb.tl w
  have e2 := fun w => sums_in m a.sums b.sums ha.sl hb.sl (fun s hs => (ha.s s hs).hash) (fun s hs => (hb.s s hs).hash) w
  have e3 := fun w => arr_ints (P := Tryd.prog) w (m + 3) 38 3 64 iI .i64 .i64 Tryd.underlying38 hiI (by kernel_rfl) Tryd.underlying3 a.ofm b.ofm ha.ol hb.ol
  clear pT pS pO pM pL fin
  generalize (a.tot.flatMap Tot.cells).toArray = TA at *
  generalize (b.tot.flatMap Tot.cells).toArray = TB at *
  generalize (a.sums.flatMap SumS.cells).toArray = SA at *
  generalize (b.sums.flatMap SumS.cells).toArray = SB at *
  generalize (a.ofm.map (Value.int .i64)).toArray = OA at *
  generalize (b.ofm.map (Value.int .i64)).toArray = OB at *
  generalize a.arr = AA at *
  generalize b.arr = BB at *
  generalize decide (a.tot = b.tot) = r0 at *
  generalize decide (a.sums = b.sums) = r1 at *
  generalize decide (a.ofm = b.ofm) = r2 at *
  generalize hr3 : (a.many == b.many) = r3 at *
  generalize hr4 : (a.seals == b.seals) = r4 at *
  cases r0
  · simp [Op.eqFields, Sem.run_bind, a1, b1, e1]
  cases r1
  · simp [Op.eqFields, Sem.run_bind, a1, b1, e1, a2, b2, e2]
  cases r2
  · simp [Op.eqFields, Sem.run_bind, a1, b1, e1, a2, b2, e2, a3, b3, e3]
  cases r3
  · simp [Op.eqFields, Sem.run_bind, a1, b1, e1, a2, b2, e2, a3, b3, e3, ei, a4, b4, hr3]
  cases r4 <;> simp [Op.eqFields, Sem.run_bind, a1, b1, e1, a2, b2, e2, a3, b3, e3, ei, a4, b4, hr3, a5, b5, hr4]
end Go.Proofs.YtjcpgnachkhjaaaDoor
