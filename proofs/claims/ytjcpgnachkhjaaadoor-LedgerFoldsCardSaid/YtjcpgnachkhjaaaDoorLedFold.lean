/- ledger.Copy, Fold; slices of entries. -/
import Derived.Test.YtjcpgnachkhjaaaDoorLedTot
import Derived.LoopTactic
namespace Go.Proofs.YtjcpgnachkhjaaaDoor
open Go.RowKit Go.Shelf
attribute [local go_sem] Oper.semAt_some
set_option linter.unusedVariables false
set_option linter.unusedSimpArgs false
set_option maxRecDepth 100000

theorem book_zero (w : World) : (zeroValue 40).run Tryd.prog w = .ok (.agg Bk.zero.arr) w := (zero_of_info book_info).1 w
theorem book_size : (Tryd.prog.info? 40).map (·.size) = some 4738 := (zero_of_info book_info).2
theorem alloc_book (w : World) : (Instr.alloc 40 true (.tuple #[])).run Tryd.prog w = .ok (.pointer (some ⟨w.heap.size, 0, none⟩)) (w.alloc (.cells Bk.zero.arr 40)) := by
  have hz := book_zero
  generalize Bk.zero.arr = Z at hz ⊢
  simp [Instr.alloc, Sem.run_bind, hz, go_sem]
theorem book_ne : Bk.zero.arr ≠ #[] := by
  intro h
  have := congrArg Array.size h
  rw [Bk.arr_size _ Bk.zero_ok] at this
  simp at this
theorem build_book (w : World) : (Instr.build 40 #[]).run Tryd.prog w = .ok (.agg Bk.zero.arr) w := by
  have hz := book_zero
  have hne := book_ne
  generalize Bk.zero.arr = Z at hz hne ⊢
  simp [Instr.build, Sem.run_bind, hz, hne, go_sem]
theorem book_one (b : Bk) : b.arr.all (·.oneCell') = true := by
  rw [Array.all_eq_true_iff_forall_mem]
  intro v hv
  simp only [Bk.arr, Bk.cells, List.mem_toArray, List.mem_append, List.mem_flatMap, List.mem_map, List.mem_cons, List.not_mem_nil, or_false] at hv
  rcases hv with ⟨t, _, h⟩ | ⟨s, _, h⟩ | ⟨n, _, rfl⟩ | rfl | rfl
  · simp [Tot.cells] at h; rcases h with rfl | rfl | rfl <;> rfl
  · have := (Array.all_eq_true_iff_forall_mem.1 (sum_one s)) v (by simpa [SumS.arr] using h)
    exact this
  · rfl
  · rfl
  · rfl
theorem copy_any (K : Int) (b : Bk) (hb : b.ok K) (gb : Nat) (w : World) (hB : Held w gb 40 b.arr) :
    Calls Tryd.prog 14 #[.pointer (some ⟨gb, 0, none⟩)] w fun e w' => (∃ g, e = .returned (.pointer (some ⟨g, 0, none⟩)) ∧ w.heap.size ≤ g ∧ Held w' g 40 b.arr) ∧ Below w.heap.size w w' := by
  have IB : Hid ((Tryd.prog.info? 40).map (·.size) = some b.arr.size) := Lib.hid (by rw [book_size, Bk.arr_size b hb])
  have IZ : Hid (b.arr.size = Bk.zero.arr.size) := Lib.hid (by rw [Bk.arr_size b hb, Bk.arr_size _ Bk.zero_ok])
  go_in
  go_wp2_with (first
    | ((with_reducible refine wpList_load_held (dst := some 8) 40 (.tmp 7) gb 40 b.arr _ (by kernel_rfl) (by kernel_rfl) hB Tryd.underlying40 (by kernel_rfl) IB.out ?_); simp only [Act.put, List.setIfInBounds_toArray, List.set_cons_succ, List.set_cons_zero])
    | ((with_reducible refine wpList_alloc_held (dst := some 3) 40 Bk.zero.arr (by kernel_rfl) alloc_book ?_); intro V1 h6 b6 z6; (have l6 : w.heap.size < V1.heap.size := (by omega)); clear z6; simp only [Act.put, List.setIfInBounds_toArray, List.set_cons_succ, List.set_cons_zero])
    | ((with_reducible refine wpList_store_held 40 (.tmp 3) (.tmp 8) w.heap.size 40 _ b.arr (by kernel_rfl) (by kernel_rfl) (by kernel_rfl) h6 IZ.out IB.out (book_one _) ?_); intro V2 g6 b2 z2; clear z2; simp only [Act.put, List.setIfInBounds_toArray, List.set_cons_succ, List.set_cons_zero]))
  go_ret
  exact ⟨⟨_, rfl, Nat.le_refl _, g6⟩, b6.trans (b2.below (Nat.le_refl _) (by omega))⟩

/-- A slice of entries. -/
def EnI (W : World) (A : Option Addr) (n : Nat) (es : List Ent) : Prop := n = es.length ∧ (∀ e ∈ es, e.ok) ∧ ∀ i e, es[i]? = some e → ∃ g o, A = some ⟨g, o, none⟩ ∧ W.rangeAt g (o + i * 42) e.cells
theorem rangeAt_up {W W' : World} {g o : Nat} {cs : List Value} (h : W.rangeAt g o cs) (hb : Below W.heap.size W W') : W'.rangeAt g o cs := fun j v hv => by
  have := h j v hv
  rw [hb.cell (p := ⟨g, o + j, none⟩) (World.block_lt_of_cell? W _ this)]
  exact this
theorem EnI.up {W W' : World} {A : Option Addr} {n : Nat} {es : List Ent} (h : EnI W A n es) (hb : Below W.heap.size W W') : EnI W' A n es :=
  ⟨h.1, h.2.1, fun i e hi => by obtain ⟨g, o, h1, h2⟩ := h.2.2 i e hi; exact ⟨g, o, h1, rangeAt_up h2 hb⟩⟩
/-- A book behind entries, those that may not be left out. -/
def runB (es : List Ent) : Bk := es.foldl (fun b x => (addP b x).1) Bk.zero
theorem runB_snoc (es : List Ent) (x : Ent) : runB (es ++ [x]) = (addP (runB es) x).1 := by unfold runB; rw [List.foldl_append]; rfl
theorem runB_take (es : List Ent) (i : Nat) (x : Ent) (h : es[i]? = some x) : runB (es.take (i + 1)) = (addP (runB (es.take i)) x).1 := by
  rw [List.take_add_one, h]; exact runB_snoc _ _
theorem runB_ok (es : List Ent) (h : ∀ e ∈ es, e.ok) : (runB es).ok es.length := by
  have key : ∀ (l : List Ent) (b : Bk) (K : Int), 0 ≤ K → b.ok K → (∀ e ∈ l, e.ok) → (l.foldl (fun b x => (addP b x).1) b).ok (K + l.length) := by
    intro l
    induction l with
    | nil => intro b K _ hb _; simpa using hb
    | cons x l ih =>
      intro b K hK hb hl
      have := ih (addP b x).1 (K + 1) (by omega) (addP_ok hK hb x (hl x (by simp))) (fun e he => hl e (by simp [he]))
      rw [show K + 1 + (l.length : Int) = K + ((l.length + 1 : Nat) : Int) by omega] at this
      exact this
  have := key es Bk.zero 0 (by omega) Bk.zero_ok h
  simpa [runB] using this
theorem runB_ok_take (es : List Ent) (h : ∀ e ∈ es, e.ok) (i : Nat) (hi : i ≤ es.length) : (runB (es.take i)).ok i := by
  have := runB_ok (es.take i) (fun e he => h e (List.mem_of_mem_take he))
  rwa [List.length_take, Nat.min_eq_left hi] at this
/-- The first entries all may be added. -/
def allOk (es : List Ent) (n : Nat) : Prop := ∀ j x, j < n → es[j]? = some x → (addP (runB (es.take j)) x).2 = 0
/-- What Fold tells. -/
def FoldPost (es : List Ent) (w : World) (e : Ending) (w' : World) : Prop :=
  ((allOk es es.length ∧ ∃ g, e = .returned (.tuple #[.pointer (some ⟨g, 0, none⟩), .int .i64 es.length, .int .i64 0]) ∧ w.heap.size ≤ g ∧ Held w' g 40 (runB es).arr) ∨
    (∃ j x, es[j]? = some x ∧ allOk es j ∧ (addP (runB (es.take j)) x).2 ≠ 0 ∧ e = .returned (.tuple #[.pointer none, .int .i64 j, .int .i64 (addP (runB (es.take j)) x).2]))) ∧ Below w.heap.size w w'
/-- What stands at a round's head. -/
def FoldR (es : List Ent) (w : World) (v : Value) (wr : World) : Prop := ∃ i : Nat, i ≤ es.length ∧ v = .int .i64 i ∧ allOk es i ∧ Held wr w.heap.size 40 (runB (es.take i)).arr ∧ Below w.heap.size w wr
set_option maxHeartbeats 4000000 in
theorem fold_any (es : List Ent) (A : Option Addr) (n c : Nat) (w : World) (hl : EnI w A n es) (hn : n ≤ 4611686018427387000) (hT : WordsT w) :
    Calls Tryd.prog 20 #[.slice A n c] w (FoldPost es w) := by
  obtain ⟨hnl, hok, hat⟩ := hl
  subst hnl
  have HAT := Lib.hid hat
  have HOK := Lib.hid hok
  have HT := Lib.hid hT
  clear hat hok hT
  go_in
  go_wp2_with ((with_reducible refine wpList_build_at (dst := some 9) 40 #[] #[] _ (by kernel_rfl) (by kernel_rfl) (build_book _) ?_); simp only [Act.put, List.setIfInBounds_toArray, List.set_cons_succ, List.set_cons_zero])
  have h0 : Hid (Held (w.alloc (.cells Bk.zero.arr 40)) w.heap.size 40 Bk.zero.arr ∧ Below w.heap.size w (w.alloc (.cells Bk.zero.arr 40))) := Lib.hid ⟨Held.new w _ _, (Below.refl _ _).alloc (Nat.le_refl _) _⟩
  go_loopw [13] (FoldR es w) (fun v _ => es.length - (intOf v).toNat)
  case atStart => exact ⟨0, Nat.zero_le _, rfl, fun j x hj => by omega, by rw [List.take_zero]; exact h0.out.1, h0.out.2⟩
  case round =>
    obtain ⟨i, hi, rfl, hall, hB, hbl⟩ := hrel
    have HAL := Lib.hid hall
    clear hall
    by_cases hlt : i < es.length
    · obtain ⟨e, he⟩ : ∃ e, es[i]? = some e := ⟨_, List.getElem?_eq_getElem hlt⟩
      obtain ⟨g, o, rfl, hrg⟩ := HAT.out i e he
      have hre := rangeAt_up hrg hbl
      have heo := HOK.out e (List.mem_of_getElem? he)
      have hel := heo.2.2.2.2.2.2.2.2.2.2.1
      have hbk := runB_ok_take es HOK.out i hi
      have HE := Lib.hid he
      have IE : Hid ((Tryd.prog.info? 28).map (·.size) = some e.cells.length) := Lib.hid (by rw [ent_size e hel]; simp [Ent.arr])
      have IE2 : Hid ((Tryd.prog.info? 28).map (·.size) = some e.arr.size) := Lib.hid (ent_size e hel)
      have IZ : Hid (e.arr.size = (Ent.none 0).arr.size) := Lib.hid (by rw [Ent.arr_size e hel, Ent.arr_size _ rfl])
      have HADD : Hid (∀ V, Held V w.heap.size 40 (runB (es.take i)).arr → Below w.heap.size w V → Calls Tryd.prog 9 #[.pointer (some ⟨w.heap.size, 0, none⟩), .agg e.arr] V fun e' V' => e' = .returned (.int .i64 (addP (runB (es.take i)) e).2) ∧ Held V' w.heap.size 40 (addP (runB (es.take i)) e).1.arr ∧ But w.heap.size V V') :=
        Lib.hid (fun V h1 h2 => badd_any i (by omega) (by omega) _ hbk e heo _ V h1 (HT.out.up h2))
      obtain ⟨R, hR⟩ : ∃ R, (addP (runB (es.take i)) e).2 = R := ⟨_, rfl⟩
      rw [hR] at HADD
      have HR := Lib.hid hR
      have hltI : (i : Int) < (es.length : Int) := by omega
      have hbz := hbl.size
      have hBl := hB.lt
      clear hrg heo hel he hbk hR
      by_cases hR0 : R = 0
      · have HR0 := Lib.hid hR0
        subst hR0
        go_wp2_with (first
          | ((with_reducible refine wpList_load_at (dst := some 17) 28 (.tmp 16) g (o + i * 42) e.cells _ (by kernel_rfl) (by kernel_rfl) hre Tryd.underlying28 (by kernel_rfl) IE.out ?_); simp only [Act.put, List.setIfInBounds_toArray, List.set_cons_succ, List.set_cons_zero])
          | ((with_reducible refine wpList_alloc_held (dst := some 7) 28 (Ent.none 0).arr (by kernel_rfl) alloc_new ?_); intro V1 h7 b7 z7; (have l7 : wr.heap.size < V1.heap.size := (by omega)); clear z7; simp only [Act.put, List.setIfInBounds_toArray, List.set_cons_succ, List.set_cons_zero])
          | ((with_reducible refine wpList_store_held 28 (.tmp 7) (.tmp 17) wr.heap.size 28 _ e.arr (by kernel_rfl) (by kernel_rfl) (by kernel_rfl) h7 IZ.out IE2.out (ent_one _) ?_); intro V2 g7 b2 z2; clear z2; (have hB2 := b2.held (by omega) (hB.below b7 hBl)); (have hb2 := (hbl.trans (b7.mono hbz)).trans (b2.below (by omega) (by omega))); simp only [Act.put, List.setIfInBounds_toArray, List.set_cons_succ, List.set_cons_zero])
          | ((with_reducible refine wpList_load_held (dst := some 19) 28 (.tmp 7) wr.heap.size 28 e.arr _ (by kernel_rfl) (by kernel_rfl) g7 Tryd.underlying28 (by kernel_rfl) IE2.out ?_); simp only [Act.put, List.setIfInBounds_toArray, List.set_cons_succ, List.set_cons_zero])
          | (go_at_call 9; refine (HADD.out _ hB2 hb2).mono ?_; rintro e' V3 ⟨rfl, hB3, hb3⟩; (have hbF := hb2.trans (hb3.below (Nat.le_refl _) hb2.size)))
          )
        go_roundw
        case rel => exact ⟨i + 1, by omega, by go_num, fun j x hj hx => by
          by_cases hji : j < i
          · exact HAL.out j x hji hx
          · obtain rfl : j = i := by omega
            rw [HE.out] at hx
            injection hx with hx
            rw [← hx]; exact HR.out, by rw [runB_take es i e HE.out]; exact hB3, hbF⟩
        case measure => simp [intOf]; omega
      · have hRb : (R != 0) = true := by simp [hR0]
        have HR0 := Lib.hid hR0
        clear hR0
        go_wp2_with (first
          | ((with_reducible refine wpList_load_at (dst := some 17) 28 (.tmp 16) g (o + i * 42) e.cells _ (by kernel_rfl) (by kernel_rfl) hre Tryd.underlying28 (by kernel_rfl) IE.out ?_); simp only [Act.put, List.setIfInBounds_toArray, List.set_cons_succ, List.set_cons_zero])
          | ((with_reducible refine wpList_alloc_held (dst := some 7) 28 (Ent.none 0).arr (by kernel_rfl) alloc_new ?_); intro V1 h7 b7 z7; (have l7 : wr.heap.size < V1.heap.size := (by omega)); clear z7; simp only [Act.put, List.setIfInBounds_toArray, List.set_cons_succ, List.set_cons_zero])
          | ((with_reducible refine wpList_store_held 28 (.tmp 7) (.tmp 17) wr.heap.size 28 _ e.arr (by kernel_rfl) (by kernel_rfl) (by kernel_rfl) h7 IZ.out IE2.out (ent_one _) ?_); intro V2 g7 b2 z2; clear z2; (have hB2 := b2.held (by omega) (hB.below b7 hBl)); (have hb2 := (hbl.trans (b7.mono hbz)).trans (b2.below (by omega) (by omega))); simp only [Act.put, List.setIfInBounds_toArray, List.set_cons_succ, List.set_cons_zero])
          | ((with_reducible refine wpList_load_held (dst := some 19) 28 (.tmp 7) wr.heap.size 28 e.arr _ (by kernel_rfl) (by kernel_rfl) g7 Tryd.underlying28 (by kernel_rfl) IE2.out ?_); simp only [Act.put, List.setIfInBounds_toArray, List.set_cons_succ, List.set_cons_zero])
          | (go_at_call 9; refine (HADD.out _ hB2 hb2).mono ?_; rintro e' V3 ⟨rfl, hB3, hb3⟩; (have hbF := hb2.trans (hb3.below (Nat.le_refl _) hb2.size)))
          )
        go_ret3
        exact ⟨.inr ⟨i, e, HE.out, HAL.out, by rw [HR.out]; exact HR0.out, by rw [HR.out]; rfl⟩, hbF⟩
    · obtain rfl : i = es.length := by omega
      have hltI : decide ((es.length : Int) < (es.length : Int)) = false := by simp
      rw [List.take_length] at hB
      go_wp2_with fail
      go_ret3
      exact ⟨.inl ⟨HAL.out, w.heap.size, rfl, Nat.le_refl _, hB⟩, hbl⟩
end Go.Proofs.YtjcpgnachkhjaaaDoor
