/- LedgerFolds: the plain law; slices of added entries. -/
import Derived.Test.YtnnknnaimabehaaDoorLedRefT
import Derived.Test.YtnnknnaimabehaaDoorLedAdd
import Derived.Test.YtnnknnaimabehaaDoorShelf
import Derived.Test.YtnnknnaimabehaaDoorRowUp
import Derived.Sort.Grow
import Derived.Lib.ItoaLen
import Derived.Test.YtnnknnaimabehaaDoorScope
import Derived.RangeFuncNested
import Derived.RangeFuncBound
import Derived.RangeFuncCalls
import Derived.RangeFuncLeaves
import Derived.Shelf.Abstract
import Derived.Shelf.RegionOpen
import Derived.OwnWalkIn
import Derived.TacticsInMore
import Derived.LoopNIn
import Derived.LoopIn
import Derived.Test.YtnnknnaimabehaaDoorLedPlain
import Derived.Test.YtnnknnaimabehaaDoorRound
import Derived.Test.YtnnknnaimabehaaDoorRowV
import Derived.Great.BuildSlice
namespace Go.Proofs.YtnnknnaimabehaaDoor
open Go.RowKit
set_option linter.unusedVariables false
/-- Does a book take entry i of the list? -/
def accB (es : List Ent) (i : Nat) : Bool := match es[i]? with
  | some x => decide ((addP (runB (es.take i)) x).2 = 0)
  | none => true
/-- The first that it does not take; none: -1. -/
def firstF (es : List Ent) : Nat → Int
  | 0 => -1
  | i + 1 => if accB es i = true then firstF es i else if firstF es i < 0 then i else firstF es i
theorem acc_at (es : List Ent) (i : Nat) (x : Ent) (h : es[i]? = some x) : accB es i = decide ((addP (runB (es.take i)) x).2 = 0) := by unfold accB; rw [h]
theorem first_cases (es : List Ent) : ∀ n, n ≤ es.length → (firstF es n = -1 ∧ allOk es n) ∨ ∃ (j : Nat) (x : Ent), j < n ∧ firstF es n = j ∧ es[j]? = some x ∧ allOk es j ∧ (addP (runB (es.take j)) x).2 ≠ 0 := by
  intro n
  induction n with
  | zero => intro _; exact .inl ⟨rfl, fun j x hj => by omega⟩
  | succ n ih =>
    intro hn
    have hx : es[n]? = some es[n] := List.getElem?_eq_getElem (by omega)
    have ha := acc_at es n _ hx
    unfold firstF
    rcases ih (by omega) with ⟨h1, h2⟩ | ⟨j, x, h1, h2, h3⟩
    · by_cases hb : (addP (runB (es.take n)) es[n]).2 = 0
      · left
        rw [ha, if_pos (by simpa using hb)]
        refine ⟨h1, fun j x hj hjx => ?_⟩
        rcases Nat.lt_or_ge j n with h | h
        · exact h2 j x h hjx
        · obtain rfl : j = n := by omega
          rw [hx] at hjx
          injection hjx with hjx
          rw [← hjx]; exact hb
      · right
        rw [ha, if_neg (by simpa using hb), if_pos (by omega)]
        exact ⟨n, _, by omega, rfl, hx, h2, hb⟩
    · right
      refine ⟨j, x, by omega, ?_, h3⟩
      split
      · exact h2
      · rw [if_neg (by omega)]; exact h2
theorem added_take (es : List Ent) (hes : ∀ e ∈ es, e.ok) (j : Nat) (h : allOk es j) : AddedE (es.take j) := by
  refine ⟨fun e he => hes e (List.mem_of_mem_take he), fun q x hx => ?_⟩
  have hq := (List.getElem?_eq_some_iff.1 hx).1
  rw [List.length_take] at hq
  rw [List.getElem?_take] at hx
  rw [if_pos (by omega)] at hx
  have := h q x (by omega) hx
  rw [List.take_take, Nat.min_eq_left (by omega)]
  exact this
theorem flat_cells : ∀ (l : List Ent), (∀ e ∈ l, e.cells.length = 42) → ∀ (i : Nat) (e : Ent) (j : Nat) (v : Value), l[i]? = some e → e.cells[j]? = some v → (l.flatMap Ent.cells)[i * 42 + j]? = some v
  | [], _, i, e, j, v, h, _ => by simp at h
  | a :: l, hl, 0, e, j, v, h, hv => by
    simp at h
    subst h
    have := (List.getElem?_eq_some_iff.1 hv).1
    rw [List.flatMap_cons, Nat.zero_mul, Nat.zero_add, List.getElem?_append_left this]
    exact hv
  | a :: l, hl, i + 1, e, j, v, h, hv => by
    have h1 := hl a (by simp)
    rw [List.flatMap_cons, List.getElem?_append_right (by omega), h1, show (i + 1) * 42 + j - 42 = i * 42 + j by omega]
    exact flat_cells l (fun e he => hl e (by simp [he])) i e j v (by simpa using h) hv
theorem eflat_len : ∀ (l : List Ent), (∀ e ∈ l, e.cells.length = 42) → (l.flatMap Ent.cells).length = l.length * 42
  | [], _ => rfl
  | a :: l, hl => by
    rw [List.flatMap_cons, List.length_append, hl a (by simp), eflat_len l (fun e he => hl e (by simp [he])), List.length_cons]
    omega
theorem EnI.of_own {W : World} {base : Nat} {e : TypeId} {v : Value} {n : Nat} {l : List Ent} (hl : ∀ e ∈ l, e.ok) (hn : n = l.length) (h : W.ownsRow base e 42 v n (l.flatMap Ent.cells)) : ∃ A c, v = .slice A n c ∧ EnI W A n l := by
  obtain ⟨A, c, rfl, hs⟩ := SlV.of_own (by omega) h
  have hc : ∀ e ∈ l, e.cells.length = 42 := fun e he => Ent.cells_len e (hl e he).2.2.2.2.2.2.2.2.2.2.1
  refine ⟨A, c, rfl, hn, hl, fun i e he => ?_⟩
  have hi := (List.getElem?_eq_some_iff.1 he).1
  obtain ⟨g, o, e1, hg, hcell⟩ := hs.2.2.2.2 (by rw [eflat_len l hc]; omega)
  exact ⟨g, o, e1, fun j v hv => by rw [Nat.add_assoc]; exact hcell _ _ (flat_cells l hc i e j v he hv)⟩
theorem info_entry : (Tryd.prog.info? 63).map (fun i => (i.zero, i.size, i.bytes)) = some (some (.agg (Ent.none 0).arr), 42, 112) := by kernel_rfl
theorem slice_one (X : Array Value) (hX : X.size = 42) (w : World) : (Instr.buildSlice 53 1 #[(0, .agg X)]).run Tryd.prog w = .ok (.slice (some ⟨w.heap.size, 0, none⟩) 1 1) (w.alloc (.cells X 63)) := by
  obtain ⟨i0, hi, hz0, hz1, hz2⟩ := info_parts info_entry
  refine run_buildSlice w _ 63 1 _ X i0 _ Tryd.underlying53 hi hz0 (by rw [hz1]; omega) (by rw [hz1]; omega) ?_
  rw [hz1]
  have h := Go.Great.fill_whole (s := 42) (by omega) [Value.agg X] ((Array.range (1 * 42)).map fun k => (Value.agg (Ent.none 0).arr).cells[k % (Value.agg (Ent.none 0).arr).cells.size]!) (by simp [Value.cells, hX]) (by simp)
  simpa [Value.cells] using h
theorem seals_step {K : Int} {b : Bk} (x : Ent) (h : (addP b x).2 = 0) : (addP b x).1.seals = if x.kind = 5 then b.seals + 1 else b.seals := by
  rw [addP_two] at h
  rw [addP_put, if_neg (by simp [h])]
  split <;> rfl
theorem add_same (b : Bk) (x : Ent) (h : (addP b x).2 ≠ 0) : (addP b x).1 = b := by
  rw [addP_two] at h
  rw [addP_put, if_pos h]
theorem mayR_add {K : Int} {b : Bk} (hb : b.ok K) (x : Ent) (hx : x.ok) : mayR b x = (addP b x).2 := by rw [mayR_eq hb x hx, addP_two]
theorem taken_step (es : List Ent) (i : Nat) (x : Ent) (hes : ∀ e ∈ es, e.ok) (hx : es[i]? = some x) : takenE (es.take (i + 1)) = if (addP (runB (es.take i)) x).2 = 0 then takenE (es.take i) ++ [x] else takenE (es.take i) := by
  have hi := (List.getElem?_eq_some_iff.1 hx).1
  have e1 : es.take (i + 1) = es.take i ++ [x] := by rw [List.take_add_one, hx]; rfl
  rw [e1, takenE_snoc, (taken_added es hes i (by omega)).2.1]
theorem added_n {es : List Ent} (hA : AddedE es) (b : Bk) (h : runB es = b) : b.ok es.length := by
  rw [← h]; exact runB_ok es hA.1
theorem sum_neq (a : SumS) (ha : a.last.hash.length = 32) (w : World) : (binOp .neq 65 (.agg a.arr) (.agg a.arr)).run Tryd.prog w = .ok (.bool false) w := by
  rw [run_neq_struct, sum_in 9996 a a ha ha]; simp
theorem tot_neq (a : Tot) (w : World) : (binOp .neq 56 (.agg a.arr) (.agg a.arr)).run Tryd.prog w = .ok (.bool false) w := by
  rw [run_neq_struct, tot_in 9998 a a]; simp
theorem sum_guard2 (w : World) (x y : Operand) (xs ys : Array Value) : (eqGuard .neq 65 x y (.agg xs) (.agg ys)).run Tryd.prog w = .ok () w := run_eqGuard_agg w .neq 65 x y xs ys (by kernel_rfl)
theorem tot_guard2 (w : World) (x y : Operand) (xs ys : Array Value) : (eqGuard .neq 56 x y (.agg xs) (.agg ys)).run Tryd.prog w = .ok () w := run_eqGuard_agg w .neq 56 x y xs ys (by kernel_rfl)
end Go.Proofs.YtnnknnaimabehaaDoor
