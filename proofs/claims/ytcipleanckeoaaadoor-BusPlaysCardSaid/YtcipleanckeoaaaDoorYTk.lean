/- Takes. -/
import Derived.Test.YtcipleanckeoaaaDoorRows
import Derived.Test.YtcipleanckeoaaaDoorYCommon
import Derived.Deep.RegionHeld
namespace Go.Proofs.YtcipleanckeoaaaDoor
open Go Go.RowKit
variable {P : Program} {ops : Array Oper} {Q : Exit → Act → World → Prop} {md : Region.Mode} {S : World → Prop}
theorem zT (i : Nat) {oi : Oper} {v : Value} {fuel : Nat} {listed : Array Bool} {a : Act} {w : World} (hi : ops[i]? = some oi) (hS : S w) (h : wpAnyH P md ops Q S fuel (listed.setIfInBounds i true) (a.put oi.dst v) w)
  (hb : (Region.noSelect ops && (Region.free md ops listed i && (Region.ready md ops listed).contains i)) = true := by kernel_rfl) (hQ : ∀ c a w, Q (.panic c) (a.put oi.dst v) w → Q (.panic c) a w := by exact fun _ _ _ h => h)
  (hg : Region.wanted oi (yielded ops a.tmps) = true := by rfl) (hy : ∀ W, S W → (execOp a.eval oi).run P W = .ok (.value v) W := by intro W hH; go_simp; with_reducible rfl) : wpAnyH P md ops Q S (fuel + 1) listed a w := by
 rw [Bool.and_eq_true, Bool.and_eq_true] at hb
 exact wpAnyH_take (i := i) hi hb.1 hb.2.1 hb.2.2 hQ (Or.inl ⟨hg, hy⟩) hS h
theorem zU (i : Nat) {oi : Oper} {v : Value} {fuel : Nat} {listed : Array Bool} {a b : Act} {w : World} (hi : ops[i]? = some oi) (hS : S w) (h : wpAnyH P md ops Q S fuel (listed.setIfInBounds i true) b w)
  (hb : (Region.noSelect ops && (Region.free md ops listed i && (Region.ready md ops listed).contains i)) = true := by kernel_rfl) (hQ : ∀ c a w, Q (.panic c) (a.put oi.dst v) w → Q (.panic c) a w := by exact fun _ _ _ h => h)
  (hg : Region.wanted oi (yielded ops a.tmps) = true := by rfl) (hy : ∀ W, S W → (execOp a.eval oi).run P W = .ok (.value v) W := by intro W hH; go_simp; with_reducible rfl)
  (ha : a.put oi.dst v = b := by simp only [Act.put, List.getElem_toArray, List.getElem_cons_succ, List.getElem_cons_zero, List.setIfInBounds_toArray, List.set_cons_succ, List.set_cons_zero]; try rfl) : wpAnyH P md ops Q S (fuel + 1) listed a w := by
 subst ha
 exact zT i hi hS h hb hQ hg hy
theorem zN (i : Nat) {oi : Oper} {fuel : Nat} {listed : Array Bool} {a : Act} {w : World} (hi : ops[i]? = some oi) (hS : S w) (h : wpAnyH P md ops Q S fuel (listed.setIfInBounds i true) (a.put oi.dst undef) w)
  (hb : (Region.noSelect ops && (Region.free md ops listed i && (Region.ready md ops listed).contains i)) = true := by kernel_rfl) (hQ : ∀ c a w, Q (.panic c) (a.put oi.dst undef) w → Q (.panic c) a w := by exact fun _ _ _ h => h)
  (hg : Region.wanted oi (yielded ops a.tmps) = false := by rfl) : wpAnyH P md ops Q S (fuel + 1) listed a w := by
 rw [Bool.and_eq_true, Bool.and_eq_true] at hb
 exact wpAnyH_take (i := i) hi hb.1 hb.2.1 hb.2.2 hQ (Or.inr ⟨hg, rfl⟩) hS h
theorem zR (i : Nat) {oi : Oper} {fuel : Nat} {listed : Array Bool} {a : Act} {w : World} (hi : ops[i]? = some oi)
  (h : ∀ K' : Act → World → Prop, Shut (∀ a w, S w → (S w → wpAnyH P md ops Q S fuel (listed.setIfInBounds i true) a w) → K' a w) → if Region.wanted oi (yielded ops a.tmps) = true then Oper.wp P oi a w K' Q else K' (a.put oi.dst undef) w)
  (hr : Region.ready md ops listed = [i] := by kernel_rfl) : wpAnyH P md ops Q S (fuel + 1) listed a w := wpAnyH_ready hr (by simp) (AllReadyH.cons hi h AllReadyH.nil)
theorem three_cells {w : World} {b : Nat} {t : TypeId} {v0 v1 v2 : Value} (h : Held w b t #[v0, v1, v2]) : w.cell? ⟨b, 0, none⟩ = some v0 ∧ w.cell? ⟨b, 1, none⟩ = some v1 ∧ w.cell? ⟨b, 2, none⟩ = some v2 := ⟨h.cell 0, h.cell 1, h.cell 2⟩
theorem zC4 {w : World} {b : Nat} {t : TypeId} {v0 v1 v2 v3 : Value} (h : Held w b t #[v0, v1, v2, v3]) : w.cell? ⟨b, 0, none⟩ = some v0 ∧ w.cell? ⟨b, 1, none⟩ = some v1 ∧ w.cell? ⟨b, 2, none⟩ = some v2 ∧ w.cell? ⟨b, 3, none⟩ = some v3 := ⟨h.cell 0, h.cell 1, h.cell 2, h.cell 3⟩
theorem zC6 {w : World} {b : Nat} {t : TypeId} {v0 v1 v2 v3 v4 v5 : Value} (h : Held w b t #[v0, v1, v2, v3, v4, v5]) : w.cell? ⟨b, 0, none⟩ = some v0 ∧ w.cell? ⟨b, 1, none⟩ = some v1 ∧ w.cell? ⟨b, 2, none⟩ = some v2 ∧ w.cell? ⟨b, 3, none⟩ = some v3 ∧ w.cell? ⟨b, 4, none⟩ = some v4 ∧ w.cell? ⟨b, 5, none⟩ = some v5 := ⟨h.cell 0, h.cell 1, h.cell 2, h.cell 3, h.cell 4, h.cell 5⟩
theorem zC9 {w : World} {b : Nat} {t : TypeId} {v0 v1 v2 v3 v4 v5 v6 v7 v8 : Value} (h : Held w b t #[v0, v1, v2, v3, v4, v5, v6, v7, v8]) : w.cell? ⟨b, 0, none⟩ = some v0 ∧ w.cell? ⟨b, 1, none⟩ = some v1 ∧ w.cell? ⟨b, 2, none⟩ = some v2 ∧ w.cell? ⟨b, 3, none⟩ = some v3 ∧ w.cell? ⟨b, 4, none⟩ = some v4 ∧ w.cell? ⟨b, 5, none⟩ = some v5 ∧ w.cell? ⟨b, 6, none⟩ = some v6 ∧ w.cell? ⟨b, 7, none⟩ = some v7 ∧ w.cell? ⟨b, 8, none⟩ = some v8 := ⟨h.cell 0, h.cell 1, h.cell 2, h.cell 3, h.cell 4, h.cell 5, h.cell 6, h.cell 7, h.cell 8⟩
theorem zB1 {w W : World} {o : Obj} (h : w.alloc o = W) : Below w.heap.size w W := by rw [← h]; exact (Below.refl _ w).alloc (Nat.le_refl _) _
theorem zB2 {w W : World} {o p : Obj} (h : (w.alloc o).alloc p = W) : Below w.heap.size w W := by rw [← h]; exact ((Below.refl _ w).alloc (Nat.le_refl _) _).alloc (by simp) _
theorem zB3 {w W : World} (h : w.drew = W) : Below w.heap.size w W := by rw [← h]; exact (Below.refl _ _).drew
theorem zH1 {w W : World} {cs : Array Value} {t : TypeId} (h : w.alloc (.cells cs t) = W) : Held W w.heap.size t cs := by rw [← h]; exact Held.new w _ _
theorem zSz : (Tryd.prog.info? 59).map (·.size) = some 6 := by kernel_rfl
theorem zF0 (w : World) (fn rd bt rg : Int) : ∃ w1 : World, Hid (((w.alloc (.cells #[.int .i64 fn, .int .i64 rd, .int .i64 bt, .int .i64 rg] 167)).alloc (.cells #[.int .i64 0, .int .i64 0, .int .i64 0, .int .i64 0, .slice none 0 0, .slice none 0 0] 59)).alloc (.cells #[.int .i64 fn, .int .i64 0, .int .i64 0, .int .i64 0, .slice none 0 0, .slice none 0 0] 59) = w1) ∧ Below w.heap.size w w1 ∧ Held w1 w.heap.size 167 #[.int .i64 fn, .int .i64 rd, .int .i64 bt, .int .i64 rg] ∧ Held w1 (w.heap.size + 1) 59 #[.int .i64 0, .int .i64 0, .int .i64 0, .int .i64 0, .slice none 0 0, .slice none 0 0] ∧ Held w1 (w.heap.size + 1 + 1) 59 #[.int .i64 fn, .int .i64 0, .int .i64 0, .int .i64 0, .slice none 0 0, .slice none 0 0] := by
 refine ⟨_, Lib.hid rfl, (((Below.refl _ w).alloc (Nat.le_refl _) _).alloc (by simp) _).alloc (by simp; omega) _, ((Held.new w _ _).alloc _).alloc _, ?_, ?_⟩
 ·have := Held.new (w.alloc (.cells #[.int .i64 fn, .int .i64 rd, .int .i64 bt, .int .i64 rg] 167)) 59 #[.int .i64 0, .int .i64 0, .int .i64 0, .int .i64 0, .slice none 0 0, .slice none 0 0]
  rw [World.size_alloc] at this
  exact this.alloc _
 ·have := Held.new ((w.alloc (.cells #[.int .i64 fn, .int .i64 rd, .int .i64 bt, .int .i64 rg] 167)).alloc (.cells #[.int .i64 0, .int .i64 0, .int .i64 0, .int .i64 0, .slice none 0 0, .slice none 0 0] 59)) 59 #[.int .i64 fn, .int .i64 0, .int .i64 0, .int .i64 0, .slice none 0 0, .slice none 0 0]
  rw [World.size_alloc, World.size_alloc] at this
  exact this
theorem zF2 {w X Y : World} {t1 t2 : TypeId} {cL cO : Array Value} {i : Nat} {v : Value} (h : X.setCell ⟨w.heap.size + 1 + 1, i, none⟩ v = Y) (hb : Below w.heap.size w X) (hL : Held X w.heap.size t1 cL) (hO : Held X (w.heap.size + 1) t2 cO) : Below w.heap.size w Y ∧ Held Y w.heap.size t1 cL ∧ Held Y (w.heap.size + 1) t2 cO := by
 rw [← h]
 exact ⟨hb.setCell (p := ⟨w.heap.size + 1 + 1, i, none⟩) (by show w.heap.size ≤ w.heap.size + 1 + 1; omega) _, hL.far (p := ⟨w.heap.size + 1 + 1, i, none⟩) (by show w.heap.size ≠ w.heap.size + 1 + 1; omega) _, hO.far (p := ⟨w.heap.size + 1 + 1, i, none⟩) (by show w.heap.size + 1 ≠ w.heap.size + 1 + 1; omega) _⟩
end Go.Proofs.YtcipleanckeoaaaDoor
