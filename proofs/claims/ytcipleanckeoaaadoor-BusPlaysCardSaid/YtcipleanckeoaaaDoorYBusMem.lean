/- Worlds along bus.Play: bytes are kept, the row of pieces grows; marks of ranges over functions. -/
import Derived.Test.YtcipleanckeoaaaDoorYBusPcs
import Derived.Test.YtcipleanckeoaaaDoorYBusApp
import Derived.Test.YtcipleanckeoaaaDoorYSortA
import Derived.RangeFuncLeaves
set_option maxRecDepth 100000
set_option maxHeartbeats 40000000
namespace Go.Proofs.YtcipleanckeoaaaDoor
open Go.RowKit
set_option linter.unusedVariables false
set_option linter.unusedSimpArgs false
def Lx (g B : Nat) (A C : World) : Prop := Kx g B A C ∧ KeepsOthers A C
theorem Lx.refl (g B : Nat) (A : World) : Lx g B A A := ⟨Kx.refl _ _ _, KeepsOthers.refl _⟩
theorem Lx.trans {g B : Nat} {X Y Z : World} (h : Lx g B X Y) (k : Lx g B Y Z) : Lx g B X Z := ⟨h.1.trans k.1, h.2.trans k.2⟩
theorem keepsOthers_below {X Y : World} (h : Below X.heap.size X Y) : KeepsOthers X Y := ⟨h.size, fun k o hk _ => (h.block k (Array.getElem?_eq_some_iff.1 hk).1).trans hk⟩
theorem Lx.below {g B : Nat} {X Y : World} (h : Below X.heap.size X Y) (hg : g ≤ B) (hB : B ≤ X.heap.size) : Lx g B X Y := ⟨Kx.of_below (h.mono hB) hg, keepsOthers_below h⟩
theorem Lx.set {g B : Nat} (X : World) (i : Nat) (v : Value) : Lx g B X (X.setCell ⟨g, i, none⟩ v) := ⟨(Kx.refl g B X).set i v, KeepsOthers.setCell _ _ _⟩
theorem Lx.drew {g B : Nat} {X Y : World} (h : Lx g B X Y) : Lx g B X Y.drew := ⟨h.1.drew, h.2.trans (KeepsOthers.drew _)⟩
theorem Lx.own {g B : Nat} {X Y : World} {e : TypeId} {size n : Nat} {v : Value} {xs : List Value} (hr : X.ownsRow B e size v n xs) (hg : X.grownBy Y v.ownBlock) (hgB : g ≤ B) (hB : B ≤ X.heap.size) : Lx g B X Y := by
 refine ⟨⟨(Below.refl _ X).grown hg (by omega) (fun k hk => by have := (hr.lt k hk).1; omega), fun k h1 h2 => hg.block k (by omega) (fun e => by have := (hr.lt k e.symm).1; omega)⟩, KeepsOthers.of_grownBy hg fun j o ej hj => ?_⟩
 rcases hr.2 with ⟨rfl, _⟩ | ⟨g', cap, cur, rfl, _, hgb, _⟩
 ·simp [Value.ownBlock] at ej
 ·obtain rfl : g' = j := by simpa [Value.ownBlock] using ej
  rw [hgb] at hj; cases hj; rfl
theorem Lx.held {g B k : Nat} {t : TypeId} {cs : Array Value} {X Y : World} (h : Lx g B X Y) (hk : k ≠ g) (hB : k < B) (hh : Held X k t cs) : Held Y k t cs := (h.1.2 k hk hB).trans hh
theorem Lx.size {g B : Nat} {X Y : World} (h : Lx g B X Y) : X.heap.size ≤ Y.heap.size := h.2.size
theorem Lx.cell {g B : Nat} {X Y : World} (h : Lx g B X Y) {p : Addr} (hk : p.block ≠ g) (hB : p.block < B) : Y.cell? p = X.cell? p := h.1.cell hk hB
def noPanic (Q : Exit → Act → World → Prop) : Exit → Act → World → Prop
 | .panic _, _, _ => False
 | e, a, w => Q e a w
theorem wp_noPanic {P : Program} {c : Code} {Q : Exit → Act → World → Prop} {a : Act} {w : World} (h : c.wp P (noPanic Q) a w) : c.wp P Q a w :=
 Code.wp_mono (fun e a w q => by cases e <;> first | exact q | exact q.elim) h
theorem noPanic_normal {Q : Exit → Act → World → Prop} {a : Act} {w : World} (h : Q .normal a w) : noPanic Q .normal a w := h
def markD (D : Nat) : Deferred := { target := .collected D, args := #[] }
def Mk (B : Nat) (Ds : List Nat) (W : World) : Prop := Ds.Nodup ∧ ∀ D ∈ Ds, B ≤ D ∧ W.heap[D]? = some (.deferred (some []))
theorem Mk.nil (B : Nat) (W : World) : Mk B [] W := ⟨List.nodup_nil, fun D h => by cases h⟩
theorem Mk.keep {B : Nat} {Ds : List Nat} {W W' : World} (h : Mk B Ds W) (k : KeepsOthers W W') : Mk B Ds W' := ⟨h.1, fun D hD => ⟨(h.2 D hD).1, k.same D _ (h.2 D hD).2 rfl⟩⟩
theorem Mk.cons {B D : Nat} {Ds : List Nat} {W : World} (h : Mk B Ds W) (hD : B ≤ D) (hn : D ∉ Ds) (hk : W.heap[D]? = some (.deferred (some []))) : Mk B (D :: Ds) W :=
 ⟨List.nodup_cons.2 ⟨hn, h.1⟩, fun E hE => (List.mem_cons.1 hE).elim (fun e => by rw [e]; exact ⟨hD, hk⟩) (h.2 E)⟩
theorem leaves_marks {F : Fence} {n : Nat} {P : Program} {fn : Func} {tmps : Array Value} {R : Ending → World → Prop} {B : Nat} (C : World → Prop) (hC : ∀ W D, B ≤ D → W.heap[D]? = some (.deferred (some [])) → C W → C (W.putObj D (.deferred none)))
  (hR : ∀ W, C W → LeavesInM F n P fn tmps R [] .returning W) : ∀ (Ds : List Nat) (W : World), Mk B Ds W → C W → LeavesInM F n P fn tmps R (Ds.map markD) .returning W
 | [], W, _, h => hR W h
 | D :: Ds, W, hm, h => by
  have hD := hm.2 D (by simp)
  refine ⟨by simp, .inl ⟨_, _, rfl, run_takeDeferred hD.2, ?_⟩⟩
  refine leaves_marks C hC hR Ds _ ⟨(List.nodup_cons.1 hm.1).2, fun E hE => ⟨(hm.2 E (by simp [hE])).1, ?_⟩⟩ (hC W D hD.1 hD.2 h)
  have hne : E ≠ D := fun e => (List.nodup_cons.1 hm.1).1 (e ▸ hE)
  exact (World.putObj_heap_other (by omega)).trans (hm.2 E (by simp [hE])).2
theorem below_put {B D : Nat} {X W : World} (o : Obj) (h : Below B X W) (hD : B ≤ D) : Below B X (W.putObj D o) :=
 ⟨h.os, h.tape, h.output, by have := h.size; simpa [World.putObj] using this, fun k hk => (World.putObj_heap_other (by omega)).trans (h.block k hk)⟩
def NoU8 (v : Value) : Prop := ∀ x, v ≠ .int .u8 x
def K8 (W W' : World) : Prop := W.heap.size ≤ W'.heap.size ∧ ∀ (k o : Nat) (x : Int), W.cell? ⟨k, o, none⟩ = some (.int .u8 x) → W'.heap[k]? = W.heap[k]?
theorem K8.refl (W : World) : K8 W W := ⟨Nat.le_refl _, fun _ _ _ _ => rfl⟩
theorem K8.trans {A B C : World} (h : K8 A B) (k : K8 B C) : K8 A C := ⟨Nat.le_trans h.1 k.1, fun j o x hx => by
 have e := h.2 j o x hx
 exact (k.2 j o x ((World.cell?_of_block (a := ⟨j, o, none⟩) e).trans hx)).trans e⟩
theorem K8.below {A B : World} (h : Below A.heap.size A B) : K8 A B := ⟨h.size, fun j o x hx => h.block j (World.block_lt_of_cell? A _ hx)⟩
theorem K8.drew {A B : World} (h : K8 A B) : K8 A B.drew := h
theorem K8.grown {A B : World} {v : Value} (hg : A.grownBy B v.ownBlock) (hq : AllC A v NoU8) : K8 A B := ⟨hg.size, fun j o x hx => hg.block j (World.block_lt_of_cell? A _ hx) (fun e => hq.ne hx (fun h => h x rfl) e.symm)⟩
theorem K8.set {A : World} {b : Nat} {t : TypeId} {v : Value} (h : Held A b t #[v]) (hv : NoU8 v) (u : Value) : K8 A (A.setCell ⟨b, 0, none⟩ u) := ⟨by simp, fun j o x hx => Below.heap_setCell _ _ _ _ (fun e => by
 subst e
 have := h.cell o
 rw [hx] at this
 match o, this with
 | 0, h => simp at h; exact hv x h.symm
 | o + 1, h => simp at h)⟩
theorem cells_of_cell {W : World} {p : Addr} {v : Value} {o : Obj} (hx : W.cell? p = some v) (ho : W.heap[p.block]? = some o) : o.isCells = true := by
 unfold World.cell? at hx
 rw [ho] at hx
 cases o <;> first | rfl | (dsimp only at hx; cases hx)
theorem K8.other {A B : World} {row : Option Nat} (hg : A.grownBy B row) (hr : ∀ r, row = some r → ∃ o : Obj, A.heap[r]? = some o ∧ o.isCells = false) : K8 A B := ⟨hg.size, fun j o x hx => hg.block j (World.block_lt_of_cell? A _ hx) (fun e => by
 obtain ⟨ob, ho, hc⟩ := hr j e.symm
 rw [cells_of_cell hx ho] at hc
 cases hc)⟩
theorem SlI.k8 {A B : World} {a : Option Addr} {n c : Nat} {xs : List Int} (h : SlI A A.heap.size .u8 a n c xs) (k : K8 A B) : SlI B B.heap.size .u8 a n c xs := by
 refine ⟨h.1, h.2.1, h.2.2.1, h.2.2.2.1, fun hn => ?_⟩
 obtain ⟨g, off, e, hlt, hc⟩ := h.2.2.2.2 hn
 refine ⟨g, off, e, Nat.lt_of_lt_of_le hlt k.1, fun i x hx => ?_⟩
 have := hc i x hx
 exact (World.cell?_of_block (a := ⟨g, off + i, none⟩) (k.2 g (off + i) x this)).trans this
theorem HoldsP.k8 {zs : List (Int × List Int)} {A B : World} {ys : List Pc} (h : HoldsP zs A ys) (k : K8 A B) : HoldsP zs B ys := fun y hy => by
 obtain ⟨d, h1, h2⟩ := h y hy
 exact ⟨d, h1, h2.k8 k⟩
def Pc.cells (x : Pc) : List Value := [.int .i64 x.at_, .slice x.A x.n x.c]
def rowC (ys : List Pc) : List Value := ys.flatMap Pc.cells
theorem rowC_len (ys : List Pc) : (rowC ys).length = ys.length * 2 := by
 induction ys with
 | nil => rfl
 | cons y r ih =>
  have : rowC (y :: r) = y.cells ++ rowC r := by simp [rowC]
  rw [this, List.length_append, ih, List.length_cons]
  simp [Pc.cells]; omega
theorem rowC_at : ∀ (ys : List Pc) (i : Nat) (y : Pc), ys[i]? = some y → (rowC ys)[i * 2]? = some (.int .i64 y.at_) ∧ (rowC ys)[i * 2 + 1]? = some (.slice y.A y.n y.c)
 | [], i, y, h => by cases h
 | x :: r, 0, y, h => by
  obtain rfl : x = y := by simpa using h
  exact ⟨rfl, rfl⟩
 | x :: r, i + 1, y, h => by
  have e : rowC (x :: r) = x.cells ++ rowC r := by simp [rowC]
  obtain ⟨h1, h2⟩ := rowC_at r i y (by simpa using h)
  rw [e, List.getElem?_append_right (by simp [Pc.cells]; omega), List.getElem?_append_right (by simp [Pc.cells]; omega)]
  exact ⟨by rw [show (i + 1) * 2 - x.cells.length = i * 2 by simp [Pc.cells]; omega]; exact h1, by rw [show (i + 1) * 2 + 1 - x.cells.length = i * 2 + 1 by simp [Pc.cells]; omega]; exact h2⟩
theorem PcRow.of_own {w : World} {B : Nat} {e : TypeId} {g n c : Nat} {ys : List Pc} (h : w.ownsRow B e 2 (.slice (some ⟨g, 0, none⟩) n c) n (rowC ys)) : PcRow w g ys := by
 obtain ⟨hl, h2⟩ := h
 rcases h2 with ⟨hv, _⟩ | ⟨g', cap, cur, hv, hb, hg, h1, h3, h4, h5⟩
 ·cases hv
 ·injection hv with hA hn hc
  obtain rfl : g = g' := by simpa using hA
  have hH : Held w g e cur := hg
  refine ⟨hH.lt, fun j => hH.frozen j, fun i y hy => ?_⟩
  obtain ⟨q1, q2⟩ := rowC_at ys i y hy
  rw [← h5] at q1 q2
  rw [List.getElem?_take] at q1 q2
  rw [hH.cell, hH.cell]
  split at q1
  ·split at q2
   ·exact ⟨by simpa using q1, by simpa using q2⟩
   ·cases q2
  ·cases q1
def PlI (zs : List (Int × List Int)) (gO B : Nat) (w2 : World) (Ds : List Nat) (v : Value) (W : World) : Prop :=
 ∃ ys, Held W gO 34 #[v] ∧ W.ownsRow B 51 2 v zs.length (rowC ys) ∧ AllC W v NoU8 ∧ ys.map (·.idx) = List.range zs.length ∧ HoldsP zs W ys ∧ Lx gO B w2 W ∧ Mk B Ds W
theorem PlI.below {zs : List (Int × List Int)} {gO B : Nat} {w2 : World} {Ds : List Nat} {v : Value} {W W' : World} (h : PlI zs gO B w2 Ds v W) (hb : Below W.heap.size W W') (h1 : gO ≤ B) (h2 : B ≤ W.heap.size) : PlI zs gO B w2 Ds v W' := by
 obtain ⟨ys, a1, a2, a3, a4, a5, a6, a7⟩ := h
 exact ⟨ys, a1.below hb a1.lt, lown_up a2 hb, a3.same (fun g hg => hb.block g (a2.lt g hg).2), a4, a5.k8 (K8.below hb), a6.trans (Lx.below hb h1 h2), a7.keep (keepsOthers_below hb)⟩
theorem PlI.size {zs : List (Int × List Int)} {gO B : Nat} {w2 : World} {Ds : List Nat} {v : Value} {W : World} (h : PlI zs gO B w2 Ds v W) : w2.heap.size ≤ W.heap.size := by
 obtain ⟨ys, a1, a2, a3, a4, a5, a6, a7⟩ := h
 exact a6.size
theorem row_cells {W : World} {v : Value} {B size n : Nat} {e : TypeId} {xs : List Value} (h : W.ownsRow B e size v n xs) {k : Nat} (hk : v.ownBlock = some k) : ∃ cur, W.heap[k]? = some (.cells cur e (0, 0)) := by
 rcases h.2 with ⟨rfl, _⟩ | ⟨g, cap, cur, rfl, _, hg, _⟩
 ·simp [Value.ownBlock] at hk
 ·obtain rfl : g = k := by simpa [Value.ownBlock] using hk
  exact ⟨cur, hg⟩
theorem PlI.own {zs : List (Int × List Int)} {gO B N : Nat} {w2 : World} {Ds : List Nat} {v : Value} (hN : ∀ D ∈ Ds, D < N) (hgB : gO < B) (hB : B ≤ N) (hw2 : w2.heap.size = B) : OwnFrom N (fun (_ : Unit) W => PlI zs gO B w2 Ds v W) := by
 intro _ X Y row hs hg hr
 obtain ⟨ys, a1, a2, a3, a4, a5, a6, a7⟩ := hs
 have hr2 : ∀ k (o : Obj), X.heap[k]? = some o → o.isCells = true → some k ≠ row := fun k o hk hc e => by
  obtain ⟨_, o2, ho, hc2⟩ := hr k e.symm
  rw [hk] at ho; cases ho; rw [hc] at hc2; cases hc2
 have hrow : ∀ k, v.ownBlock = some k → Y.heap[k]? = X.heap[k]? := fun k hk => by
  obtain ⟨cur, hc⟩ := row_cells a2 hk
  exact hg.block k (Array.getElem?_eq_some_iff.1 hc).1 (hr2 k _ hc rfl)
 refine ⟨ys, (hg.block gO a1.lt (hr2 gO _ a1 rfl)).trans a1, lown_same a2 hrow, a3.same hrow, a4, a5.k8 (K8.other hg fun r e => (hr r e).2), ⟨⟨a6.1.1.trans ((Below.refl _ X).grown hg (by have := a1.lt; omega) (fun k hk => by have := (hr k hk).1; omega)), fun k e1 e2 => ?_⟩, ⟨Nat.le_trans a6.2.size hg.size, fun k o hk hc => ?_⟩⟩, ⟨a7.1, fun D hD => ⟨(a7.2 D hD).1, (hg.block D (Array.getElem?_eq_some_iff.1 (a7.2 D hD).2).1 (fun e => by have := (hr D e.symm).1; have := hN D hD; omega)).trans (a7.2 D hD).2⟩⟩⟩
 ·have := a6.2.size
  exact (hg.block k (by omega) (fun e => by have := (hr k e.symm).1; omega)).trans (a6.1.2 k e1 e2)
 ·have h5 := a6.2.same k o hk hc
  have h6 := (Array.getElem?_eq_some_iff.1 hk).1
  exact (hg.block k (Array.getElem?_eq_some_iff.1 h5).1 (fun e => by have := (hr k e.symm).1; omega)).trans h5
theorem PlI.box {zs : List (Int × List Int)} {gO B Bb : Nat} {w2 : World} {Ds : List Nat} {v s : Value} {W : World} (h : PlI zs gO B w2 Ds v W) (hb : Held W Bb 22 #[s]) (hs : NoU8 s) (h1 : gO < B) (h2 : B ≤ Bb) (u : Value) : PlI zs gO B w2 Ds v (W.setCell ⟨Bb, 0, none⟩ u) := by
 obtain ⟨ys, a1, a2, a3, a4, a5, a6, a7⟩ := h
 have hne := hb.not_row (by decide) a2
 have hrow : ∀ k, v.ownBlock = some k → (W.setCell ⟨Bb, 0, none⟩ u).heap[k]? = W.heap[k]? := fun k hk => Below.heap_setCell _ _ _ _ (fun e => hne (by rw [hk, e]))
 exact ⟨ys, a1.far (by show gO ≠ Bb; omega) u, lown_same a2 hrow, a3.same hrow, a4, a5.k8 (K8.set hb hs u), a6.trans ⟨⟨(Below.refl _ _).setCell (p := ⟨Bb, 0, none⟩) (by show gO ≤ Bb; omega) _, fun k _ hk => Below.heap_setCell _ _ _ _ (by show k ≠ Bb; omega)⟩, KeepsOthers.setCell _ _ _⟩, a7.keep (KeepsOthers.setCell _ _ _)⟩
theorem PlI.app {zs : List (Int × List Int)} {gO B : Nat} {w2 : World} {Ds : List Nat} {v v' : Value} {W W' : World} {ys : List Pc} {at_ : Int} {A : Option Addr} {n c : Nat} {d : List Int} (hgB : gO < B) (hB : B ≤ W.heap.size)
  (a1 : Held W gO 34 #[v]) (a2 : W.ownsRow B 51 2 v zs.length (rowC ys)) (a3 : AllC W v NoU8) (a4 : ys.map (·.idx) = List.range zs.length) (a5 : HoldsP zs W ys) (a6 : Lx gO B w2 W) (a7 : Mk B Ds W) (hd : SlI W W.heap.size .u8 A n c d)
  (o : W'.ownsRow B 51 2 v' (zs.length + 1) (rowC ys ++ [.int .i64 at_, .slice A n c])) (hg : W.grownBy W' v.ownBlock) (hv : v'.ownBlock = v.ownBlock ∨ v'.ownBlock = some W.heap.size) (hq : AllC W' v' NoU8) (hns : NoU8 v) :
  PlI (zs ++ [(at_, d)]) gO B w2 Ds v' (W'.setCell ⟨gO, 0, none⟩ v') ∧ K8 W (W'.setCell ⟨gO, 0, none⟩ v') := by
 have h1 : Held W' gO 34 #[v] := a1.kept hg (a1.not_row (by decide) a2)
 have hne := h1.not_row (by decide) o
 have hrow : ∀ k, v'.ownBlock = some k → (W'.setCell ⟨gO, 0, none⟩ v').heap[k]? = W'.heap[k]? := fun k hk => Below.heap_setCell _ _ _ _ (fun e => hne (by rw [hk, e]))
 have hk : K8 W (W'.setCell ⟨gO, 0, none⟩ v') := (K8.grown hg a3).trans (K8.set h1 hns v')
 have L : Lx gO B W W' := Lx.own a2 hg (by omega) hB
 refine ⟨⟨ys ++ [⟨at_, A, n, c, zs.length⟩], h1.set 0 v', ?_, hq.same hrow, ?_, ?_, (a6.trans L).trans (Lx.set _ _ _), (a7.keep L.2).keep (KeepsOthers.setCell _ _ _)⟩, hk⟩
 ·rw [List.length_append, List.length_singleton]
  have : rowC (ys ++ [⟨at_, A, n, c, zs.length⟩]) = rowC ys ++ [.int .i64 at_, .slice A n c] := by simp [rowC, Pc.cells]
  rw [this]
  exact lown_same o hrow
 ·rw [List.map_append, a4, List.length_append, List.length_singleton, List.range_succ]; rfl
 ·intro y hy
  rcases List.mem_append.mp hy with h | h
  ·obtain ⟨d', e1, e2⟩ := (a5.k8 hk) y h
   have hlt := (List.getElem?_eq_some_iff.mp e1).1
   exact ⟨d', by rw [List.getElem?_append_left hlt]; exact e1, e2⟩
  ·rw [List.mem_singleton.mp h]
   exact ⟨d, by simp, hd.k8 hk⟩
def PcsI (w : World) (A : Option Addr) (n c : Nat) (rs : List (Int × List Int)) : Prop := rs.length = n ∧ n ≤ c ∧ c ≤ maxLen ∧ (A = none → n = 0 ∧ c = 0) ∧ (0 < n → ∃ g, A = some ⟨g, 0, none⟩ ∧ g < w.heap.size ∧
 ∀ (i : Nat) (z : Int × List Int), rs[i]? = some z → ∃ D nd cd, w.cell? ⟨g, i * 2, none⟩ = some (.int .i64 z.1) ∧ w.cell? ⟨g, i * 2 + 1, none⟩ = some (.slice D nd cd) ∧ SlI w w.heap.size .u8 D nd cd z.2)
theorem PcsI.up {w w' : World} {A : Option Addr} {n c : Nat} {rs : List (Int × List Int)} (h : PcsI w A n c rs) (hb : Below w.heap.size w w') : PcsI w' A n c rs := by
 obtain ⟨h1, h2, h3, h4, h5⟩ := h
 refine ⟨h1, h2, h3, h4, fun hn => ?_⟩
 obtain ⟨g, e, hg, hc⟩ := h5 hn
 refine ⟨g, e, Nat.lt_of_lt_of_le hg hb.size, fun i z hz => ?_⟩
 obtain ⟨D, nd, cd, k1, k2, k3⟩ := hc i z hz
 exact ⟨D, nd, cd, (hb.cell (p := ⟨g, i * 2, none⟩) hg).trans k1, (hb.cell (p := ⟨g, i * 2 + 1, none⟩) hg).trans k2, k3.up hb⟩
theorem PcsI.nil (w : World) : PcsI w none 0 0 [] := ⟨rfl, Nat.le_refl _, by simp [maxLen], fun _ => ⟨rfl, rfl⟩, fun h => absurd h (by omega)⟩
theorem PcsI.put {w : World} {A : Option Addr} {n c : Nat} {rs : List (Int × List Int)} (h : PcsI w A n c rs) {D : Nat} {o : Obj} (o' : Obj) (hD : w.heap[D]? = some o) (ho : o.isCells = false) : PcsI (w.putObj D o') A n c rs := by
 obtain ⟨h1, h2, h3, h4, h5⟩ := h
 refine ⟨h1, h2, h3, h4, fun hn => ?_⟩
 obtain ⟨g, e, hg, hc⟩ := h5 hn
 have hk : K8 w (w.putObj D o') := K8.other (grownBy_putObj' w D o') (fun r e => by cases e; exact ⟨o, hD, ho⟩)
 refine ⟨g, e, Nat.lt_of_lt_of_le hg hk.1, fun i z hz => ?_⟩
 obtain ⟨E, nd, cd, k1, k2, k3⟩ := hc i z hz
 have hne : g ≠ D := fun e => by
  subst e
  rw [cells_of_cell k1 hD] at ho
  cases ho
 have hs : (w.putObj D o').heap[g]? = w.heap[g]? := World.putObj_heap_other hne
 exact ⟨E, nd, cd, (World.cell?_of_block (a := ⟨g, i * 2, none⟩) hs).trans k1, (World.cell?_of_block (a := ⟨g, i * 2 + 1, none⟩) hs).trans k2, k3.k8 hk⟩
end Go.Proofs.YtcipleanckeoaaaDoor
