/- A poller in memory. -/
import Derived.Test.YtcipleanckeoaaaDoorRows
import Derived.Test.YtcipleanckeoaaaDoorCommon
import Derived.Test.YtcipleanckeoaaaDoorPolPlain
import Derived.WalkKit
import Derived.ProofKit
import Derived.Below
import Derived.Lib.Hide
namespace Go.Proofs.YtcipleanckeoaaaDoor
open Go.RowKit
set_option linter.unusedVariables false
def PPt.cells (x : PPt) : List Value := [.int .i64 x.unit, .int .i64 x.fn, .int .i64 x.addr, .int .i64 x.order, .int .i64 x.due, .int .i64 x.fails, .int .i64 x.turns]
/-- These cells are points. -/
def PtC (cur : Array Value) (l : List PPt) : Prop := ∀ (k : Nat) (x : PPt), l[k]? = some x → ∀ (j : Nat) (v : Value), x.cells[j]? = some v → cur[k * 7 + j]? = some v
def polC (c : PCf) (gl n cap : Nat) (s : PSt) : Array Value :=
  #[.slice none 0 0, .int .i64 c.tmo, .int .i64 c.sil, .int .i64 c.ret, .int .i64 c.per, .int .i64 c.fls, .slice (some ⟨gl, 0, none⟩) n cap, .int .i64 s.now, .int .i64 s.opn, .int .i64 s.began, .int .i64 s.tries, .bool s.waits, .int .i64 s.at_]
def PolAt (W : World) (g gl cap : Nat) (c : PCf) (s : PSt) : Prop :=
  Held W g 141 (polC c gl s.l.length cap s) ∧ (∃ cur, Held W gl 145 cur ∧ PtC cur s.l) ∧ s.l.length ≤ cap ∧ cap ≤ maxLen
/-- Only these two blocks may be other than they were. -/
def Bt (g gl : Nat) (A B : World) : Prop := Below 0 A B ∧ ∀ k, k ≠ g → k ≠ gl → k < A.heap.size → B.heap[k]? = A.heap[k]?
section
variable {W W' : World} {g gl cap : Nat} {c : PCf} {s : PSt}
theorem Bt.refl (g gl : Nat) (A : World) : Bt g gl A A := ⟨Below.refl _ _, fun _ _ _ _ => rfl⟩
theorem Bt.size {A B : World} (h : Bt g gl A B) : A.heap.size ≤ B.heap.size := h.1.size
theorem Bt.trans {A B C : World} (h : Bt g gl A B) (k : Bt g gl B C) : Bt g gl A C := ⟨h.1.trans k.1, fun j h1 h2 h3 => (k.2 j h1 h2 (by have := h.size; omega)).trans (h.2 j h1 h2 h3)⟩
theorem Bt.of_below {A B : World} (h : Below A.heap.size A B) : Bt g gl A B := ⟨h.mono (Nat.zero_le _), fun k _ _ hk => h.block k hk⟩
theorem Bt.drew {A B : World} (h : Bt g gl A B) : Bt g gl A B.drew := ⟨h.1.drew, h.2⟩
theorem Bt.set {A B : World} (h : Bt g gl A B) (b o : Nat) (hb : b = g ∨ b = gl) (v : Value) : Bt g gl A (B.setCell ⟨b, o, none⟩ v) :=
  ⟨h.1.setCell (p := ⟨b, o, none⟩) (Nat.zero_le _) v, fun k h1 h2 h3 => (Below.heap_setCell B ⟨b, o, none⟩ v k (by rcases hb with rfl | rfl <;> assumption)).trans (h.2 k h1 h2 h3)⟩
theorem Bt.held {A B : World} (h : Bt g gl A B) {b : Nat} {t : TypeId} {cs : Array Value} (hh : Held A b t cs) (h1 : b ≠ g) (h2 : b ≠ gl) : Held B b t cs := (h.2 b h1 h2 hh.lt).trans hh
theorem Bt.below {A B : World} {n : Nat} (h : Bt g gl A B) (h1 : n ≤ g) (h2 : n ≤ gl) (h3 : n ≤ A.heap.size) : Below n A B := ⟨h.1.os, h.1.tape, h.1.output, h.1.size, fun k hk => h.2 k (by omega) (by omega) (by omega)⟩
theorem PolAt.ne (h : PolAt W g gl cap c s) : gl ≠ g := fun e => by
  obtain ⟨h1, ⟨cur, h2, _⟩, _⟩ := h
  rw [e] at h2
  have := h1.symm.trans h2
  injection this with this
  injection this with h3 h4 h5
  exact absurd h4 (by decide)
theorem PolAt.lt (h : PolAt W g gl cap c s) : g < W.heap.size ∧ gl < W.heap.size := by
  obtain ⟨h1, ⟨cur, h2, _⟩, _⟩ := h
  exact ⟨h1.lt, h2.lt⟩
theorem PolAt.up (h : PolAt W g gl cap c s) (hb : Below W.heap.size W W') : PolAt W' g gl cap c s := by
  obtain ⟨h1, ⟨cur, h2, h3⟩, h4⟩ := h
  exact ⟨h1.below hb h1.lt, ⟨cur, h2.below hb h2.lt, h3⟩, h4⟩
theorem PolAt.drew (h : PolAt W g gl cap c s) : PolAt W.drew g gl cap c s := h
theorem PolAt.drewN (h : PolAt W g gl cap c s) (n : Nat) : PolAt (W.drewN n) g gl cap c s := h
theorem PolAt.kept {row : Option Nat} (h : PolAt W g gl cap c s) (hg : W.grownBy W' row) (h1 : some g ≠ row) (h2 : some gl ≠ row) : PolAt W' g gl cap c s := by
  obtain ⟨k1, ⟨cur, k2, k3⟩, k4⟩ := h
  exact ⟨k1.kept hg h1, ⟨cur, k2.kept hg h2, k3⟩, k4⟩
/-- Its cells. -/
theorem PolAt.cells (h : PolAt W g gl cap c s) :
    W.cell? ⟨g, 1, none⟩ = some (.int .i64 c.tmo) ∧ W.cell? ⟨g, 2, none⟩ = some (.int .i64 c.sil) ∧ W.cell? ⟨g, 3, none⟩ = some (.int .i64 c.ret) ∧ W.cell? ⟨g, 4, none⟩ = some (.int .i64 c.per) ∧ W.cell? ⟨g, 5, none⟩ = some (.int .i64 c.fls) ∧
    W.cell? ⟨g, 6, none⟩ = some (.slice (some ⟨gl, 0, none⟩) s.l.length cap) ∧ W.cell? ⟨g, 7, none⟩ = some (.int .i64 s.now) ∧ W.cell? ⟨g, 8, none⟩ = some (.int .i64 s.opn) ∧ W.cell? ⟨g, 9, none⟩ = some (.int .i64 s.began) ∧ W.cell? ⟨g, 10, none⟩ = some (.int .i64 s.tries) ∧
    W.cell? ⟨g, 11, none⟩ = some (.bool s.waits) ∧ W.cell? ⟨g, 12, none⟩ = some (.int .i64 s.at_) :=
  ⟨h.1.cell 1, h.1.cell 2, h.1.cell 3, h.1.cell 4, h.1.cell 5, h.1.cell 6, h.1.cell 7, h.1.cell 8, h.1.cell 9, h.1.cell 10, h.1.cell 11, h.1.cell 12⟩
theorem PolAt.frozen (h : PolAt W g gl cap c s) (i : Nat) : W.frozen? ⟨g, i, none⟩ = false := h.1.frozen i
theorem PolAt.frozen' (h : PolAt W g gl cap c s) (i : Nat) : W.frozen? ⟨gl, i, none⟩ = false := by
  obtain ⟨_, ⟨cur, h2, _⟩, _⟩ := h
  exact h2.frozen i
/-- A point's cells. -/
theorem PolAt.point (h : PolAt W g gl cap c s) {k : Nat} {x : PPt} (hx : s.l[k]? = some x) :
    W.cell? ⟨gl, k * 7, none⟩ = some (.int .i64 x.unit) ∧ W.cell? ⟨gl, k * 7 + 1, none⟩ = some (.int .i64 x.fn) ∧ W.cell? ⟨gl, k * 7 + 2, none⟩ = some (.int .i64 x.addr) ∧ W.cell? ⟨gl, k * 7 + 3, none⟩ = some (.int .i64 x.order) ∧
    W.cell? ⟨gl, k * 7 + 4, none⟩ = some (.int .i64 x.due) ∧ W.cell? ⟨gl, k * 7 + 5, none⟩ = some (.int .i64 x.fails) ∧ W.cell? ⟨gl, k * 7 + 6, none⟩ = some (.int .i64 x.turns) := by
  obtain ⟨_, ⟨cur, h2, h3⟩, _⟩ := h
  have q := fun j v hv => (h2.cell (k * 7 + j)).trans (h3 k x hx j v hv)
  exact ⟨q 0 _ rfl, q 1 _ rfl, q 2 _ rfl, q 3 _ rfl, q 4 _ rfl, q 5 _ rfl, q 6 _ rfl⟩
/-- The poller's own cells are stored. -/
theorem PolAt.put (h : PolAt W g gl cap c s) (i : Nat) (v : Value) (s' : PSt) (hl : s'.l = s.l) (hs : (polC c gl s.l.length cap s).setIfInBounds i v = polC c gl s.l.length cap s') : PolAt (W.setCell ⟨g, i, none⟩ v) g gl cap c s' := by
  have hne := h.ne
  obtain ⟨h1, ⟨cur, h2, h3⟩, h4, h5⟩ := h
  rw [PolAt, hl]
  exact ⟨by rw [← hs]; exact h1.set i v, ⟨cur, h2.far hne _, h3⟩, h4, h5⟩
/-- A point's cell is stored. -/
theorem PolAt.putPt (h : PolAt W g gl cap c s) {k : Nat} {x : PPt} (hx : s.l[k]? = some x) (j : Nat) (v : Value) (y : PPt) (hj : j < 7) (hy : y.cells = x.cells.set j v) : PolAt (W.setCell ⟨gl, k * 7 + j, none⟩ v) g gl cap c { s with l := s.l.set k y } := by
  have hne := h.ne
  obtain ⟨h1, ⟨cur, h2, h3⟩, h4, h5⟩ := h
  have hk : k < s.l.length := (List.getElem?_eq_some_iff.1 hx).1
  refine ⟨?_, ⟨cur.setIfInBounds (k * 7 + j) v, h2.set _ _, ?_⟩, by simpa using h4, h5⟩
  · have e : polC c gl (s.l.set k y).length cap { s with l := s.l.set k y } = polC c gl s.l.length cap s := by rw [List.length_set]; rfl
    show Held _ g _ (polC c gl (s.l.set k y).length cap { s with l := s.l.set k y })
    rw [e]
    exact h1.far (fun e => hne e.symm) _
  · intro m z hz i u hu
    have hlen : ∀ w : PPt, w.cells.length = 7 := fun _ => rfl
    have hi : i < 7 := by have := (List.getElem?_eq_some_iff.1 hu).1; rw [hlen] at this; exact this
    have hz : (s.l.set k y)[m]? = some z := hz
    by_cases hm : m = k
    · subst hm
      rw [List.getElem?_set_self hk] at hz
      cases hz
      rw [hy] at hu
      by_cases hij : i = j
      · subst hij
        have hold := h3 m x hx i (x.cells[i]'(by rw [hlen]; omega)) (List.getElem?_eq_getElem _)
        have hb : m * 7 + i < cur.size := (Array.getElem?_eq_some_iff.1 hold).1
        rw [List.getElem?_set_self (by rw [hlen]; omega)] at hu
        cases hu
        rw [Array.getElem?_setIfInBounds_self_of_lt hb]
      · rw [List.getElem?_set_ne (fun e => hij e.symm)] at hu
        rw [Array.getElem?_setIfInBounds_ne (by omega)]
        exact h3 m x hx i u hu
    · rw [List.getElem?_set_ne (fun e => hm e.symm)] at hz
      rw [Array.getElem?_setIfInBounds_ne (by omega)]
      exact h3 m z hz i u hu
end
theorem cell_set_ne (W : World) (b i j : Nat) (v : Value) (h : i ≠ j) : (W.setCell ⟨b, i, none⟩ v).cell? ⟨b, j, none⟩ = W.cell? ⟨b, j, none⟩ :=
  World.cell?_setCell_other _ _ _ _ (by intro e; injection e with e1 e2; exact h e2)
theorem cell_set_far (W : World) (b d i j : Nat) (v : Value) (h : b ≠ d) : (W.setCell ⟨b, i, none⟩ v).cell? ⟨d, j, none⟩ = W.cell? ⟨d, j, none⟩ :=
  World.cell?_setCell_other _ _ _ _ (by intro e; injection e with e1 e2; exact h e1)
theorem cell_drew' (W : World) (p : Addr) : W.drew.cell? p = W.cell? p := rfl
def PolPost (w : World) (g gl cap : Nat) (c : PCf) (s : PSt) (v : Value) (e : Ending) (w' : World) : Prop := e = .returned v ∧ PolAt w' g gl cap c s ∧ Bt g gl w w'
end Go.Proofs.YtcipleanckeoaaaDoor
