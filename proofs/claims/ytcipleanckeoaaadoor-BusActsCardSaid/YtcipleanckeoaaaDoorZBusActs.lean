/- Slices of acts; whether one of them may not be (Play$1, IndexFunc, ContainsFunc). -/
import Derived.Test.YtcipleanckeoaaaDoorZBusOwn
import Derived.Test.YtcipleanckeoaaaDoorZBusPlayP
namespace Go.Proofs.YtcipleanckeoaaaDoor
open Go.RowKit
attribute [local go_sem] Oper.semAt_some
set_option linter.unusedVariables false
set_option linter.unusedSimpArgs false
set_option maxRecDepth 100000
def ActsI (w : World) (A : Option Addr) (n c : Nat) (l : List ActP) : Prop :=
 l.length = n ∧ n ≤ c ∧ c ≤ maxLen ∧ (A = none → n = 0 ∧ c = 0) ∧ (0 < n → ∃ g off, A = some ⟨g, off, none⟩ ∧ g < w.heap.size ∧ ∀ (i : Nat) (a : ActP), l[i]? = some a →
  ∃ Ar nr cr D nd cd, w.rangeAt g (off + i * 9) (a.cells Ar nr cr D nd cd).toList ∧ SlI w w.heap.size .u16 Ar nr cr a.regs ∧ SlI w w.heap.size .u8 D nd cd a.data)
theorem ActsI.up {w w' : World} {A : Option Addr} {n c : Nat} {l : List ActP} (h : ActsI w A n c l) (hb : Below w.heap.size w w') : ActsI w' A n c l := by
 obtain ⟨h1, h2, h3, h4, h5⟩ := h
 refine ⟨h1, h2, h3, h4, fun hn => ?_⟩
 obtain ⟨g, off, e, hg, hc⟩ := h5 hn
 refine ⟨g, off, e, Nat.lt_of_lt_of_le hg hb.size, fun i a ha => ?_⟩
 obtain ⟨Ar, nr, cr, D, nd, cd, k1, k2, k3⟩ := hc i a ha
 exact ⟨Ar, nr, cr, D, nd, cd, fun j v hv => (hb.cell (p := ⟨g, off + i * 9 + j, none⟩) hg).trans (k1 j v hv), k2.up hb, k3.up hb⟩
theorem ActsI.nil (w : World) : ActsI w none 0 0 [] := ⟨rfl, Nat.le_refl _, by simp [maxLen], fun _ => ⟨rfl, rfl⟩, fun h => absurd h (by omega)⟩
theorem all_take (l : List ActP) (j : Nat) (a : ActP) (h : l[j]? = some a) (p : ActP → Bool) : (l.take (j + 1)).all p = ((l.take j).all p && p a) := by
 rw [List.take_add_one, h, List.all_append]; simp
theorem act_cells {w : World} {g o : Nat} {a : ActP} {Ar : Option Addr} {nr cr : Nat} {D : Option Addr} {nd cd : Nat} (h : w.rangeAt g o (a.cells Ar nr cr D nd cd).toList) :
  w.cell? ⟨g, o, none⟩ = some (.int .i64 a.kind) ∧ w.cell? ⟨g, o + 1, none⟩ = some (.int .i64 a.wait) ∧ w.cell? ⟨g, o + 2, none⟩ = some (.int .i64 a.gap) ∧ w.cell? ⟨g, o + 3, none⟩ = some (.slice Ar nr cr) ∧ w.cell? ⟨g, o + 4, none⟩ = some (.int .i64 a.code) ∧
  w.cell? ⟨g, o + 5, none⟩ = some (.int .i64 a.n) ∧ w.cell? ⟨g, o + 6, none⟩ = some (.int .i64 a.unit) ∧ w.cell? ⟨g, o + 7, none⟩ = some (.int .u8 a.wth) ∧ w.cell? ⟨g, o + 8, none⟩ = some (.slice D nd cd) :=
 ⟨h 0 _ rfl, h 1 _ rfl, h 2 _ rfl, h 3 _ rfl, h 4 _ rfl, h 5 _ rfl, h 6 _ rfl, h 7 _ rfl, h 8 _ rfl⟩
end Go.Proofs.YtcipleanckeoaaaDoor
