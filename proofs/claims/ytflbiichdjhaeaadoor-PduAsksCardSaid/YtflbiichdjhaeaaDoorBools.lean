/- Slices of booleans that read as lists. No program in sight. -/
import Derived.Test.YtflbiichdjhaeaaDoorMemB
namespace Go.Proofs.YtflbiichdjhaeaaDoor
open Go.RowKit

def RdB (w : World) (B : Nat) (A : Option Addr) (xs : List Bool) : Prop :=
  0 < xs.length → ∃ g off, A = some ⟨g, off, none⟩ ∧ g < B ∧ ∀ i x, xs[i]? = some x → w.cell? ⟨g, off + i, none⟩ = some (.bool x)
section
variable {w w' : World} {B B' : Nat} {A : Option Addr} {xs : List Bool}
theorem RdB.nil : RdB w B A [] := fun h => absurd h (by simp)
theorem RdB.keep (h : RdB w B A xs) (hk : ∀ p : Addr, p.block < B → w'.cell? p = w.cell? p) : RdB w' B A xs := fun hn => by
  obtain ⟨g, off, e, hb, hc⟩ := h hn
  exact ⟨g, off, e, hb, fun i x hx => (hk _ hb).trans (hc i x hx)⟩
theorem RdB.more (h : RdB w B A xs) (hB : B ≤ B') : RdB w B' A xs := fun hn => by
  obtain ⟨g, off, e, hb, hc⟩ := h hn
  exact ⟨g, off, e, by omega, hc⟩
theorem RdB.below (h : RdB w B A xs) (hb : Below B w w') : RdB w' B A xs := h.keep fun _ hp => hb.cell hp
theorem RdB.up (h : RdB w w.heap.size A xs) (hb : Below w.heap.size w w') : RdB w' w'.heap.size A xs := (h.below hb).more hb.size
theorem RdB.of_own {base : Nat} {e : TypeId} {c n : Nat} (h : w.ownsRow base e 1 (.slice A n c) n (xs.map Value.bool)) : RdB w w.heap.size A xs := fun hn => by
  have hl := h.1
  simp only [List.length_map, Nat.mul_one] at hl
  rcases h.2 with ⟨hv, h0⟩ | ⟨g, cap, cur, hv, _, hg, _⟩
  · omega
  · injection hv with hA
    subst hA
    refine ⟨g, 0, rfl, (Array.getElem?_eq_some_iff.1 hg).1, fun i x hx => ?_⟩
    have := h.cells (g := g) rfl i (.bool x) (by simp [hx])
    rw [Nat.zero_add]
    rw [← this]
    unfold Addr.add
    split
    · rename_i h0; subst h0; rfl
    · simp
end
/-- A slice of booleans, whole. -/
def SlB (w : World) (B : Nat) (A : Option Addr) (n c : Nat) (xs : List Bool) : Prop :=
  xs.length = n ∧ n ≤ c ∧ c ≤ maxLen ∧ (A = none → n = 0 ∧ c = 0) ∧ RdB w B A xs
theorem SlB.nil (w : World) (B : Nat) : SlB w B none 0 0 [] := ⟨rfl, by omega, by simp [maxLen], fun _ => ⟨rfl, rfl⟩, RdB.nil⟩
theorem SlB.up {w w' : World} {A : Option Addr} {n c : Nat} {xs : List Bool} (h : SlB w w.heap.size A n c xs) (hb : Below w.heap.size w w') : SlB w' w'.heap.size A n c xs :=
  ⟨h.1, h.2.1, h.2.2.1, h.2.2.2.1, h.2.2.2.2.up hb⟩
theorem SlB.alloc {w : World} {A : Option Addr} {n c : Nat} {xs : List Bool} (h : SlB w w.heap.size A n c xs) (o : Obj) : SlB (w.alloc o) (w.alloc o).heap.size A n c xs := h.up ((Below.refl _ _).alloc (Nat.le_refl _) _)
theorem SlB.some_ {w : World} {B : Nat} {A : Option Addr} {n c : Nat} {xs : List Bool} (h : SlB w B A n c xs) (hn : 0 < n) : ∃ g off, A = some ⟨g, off, none⟩ ∧ g < B := by
  obtain ⟨g, off, e, hb, _⟩ := h.2.2.2.2 (by rw [h.1]; exact hn)
  exact ⟨g, off, e, hb⟩
theorem SlB.of_own {w : World} {base : Nat} {e : TypeId} {v : Value} {n : Nat} {xs : List Bool} (h : w.ownsRow base e 1 v n (xs.map Value.bool)) :
    ∃ A c, v = .slice A n c ∧ SlB w w.heap.size A n c xs := by
  have hl : xs.length = n := by have := h.1; simpa using this
  rcases h.2 with ⟨rfl, rfl⟩ | ⟨g, cap, cur, rfl, hb, hh, h1, h2, r⟩
  · exact ⟨none, 0, rfl, by omega, by omega, by simp [maxLen], fun _ => ⟨rfl, rfl⟩, by rw [List.length_eq_zero_iff.1 hl]; exact RdB.nil⟩
  · exact ⟨_, cap, rfl, hl, h1, h2, (fun e => by cases e), RdB.of_own h⟩
/-- A slice that came in, as the row's opening tells it. -/
theorem SlB.of_row {w : World} {a : Addr} {len cap : Nat} {zs : List Bool} (hl : len ≤ cap) (hm : cap ≤ maxLen) (hz : zs.length = cap) (hc : ∀ i, i < zs.length → w.cell? (a.add i) = some (.bool (zs.getD i false))) :
    SlB w w.heap.size (some a) len cap (zs.take len) := by
  refine ⟨by simp; omega, hl, hm, (fun e => by cases e), fun hn => ?_⟩
  simp only [List.length_take] at hn
  obtain ⟨g, off, spot⟩ := a
  have h0 := hc 0 (by omega)
  have hs : spot = none := by simpa [Addr.add] using World.cell?_spot h0
  subst hs
  refine ⟨g, off, rfl, ?_, fun i x hx => ?_⟩
  · have := World.block_lt_of_cell? w _ h0
    simpa [Addr.add] using this
  · rw [List.getElem?_take] at hx
    split at hx
    · have hi : i < zs.length := (List.getElem?_eq_some_iff.1 hx).1
      have := hc i hi
      rw [List.getD, hx] at this
      rw [← show (some x).getD false = x from rfl, ← this]
      unfold Addr.add
      split
      · rename_i h0; subst h0; rfl
      · rfl
    · cases hx
end Go.Proofs.YtflbiichdjhaeaaDoor
