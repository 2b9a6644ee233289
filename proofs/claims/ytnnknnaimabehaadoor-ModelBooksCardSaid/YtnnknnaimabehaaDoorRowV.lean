/- Slices of structs that read as lists of cells. No program in sight. -/
import Derived.Test.YtnnknnaimabehaaDoorMemB
import Derived.Maps.AppendAt
namespace Go.Proofs.YtnnknnaimabehaaDoor
open Go.RowKit
set_option linter.unusedVariables false
/-- The slice value at address A reads as the cells cs, below block B. -/
def RdV (w : World) (B : Nat) (A : Option Addr) (cs : List Value) : Prop :=
  0 < cs.length → ∃ g off, A = some ⟨g, off, none⟩ ∧ g < B ∧ ∀ i x, cs[i]? = some x → w.cell? ⟨g, off + i, none⟩ = some x
/-- A slice of structs of so many cells, whole. -/
def SlV (w : World) (B : Nat) (A : Option Addr) (n c size : Nat) (cs : List Value) : Prop :=
  cs.length = n * size ∧ n ≤ c ∧ c ≤ maxLen ∧ (A = none → n = 0 ∧ c = 0) ∧ RdV w B A cs
theorem RdV.up {w w' : World} {A : Option Addr} {cs : List Value} (h : RdV w w.heap.size A cs) (hb : Below w.heap.size w w') : RdV w' w'.heap.size A cs := fun hn => by
  obtain ⟨g, off, e, hg, hc⟩ := h hn
  exact ⟨g, off, e, Nat.lt_of_lt_of_le hg hb.size, fun i x hx => (hb.cell (p := ⟨g, off + i, none⟩) hg).trans (hc i x hx)⟩
theorem SlV.up {w w' : World} {A : Option Addr} {n c s : Nat} {cs : List Value} (h : SlV w w.heap.size A n c s cs) (hb : Below w.heap.size w w') : SlV w' w'.heap.size A n c s cs :=
  ⟨h.1, h.2.1, h.2.2.1, h.2.2.2.1, h.2.2.2.2.up hb⟩
theorem RdV.of_own {w : World} {base size : Nat} {e : TypeId} {A : Option Addr} {c n : Nat} {cs : List Value} (hs : 0 < size) (h : w.ownsRow base e size (.slice A n c) n cs) : RdV w w.heap.size A cs := fun hn => by
  have hl := h.1
  rcases h.2 with ⟨hv, h0⟩ | ⟨g, cap, cur, hv, _, hg, _⟩
  · subst h0; omega
  · injection hv with hA
    subst hA
    refine ⟨g, 0, rfl, (Array.getElem?_eq_some_iff.1 hg).1, fun i x hx => ?_⟩
    have := h.cells (g := g) rfl i x hx
    rw [Nat.zero_add]
    rw [← this]
    unfold Addr.add
    split
    · rename_i h0; subst h0; rfl
    · simp
theorem SlV.of_own {w : World} {base size : Nat} {e : TypeId} {v : Value} {n : Nat} {cs : List Value} (hs : 0 < size) (h : w.ownsRow base e size v n cs) :
    ∃ A c, v = .slice A n c ∧ SlV w w.heap.size A n c size cs := by
  have hl := h.1
  rcases h.2 with ⟨rfl, rfl⟩ | ⟨g, cap, cur, rfl, hb, hh, h1, h2, r⟩
  · exact ⟨none, 0, rfl, hl, Nat.le_refl _, by simp [maxLen], fun _ => ⟨rfl, rfl⟩, by rw [List.length_eq_zero_iff.1 (hl.trans (Nat.zero_mul _))]; exact fun h => absurd h (by simp)⟩
  · exact ⟨_, cap, rfl, hl, h1, h2, (fun e => by cases e), RdV.of_own hs h⟩
theorem news_v {w : World} {B : Nat} {a : Addr} {cs : List Value} (h : RdV w B (some a) cs) : ∀ j u, cs[j]? = some u → w.cell? (a.add j) = some u := by
  intro j u hu
  obtain ⟨g, off, e, _, hc⟩ := h (by have := (List.getElem?_eq_some_iff.1 hu).1; omega)
  injection e with e
  subst e
  rw [← hc j u hu]
  unfold Addr.add
  split
  · rename_i h0; subst h0; rfl
  · rfl
/-- A literal of structs, just made. -/
theorem SlV.of_lit {w : World} {T : TypeId} {cs : Array Value} {n size : Nat} {xs : List Value} (h : cs.toList = xs) (hn : xs.length = n * size) (hm : n ≤ 1000000) :
    SlV (w.alloc (.cells cs T)) (w.alloc (.cells cs T)).heap.size (some ⟨w.heap.size, 0, none⟩) n n size xs :=
  ⟨hn, Nat.le_refl _, by unfold maxLen; omega, (fun e => by cases e), fun _ => ⟨_, 0, rfl, by simp, fun i x hx => by
    rw [Nat.zero_add, cell_of_row _ w.heap.size i cs T (0, 0) (heap_alloc_new w _), ← hx, ← h]
    simp⟩⟩
/-- append(own row of structs, a slice of structs...) -/
theorem wpList_append_slv {P : Program} (w : World) {ops : Array Oper} {rest : List Oper} {o : Oper} {a : Act} {Q : Exit → Act → World → Prop} (hgd : o.guard = none) (s x : Operand) (t : TypeId)
    (ho : o.op = .call { callee := .builtin .append, args := #[s, x], argTypes := #[t, t] })
    (base : Nat) (e : TypeId) (i : TypeInfo) (z : Value) (size bytes : Nat) (ht : P.underlying t = some (.slice e)) (hi : P.info? e = some i) (hz : i.zero = some z)
    (hsize : i.size = size) (hby : i.bytes = bytes) (hzs : z.cells.size = size) (hsz : 0 < size)
    (v : Value) (n : Nat) (xs : List Value) (hs : a.eval s = v) (hown : w.ownsRow base e size v n xs)
    (B : Nat) (A : Option Addr) (m c : Nat) (ys : List Value) (hx : a.eval x = .slice A m c) (hr : SlV w B A m c size ys) (h1 : ∀ u ∈ ys, u.oneCell' = true)
    (h63 : n + m ≤ maxLen) (hbytes : (n + m) * bytes ≤ 140737488355328) (hbase : base ≤ w.heap.size)
    (h : ∀ v' w', w'.ownsRow base e size v' (n + m) (xs ++ ys) → w.grownBy w' v.ownBlock → (v'.ownBlock = v.ownBlock ∨ v'.ownBlock = some w.heap.size) → wpList P ops Q rest (a.put o.dst v') w') : wpList P ops Q (o :: rest) a w := by
  obtain ⟨hl, hmc, _, hnone, hrd⟩ := hr
  cases A with
  | none =>
    obtain ⟨rfl, rfl⟩ := hnone rfl
    obtain rfl := List.length_eq_zero_iff.1 (hl.trans (Nat.zero_mul _))
    exact wpList_append_own_none hgd s x t ho base e i size ht hi v n xs hs hown hx (h v w (by simpa using hown) (World.grownBy.refl _ _) (.inl rfl))
  | some ad =>
    refine wpList_append_own_at w hgd s x t ho base e i z size bytes ht hi hz hsize hby hzs hsz v n xs hs hown ad m c ys hx hl (news_v hrd) h1 h63 hbytes hbase ?_
    intro v' w' h1 h2 _ h4
    exact h v' w' h1 h2 h4
end Go.Proofs.YtnnknnaimabehaaDoor
