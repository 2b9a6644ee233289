/- slices.Equal of registers; blocks' cells kept by their types. -/
import Derived.Test.YtnnknnaimabehaaDoorModBlock
import Derived.Test.YtnnknnaimabehaaDoorModSame
namespace Go.Proofs.YtnnknnaimabehaaDoor
open Go.RowKit
set_option linter.unusedVariables false
set_option maxRecDepth 100000
set_option maxHeartbeats 2000000 in
theorem eqw_any (A A' : Option Addr) (n n' c c' : Nat) (xs ys : List Int) (w : World) (hA : SlI w w.heap.size .u16 A n c xs) (hA' : SlI w w.heap.size .u16 A' n' c' ys) :
    Calls Tryd.prog 25 #[.slice A n c, .slice A' n' c'] w fun e w' => e = .returned (.bool (decide (xs = ys))) ∧ ∃ m, w' = w.drewN m := by
  have hl := hA.1
  have hl' := hA'.1
  have hm : n ≤ maxLen := Nat.le_trans hA.2.1 hA.2.2.1
  have hm' : n' ≤ maxLen := Nat.le_trans hA'.2.1 hA'.2.2.1
  unfold maxLen at hm hm'
  have HA := Lib.hid hA
  have HA' := Lib.hid hA'
  have HL := Lib.hid (And.intro hl hl')
  clear hA hA' hl hl'
  by_cases hne : n = n'
  · subst hne
    obtain ⟨r, hr⟩ : ∃ r, decide (xs = ys) = r := ⟨_, rfl⟩
    have HR := Lib.hid hr
    rw [hr]
    clear hr
    go_in
    go_wp2
    go_loopw [13] (fun i wr => ∃ j m : Nat, j ≤ n ∧ i = .int .i64 j ∧ xs.take j = ys.take j ∧ wr = w.drewN m) (fun i _ => n - (intOf i).toNat)
    case atStart => exact ⟨0, 0, Nat.zero_le _, rfl, by simp, rfl⟩
    case round =>
      obtain ⟨j, m, hj, rfl, ht, rfl⟩ := hrel
      have HT := Lib.hid ht
      clear ht
      by_cases hlt : j < n
      · obtain ⟨x, hx⟩ : ∃ x, xs[j]? = some x := ⟨_, List.getElem?_eq_getElem (by rw [HL.out.1]; exact hlt)⟩
        obtain ⟨y, hy⟩ : ∃ y, ys[j]? = some y := ⟨_, List.getElem?_eq_getElem (by rw [HL.out.2]; exact hlt)⟩
        obtain ⟨g, off, rfl, hg, hc⟩ := HA.out.2.2.2.2 (by rw [HL.out.1]; omega)
        obtain ⟨g', off', rfl, hg', hc'⟩ := HA'.out.2.2.2.2 (by rw [HL.out.2]; omega)
        have hcx := hc j x hx
        have hcy := hc' j y hy
        have HX := Lib.hid hx
        have HY := Lib.hid hy
        have hltI : (j : Int) < (n : Int) := by omega
        clear hc hc' hx hy
        by_cases he : x = y
        case neg =>
          have t1 : (x != y) = true := by simpa using he
          have h : r = false := by rw [← HR.out]; exact decide_eq_false (ne_at HX.out HY.out he)
          subst h
          clear he
          go_wp2
          go_quiet (fail)
          go_wp2
          go_ret
          exact ⟨rfl, m + nq, by first | rfl | rw [World.drewN_drewN]⟩
        subst he
        have t1 : (x != x) = false := by simp
        go_wp2
        go_quiet (fail)
        go_wp2
        go_roundw
        case rel => exact ⟨j + 1, m + nq, by omega, by go_num, take_next HT.out HX.out HY.out rfl, by first | rfl | rw [World.drewN_drewN]⟩
        case measure => simp [intOf]; omega
      · obtain rfl : j = n := by omega
        have h : r = true := by
          rw [← HR.out]
          have ht := HT.out
          rw [List.take_of_length_le (by rw [HL.out.1]; exact Nat.le_refl _), List.take_of_length_le (by rw [HL.out.2]; exact Nat.le_refl _)] at ht
          exact decide_eq_true ht
        subst h
        go_wp2
        go_ret
        exact ⟨rfl, m, rfl⟩
  · have h : decide (xs = ys) = false := decide_eq_false (fun h => hne (by rw [← HL.out.1, ← HL.out.2, h]))
    rw [h]
    have t1 : ((n : Int) != (n' : Int)) = true := by simp; omega
    clear h hne
    go_in
    go_wp2
    go_ret
    exact ⟨rfl, 0, rfl⟩
/-- The slices among these cells lie in blocks of points, or of values. -/
def CellsT (W : World) (cs : List Value) : Prop := ∀ A n c, Value.slice A n c ∈ cs → TyAt W 42 A ∨ TyAt W 46 A
/-- Where the cells' slices lie, all is as it was. -/
def SameAt (W W' : World) (cs : List Value) : Prop := ∀ A n c, Value.slice A n c ∈ cs → ∀ a, A = some a → W'.heap[a.block]? = W.heap[a.block]?
theorem CellsT.same {W W' : World} {cs : List Value} (h : CellsT W cs) (hk : SameAt W W' cs) : CellsT W' cs := fun A n c hm => (h A n c hm).elim (fun h => .inl (h.same (hk A n c hm))) (fun h => .inr (h.same (hk A n c hm)))
theorem BkC.same {W W' : World} {B B' : Nat} (hB : B ≤ B') : ∀ {bs : List BlkP} {cs : List Value}, BkC W B cs bs → SameAt W W' cs → BkC W' B' cs bs := by
  intro bs
  induction bs with
  | nil => intro cs h _; exact h
  | cons b r ih =>
    intro cs h hk
    obtain ⟨Ap, np, cp, Av, nv, cv, cs', rfl, h1, h2, h3, h4⟩ := h
    exact ⟨Ap, np, cp, Av, nv, cv, cs', rfl, h1.kept hB (hk Ap np cp (by simp)), h2.kept hB (hk Av nv cv (by simp)), h3, ih h4 (fun A n c hm => hk A n c (by simp [hm]))⟩
theorem CellsT.ne {W : World} {cs : List Value} {T : TypeId} {g : Nat} {fr : Nat × Nat} {cur : Array Value} (h : CellsT W cs) (hg : W.heap[g]? = some (.cells cur T fr)) (h1 : T ≠ 42) (h2 : T ≠ 46) : ∀ A n c, Value.slice A n c ∈ cs → ∀ a, A = some a → a.block ≠ g := by
  intro A n c hm a e hh
  rcases h A n c hm with h | h
  · obtain ⟨x, hx⟩ := h a e
    rw [hh, hg] at hx
    injection hx with hx
    injection hx with _ hx
    exact h1 hx
  · obtain ⟨x, hx⟩ := h a e
    rw [hh, hg] at hx
    injection hx with hx
    injection hx with _ hx
    exact h2 hx
theorem CellsT.lt {W : World} {cs : List Value} (h : CellsT W cs) : ∀ A n c, Value.slice A n c ∈ cs → ∀ a, A = some a → a.block < W.heap.size := by
  intro A n c hm a e
  rcases h A n c hm with h | h
  · obtain ⟨x, hx⟩ := h a e
    exact (Array.getElem?_eq_some_iff.1 hx).1
  · obtain ⟨x, hx⟩ := h a e
    exact (Array.getElem?_eq_some_iff.1 hx).1
theorem CellsT.below {W W' : World} {cs : List Value} (h : CellsT W cs) (hb : Below W.heap.size W W') : SameAt W W' cs := fun A n c hm a e => hb.block _ (h.lt A n c hm a e)
theorem CellsT.grown {W W' : World} {cs xs : List Value} {base size k : Nat} {T : TypeId} {v : Value} (h : CellsT W cs) (hr : W.ownsRow base T size v k xs) (h1 : T ≠ 42) (h2 : T ≠ 46) (hg : W.grownBy W' v.ownBlock) : SameAt W W' cs := fun A n c hm a e => by
  refine hg.block _ (h.lt A n c hm a e) ?_
  rcases hr.2 with ⟨rfl, _⟩ | ⟨g, _, cur, rfl, _, h4, _⟩
  · simp [Value.ownBlock]
  · intro h5
    have h6 : a.block = g := by simpa [Value.ownBlock] using h5
    exact h.ne h4 h1 h2 A n c hm a e h6
theorem CellsT.set {W : World} {cs : List Value} {T : TypeId} {g i : Nat} {cur : Array Value} (h : CellsT W cs) (hg : Held W g T cur) (h1 : T ≠ 42) (h2 : T ≠ 46) (v : Value) : SameAt W (W.setCell ⟨g, i, none⟩ v) cs := fun A n c hm a e =>
  Below.heap_setCell W ⟨g, i, none⟩ v a.block (h.ne hg h1 h2 A n c hm a e)
theorem SameAt.trans {W W' W'' : World} {cs : List Value} (h : SameAt W W' cs) (k : SameAt W' W'' cs) : SameAt W W'' cs := fun A n c hm a e => (k A n c hm a e).trans (h A n c hm a e)
end Go.Proofs.YtnnknnaimabehaaDoor
