/- Whether two lists are the same: slices.Equal, kilowattref19.bools and numbers. Printed by pduequal.py. -/
import Derived.Test.YtflbiichdjhaeaaDoorRows
import Derived.Test.YtflbiichdjhaeaaDoorPduPack
import Derived.WalkKit
import Derived.WalkSpells
import Derived.WalkLawsBesides
import Derived.BigQuiet
import Derived.Deep.QuietTactic
import Derived.Lib.Hide
namespace Go.Proofs.YtflbiichdjhaeaaDoor
open Go.RowKit

theorem take_eq_next {α : Type} {xs ys : List α} {k : Nat} {x y : α} (h : xs.take k = ys.take k) (hx : xs[k]? = some x) (hy : ys[k]? = some y) (e : x = y) : xs.take (k + 1) = ys.take (k + 1) := by
  rw [List.take_add_one, List.take_add_one, h, hx, hy, e]

theorem equal_bools (A A' : Option Addr) (n n' c c' : Nat) (xs ys : List Bool) (w : World) (hA : SlB w w.heap.size A n c xs) (hA' : SlB w w.heap.size A' n' c' ys) :
    Calls Tryd.prog 31 #[.slice A n c, .slice A' n' c'] w fun e w' => e = .returned (.bool (decide (xs = ys))) ∧ ∃ m, w' = w.drewN m := by
  obtain ⟨hn, hcap, hl, hNone, hA⟩ := hA
  obtain ⟨hn', hcap', hl', hNone', hA'⟩ := hA'
  unfold maxLen at hl hl'
  by_cases hne : n = n'
  · subst hne
    have HN := Lib.hid hn
    have HE := Lib.hid hn'
    have HA := Lib.hid hA
    have HA' := Lib.hid hA'
    clear hn hn' hA hA' hNone hNone'
    go_in
    go_wp2
    go_loopw [13] (fun i wr => ∃ j m : Nat, j ≤ n ∧ i = .int .i64 j ∧ xs.take j = ys.take j ∧ wr = w.drewN m) (fun i _ => n - (intOf i).toNat)
    case atStart => exact ⟨0, 0, Nat.zero_le _, rfl, by simp, rfl⟩
    case round =>
      obtain ⟨j, m, hj, rfl, ht, rfl⟩ := hrel
      have HT := Lib.hid ht
      clear ht
      by_cases hlt : j < n
      · obtain ⟨g, off, x, rfl, _, hx, hc⟩ := HA.out.at_ (i := j) (by have := HN.out; omega)
        obtain ⟨g', off', y, rfl, _, hy, hc'⟩ := HA'.out.at_ (i := j) (by have := HE.out; omega)
        have HX := Lib.hid hx
        have HY := Lib.hid hy
        clear hx hy
        by_cases he : x = y
        · have HEQ := Lib.hid he
          have hb : (x != y) = false := by simpa using he
          have hb2 : (!(x == y)) = false := hb
          clear he
          go_wp2
          go_quiet (fail)
          go_wp2
          go_roundw
          case rel => exact ⟨j + 1, _, by omega, by go_num, take_eq_next HT.out HX.out HY.out HEQ.out, rfl⟩
          case measure => simp [intOf]; omega
        · have hb : (x != y) = true := by simpa using he
          have HNE := Lib.hid he
          have hb2 : (!(x == y)) = true := hb
          clear he
          go_wp2
          go_quiet (fail)
          go_wp2
          go_ret
          exact ⟨retb (by
            symm; simp only [decide_eq_false_iff_not]; intro e; apply HNE.out
            have h1 := HX.out; have h2 := HY.out
            rw [e, h2] at h1; injection h1 with h1; exact h1.symm), _, World.drewN_drewN _ _ _⟩
      · go_wp2
        go_ret
        refine ⟨retb ?_, _, rfl⟩
        symm
        obtain rfl : j = n := by omega
        have h1 := HT.out
        rw [List.take_of_length_le (by have := HN.out; omega), List.take_of_length_le (by have := HE.out; omega)] at h1
        simpa using h1
  · have hb : ((n : Int) != (n' : Int)) = true := by simp; omega
    have hb' : (n != n') = true := by simp; omega
    go_in
    go_wp2
    go_ret
    exact ⟨retb (by symm; simp only [decide_eq_false_iff_not]; intro e; apply hne; rw [← hn, ← hn', e]), 0, rfl⟩

theorem equal_regs (A A' : Option Addr) (n n' c c' : Nat) (xs ys : List Int) (w : World) (hA : SlI w w.heap.size .u16 A n c xs) (hA' : SlI w w.heap.size .u16 A' n' c' ys) :
    Calls Tryd.prog 32 #[.slice A n c, .slice A' n' c'] w fun e w' => e = .returned (.bool (decide (xs = ys))) ∧ ∃ m, w' = w.drewN m := by
  obtain ⟨hn, hcap, hl, hNone, hA⟩ := hA
  obtain ⟨hn', hcap', hl', hNone', hA'⟩ := hA'
  unfold maxLen at hl hl'
  by_cases hne : n = n'
  · subst hne
    have HN := Lib.hid hn
    have HE := Lib.hid hn'
    have HA := Lib.hid hA
    have HA' := Lib.hid hA'
    clear hn hn' hA hA' hNone hNone'
    go_in
    go_wp2
    go_loopw [13] (fun i wr => ∃ j m : Nat, j ≤ n ∧ i = .int .i64 j ∧ xs.take j = ys.take j ∧ wr = w.drewN m) (fun i _ => n - (intOf i).toNat)
    case atStart => exact ⟨0, 0, Nat.zero_le _, rfl, by simp, rfl⟩
    case round =>
      obtain ⟨j, m, hj, rfl, ht, rfl⟩ := hrel
      have HT := Lib.hid ht
      clear ht
      by_cases hlt : j < n
      · obtain ⟨g, off, x, rfl, _, hx, hc⟩ := HA.out.at_ (i := j) (by have := HN.out; omega)
        obtain ⟨g', off', y, rfl, _, hy, hc'⟩ := HA'.out.at_ (i := j) (by have := HE.out; omega)
        have HX := Lib.hid hx
        have HY := Lib.hid hy
        clear hx hy
        by_cases he : x = y
        · have HEQ := Lib.hid he
          have hb : (x != y) = false := by simpa using he
          clear he
          go_wp2
          go_quiet (fail)
          go_wp2
          go_roundw
          case rel => exact ⟨j + 1, _, by omega, by go_num, take_eq_next HT.out HX.out HY.out HEQ.out, rfl⟩
          case measure => simp [intOf]; omega
        · have hb : (x != y) = true := by simpa using he
          have HNE := Lib.hid he
          clear he
          go_wp2
          go_quiet (fail)
          go_wp2
          go_ret
          exact ⟨retb (by
            symm; simp only [decide_eq_false_iff_not]; intro e; apply HNE.out
            have h1 := HX.out; have h2 := HY.out
            rw [e, h2] at h1; injection h1 with h1; exact h1.symm), _, World.drewN_drewN _ _ _⟩
      · go_wp2
        go_ret
        refine ⟨retb ?_, _, rfl⟩
        symm
        obtain rfl : j = n := by omega
        have h1 := HT.out
        rw [List.take_of_length_le (by have := HN.out; omega), List.take_of_length_le (by have := HE.out; omega)] at h1
        simpa using h1
  · have hb : ((n : Int) != (n' : Int)) = true := by simp; omega
    have hb' : (n != n') = true := by simp; omega
    go_in
    go_wp2
    go_ret
    exact ⟨retb (by symm; simp only [decide_eq_false_iff_not]; intro e; apply hne; rw [← hn, ← hn', e]), 0, rfl⟩

theorem bools_ref (A A' : Option Addr) (n n' c c' : Nat) (xs ys : List Bool) (w : World) (hA : SlB w w.heap.size A n c xs) (hA' : SlB w w.heap.size A' n' c' ys) :
    Calls Tryd.prog 41 #[.slice A n c, .slice A' n' c'] w fun e w' => e = .returned (.bool (decide (xs = ys))) ∧ ∃ m, w' = w.drewN m := by
  obtain ⟨hn, hcap, hl, hNone, hA⟩ := hA
  obtain ⟨hn', hcap', hl', hNone', hA'⟩ := hA'
  unfold maxLen at hl hl'
  by_cases hne : n = n'
  · subst hne
    have HN := Lib.hid hn
    have HE := Lib.hid hn'
    have HA := Lib.hid hA
    have HA' := Lib.hid hA'
    clear hn hn' hA hA' hNone hNone'
    go_in
    go_wp2
    go_loopw [5] (fun i wr => ∃ j m : Nat, j ≤ n ∧ i = .int .i64 j ∧ xs.take j = ys.take j ∧ wr = w.drewN m) (fun i _ => n - (intOf i).toNat)
    case atStart => exact ⟨0, 0, Nat.zero_le _, rfl, by simp, rfl⟩
    case round =>
      obtain ⟨j, m, hj, rfl, ht, rfl⟩ := hrel
      have HT := Lib.hid ht
      clear ht
      by_cases hlt : j < n
      · obtain ⟨g, off, x, rfl, _, hx, hc⟩ := HA.out.at_ (i := j) (by have := HN.out; omega)
        obtain ⟨g', off', y, rfl, _, hy, hc'⟩ := HA'.out.at_ (i := j) (by have := HE.out; omega)
        have HX := Lib.hid hx
        have HY := Lib.hid hy
        clear hx hy
        by_cases he : x = y
        · have HEQ := Lib.hid he
          have hb : (x != y) = false := by simpa using he
          have hb2 : (!(x == y)) = false := hb
          clear he
          go_wp2
          go_quiet (fail)
          go_wp2
          go_roundw
          case rel => exact ⟨j + 1, _, by omega, by go_num, take_eq_next HT.out HX.out HY.out HEQ.out, rfl⟩
          case measure => simp [intOf]; omega
        · have hb : (x != y) = true := by simpa using he
          have HNE := Lib.hid he
          have hb2 : (!(x == y)) = true := hb
          clear he
          go_wp2
          go_quiet (fail)
          go_wp2
          go_ret
          exact ⟨retb (by
            symm; simp only [decide_eq_false_iff_not]; intro e; apply HNE.out
            have h1 := HX.out; have h2 := HY.out
            rw [e, h2] at h1; injection h1 with h1; exact h1.symm), _, World.drewN_drewN _ _ _⟩
      · go_wp2
        go_ret
        refine ⟨retb ?_, _, rfl⟩
        symm
        obtain rfl : j = n := by omega
        have h1 := HT.out
        rw [List.take_of_length_le (by have := HN.out; omega), List.take_of_length_le (by have := HE.out; omega)] at h1
        simpa using h1
  · have hb : ((n : Int) != (n' : Int)) = true := by simp; omega
    have hb' : (n != n') = true := by simp; omega
    go_in
    go_wp2
    go_ret
    exact ⟨retb (by symm; simp only [decide_eq_false_iff_not]; intro e; apply hne; rw [← hn, ← hn', e]), 0, rfl⟩

theorem numbers_ref (A A' : Option Addr) (n n' c c' : Nat) (xs ys : List Int) (w : World) (hA : SlI w w.heap.size .u16 A n c xs) (hA' : SlI w w.heap.size .u16 A' n' c' ys) :
    Calls Tryd.prog 42 #[.slice A n c, .slice A' n' c'] w fun e w' => e = .returned (.bool (decide (xs = ys))) ∧ ∃ m, w' = w.drewN m := by
  obtain ⟨hn, hcap, hl, hNone, hA⟩ := hA
  obtain ⟨hn', hcap', hl', hNone', hA'⟩ := hA'
  unfold maxLen at hl hl'
  by_cases hne : n = n'
  · subst hne
    have HN := Lib.hid hn
    have HE := Lib.hid hn'
    have HA := Lib.hid hA
    have HA' := Lib.hid hA'
    clear hn hn' hA hA' hNone hNone'
    go_in
    go_wp2
    go_loopw [5] (fun i wr => ∃ j m : Nat, j ≤ n ∧ i = .int .i64 j ∧ xs.take j = ys.take j ∧ wr = w.drewN m) (fun i _ => n - (intOf i).toNat)
    case atStart => exact ⟨0, 0, Nat.zero_le _, rfl, by simp, rfl⟩
    case round =>
      obtain ⟨j, m, hj, rfl, ht, rfl⟩ := hrel
      have HT := Lib.hid ht
      clear ht
      by_cases hlt : j < n
      · obtain ⟨g, off, x, rfl, _, hx, hc⟩ := HA.out.at_ (i := j) (by have := HN.out; omega)
        obtain ⟨g', off', y, rfl, _, hy, hc'⟩ := HA'.out.at_ (i := j) (by have := HE.out; omega)
        have HX := Lib.hid hx
        have HY := Lib.hid hy
        clear hx hy
        by_cases he : x = y
        · have HEQ := Lib.hid he
          have hb : (x != y) = false := by simpa using he
          clear he
          go_wp2
          go_quiet (fail)
          go_wp2
          go_roundw
          case rel => exact ⟨j + 1, _, by omega, by go_num, take_eq_next HT.out HX.out HY.out HEQ.out, rfl⟩
          case measure => simp [intOf]; omega
        · have hb : (x != y) = true := by simpa using he
          have HNE := Lib.hid he
          clear he
          go_wp2
          go_quiet (fail)
          go_wp2
          go_ret
          exact ⟨retb (by
            symm; simp only [decide_eq_false_iff_not]; intro e; apply HNE.out
            have h1 := HX.out; have h2 := HY.out
            rw [e, h2] at h1; injection h1 with h1; exact h1.symm), _, World.drewN_drewN _ _ _⟩
      · go_wp2
        go_ret
        refine ⟨retb ?_, _, rfl⟩
        symm
        obtain rfl : j = n := by omega
        have h1 := HT.out
        rw [List.take_of_length_le (by have := HN.out; omega), List.take_of_length_le (by have := HE.out; omega)] at h1
        simpa using h1
  · have hb : ((n : Int) != (n' : Int)) = true := by simp; omega
    have hb' : (n != n') = true := by simp; omega
    go_in
    go_wp2
    go_ret
    exact ⟨retb (by symm; simp only [decide_eq_false_iff_not]; intro e; apply hne; rw [← hn, ← hn', e]), 0, rfl⟩
end Go.Proofs.YtflbiichdjhaeaaDoor
