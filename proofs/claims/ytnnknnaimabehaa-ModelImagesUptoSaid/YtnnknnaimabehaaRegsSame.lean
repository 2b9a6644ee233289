/- kilowattref02.Same: two lists are the same. -/
import Derived.Test.YtnnknnaimabehaaRows
import Derived.Test.YtnnknnaimabehaaMem
import Derived.WalkKit
import Derived.WalkSpells
import Derived.WalkLawsBesides
import Derived.BigQuiet
import Derived.Deep.QuietTactic
import Derived.Lib.Hide
namespace Go.Proofs.Ytnnknnaimabehaa
open Go.RowKit
set_option maxRecDepth 100000

theorem take_eq_succ {xs ys : List Int} {k : Nat} {x y : Int} (h : xs.take k = ys.take k) (hx : xs[k]? = some x) (hy : ys[k]? = some y) (e : x = y) : xs.take (k + 1) = ys.take (k + 1) := by
  rw [List.take_add_one, List.take_add_one, h, hx, hy, e]

theorem same_any (A A' : Option Addr) (c c' : Nat) (xs ys : List Int) (w : World) (hA : RdI w w.heap.size .u16 A xs) (hA' : RdI w w.heap.size .u16 A' ys)
    (hl : xs.length ≤ maxLen) (hl' : ys.length ≤ maxLen) :
    Calls Try.prog 17 #[.slice A xs.length c, .slice A' ys.length c'] w fun e w' => e = .returned (.bool (decide (xs = ys))) ∧ ∃ n, w' = w.drewN n := by
  unfold maxLen at hl hl'
  by_cases hne : xs.length = ys.length
  · obtain ⟨n, hn⟩ : ∃ n, n = xs.length := ⟨_, rfl⟩
    rw [← hne] at hl' ⊢
    rw [← hn] at hl hl' ⊢
    have HN := Lib.hid hn
    have HE := Lib.hid hne
    have HA := Lib.hid hA
    have HA' := Lib.hid hA'
    clear hn hne hA hA'
    go_in
    go_wp2
    go_loopw [5] (fun i wr => ∃ j m : Nat, j ≤ n ∧ i = .int .i64 j ∧ xs.take j = ys.take j ∧ wr = w.drewN m) (fun i _ => n - (intOf i).toNat)
    case atStart => exact ⟨0, 0, Nat.zero_le _, rfl, by simp, rfl⟩
    case round =>
      obtain ⟨j, m, hj, rfl, ht, rfl⟩ := hrel
      have HT := Lib.hid ht
      clear ht
      by_cases hlt : j < n
      · obtain ⟨g, off, x, rfl, _, hx, hc⟩ := HA.out.at_ (i := j) (by have := HN.out; omega)
        obtain ⟨g', off', y, rfl, _, hy, hc'⟩ := HA'.out.at_ (i := j) (by have := HN.out; have := HE.out; omega)
        have HX := Lib.hid hx
        have HY := Lib.hid hy
        clear hx hy
        by_cases he : x = y
        · have HEQ := Lib.hid he
          have hb : (x != y) = false := by simpa using he
          clear he
          go_wp2
          go_quiet (fail)
          go_wp2
          go_roundw
          case rel => exact ⟨j + 1, _, by omega, by go_num, take_eq_succ HT.out HX.out HY.out HEQ.out, rfl⟩
          case measure => simp [intOf]; omega
        · have hb : (x != y) = true := by simpa using he
          go_wp2
          go_quiet (fail)
          go_wp2
          go_ret
          exact ⟨retb (by
            symm; simp only [decide_eq_false_iff_not]; intro e; apply he
            have h1 := HX.out; have h2 := HY.out
            rw [e, h2] at h1; injection h1 with h1; exact h1.symm), _, World.drewN_drewN _ _ _⟩
      · go_wp2
        go_ret
        refine ⟨retb ?_, _, rfl⟩
        symm
        obtain rfl : j = n := by omega
        have h1 := HT.out
        rw [List.take_of_length_le (by have := HN.out; omega), List.take_of_length_le (by have := HN.out; have := HE.out; omega)] at h1
        simpa using h1
  · have hb : ((xs.length : Int) != (ys.length : Int)) = true := by simp; omega
    have hb' : ((xs.length) != (ys.length)) = true := by simp; omega
    go_in
    go_wp2
    go_ret
    exact ⟨retb (by symm; simp only [decide_eq_false_iff_not]; intro e; exact hne (by rw [e])), 0, rfl⟩
end Go.Proofs.Ytnnknnaimabehaa
