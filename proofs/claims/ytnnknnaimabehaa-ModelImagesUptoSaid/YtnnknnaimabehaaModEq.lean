/- slices.Equal of points, and of values. -/
import Derived.Test.YtnnknnaimabehaaModImg
import Derived.Deep.QuietTactic
import Derived.BigQuiet
namespace Go.Proofs.Ytnnknnaimabehaa
open Go.RowKit
set_option linter.unusedVariables false
set_option maxRecDepth 100000
theorem take_next {α : Type} {xs ys : List α} {k : Nat} {x y : α} (h : xs.take k = ys.take k) (hx : xs[k]? = some x) (hy : ys[k]? = some y) (e : x = y) : xs.take (k + 1) = ys.take (k + 1) := by
  rw [List.take_add_one, List.take_add_one, h, hx, hy, e]
theorem ne_at {α : Type} {xs ys : List α} {k : Nat} {x y : α} (hx : xs[k]? = some x) (hy : ys[k]? = some y) (e : x ≠ y) : xs ≠ ys := fun h => by
  rw [h, hy] at hx
  exact e (Option.some.inj hx).symm
theorem bytes_ext {a b : ByteArray} (h : a.toList = b.toList) : a = b := by
  rw [ByteArray.toList_eq, ByteArray.toList_eq] at h
  cases a
  cases b
  simpa using h
theorem pt_in (w : World) (n : Nat) (a b a' b' : Int) : (Op.equalIn (n + 2) 62 (.agg #[.int .i64 a, .int .i64 b]) (.agg #[.int .i64 a', .int .i64 b'])).run Try.prog w = .ok (a == a' && b == b') w := by
  rw [run_equalIn_struct w _ _ _ _ (by kernel_rfl) (by kernel_rfl)]
  have ei := fun (d : Nat) (x y : Int) (w : World) => run_equalIn_int (P := Try.prog) w d 3 .i64 .i64 x y Try.underlying3
  simp only [Program.fieldsOf, Try.underlying62, Op.eqFields, part, isAgg]
  cases h1 : a == a' <;> cases h2 : b == b' <;> simp [go_sem, ei, h1, h2]
theorem pt_ne (w : World) (a b a' b' : Int) : (binOp .neq 62 (.agg #[.int .i64 a, .int .i64 b]) (.agg #[.int .i64 a', .int .i64 b'])).run Try.prog w = .ok (.bool (!(a == a' && b == b'))) w := by
  rw [run_neq_struct, pt_in w 9998]
  rfl
theorem pt_guard (w : World) (x y : Operand) (xs ys : Array Value) : (eqGuard .neq 62 x y (.agg xs) (.agg ys)).run Try.prog w = .ok () w := run_eqGuard_agg w .neq 62 x y xs ys (by kernel_rfl)
set_option maxHeartbeats 2000000 in
theorem eqpts_any (A A' : Option Addr) (n n' c c' : Nat) (xs ys : List PtP) (w : World) (hA : PtI w w.heap.size A n c xs) (hA' : PtI w w.heap.size A' n' c' ys) :
    Calls Try.prog 31 #[.slice A n c, .slice A' n' c'] w fun e w' => e = .returned (.bool (decide (xs = ys))) ∧ ∃ m, w' = w.drewN m := by
  have hl := hA.1
  have hl' := hA'.1
  have hm : n ≤ maxLen := Nat.le_trans hA.2.1 hA.2.2.1
  have hm' : n' ≤ maxLen := Nat.le_trans hA'.2.1 hA'.2.2.1
  unfold maxLen at hm hm'
  have HA := Lib.hid hA
  have HA' := Lib.hid hA'
  have HL := Lib.hid (And.intro hl hl')
  clear hA hA' hl hl'
  by_cases hne : n = n'
  · subst hne
    obtain ⟨r, hr⟩ : ∃ r, decide (xs = ys) = r := ⟨_, rfl⟩
    have HR := Lib.hid hr
    rw [hr]
    clear hr
    have hvn := pt_ne
    have hvg := pt_guard
    go_in
    go_wp2
    go_loopw [13] (fun i wr => ∃ j m : Nat, j ≤ n ∧ i = .int .i64 j ∧ xs.take j = ys.take j ∧ wr = w.drewN m) (fun i _ => n - (intOf i).toNat)
    case atStart => exact ⟨0, 0, Nat.zero_le _, rfl, by simp, rfl⟩
    case round =>
      obtain ⟨j, m, hj, rfl, ht, rfl⟩ := hrel
      have HT := Lib.hid ht
      clear ht
      by_cases hlt : j < n
      · obtain ⟨x, hx⟩ : ∃ x, xs[j]? = some x := ⟨_, List.getElem?_eq_getElem (by rw [HL.out.1]; exact hlt)⟩
        obtain ⟨y, hy⟩ : ∃ y, ys[j]? = some y := ⟨_, List.getElem?_eq_getElem (by rw [HL.out.2]; exact hlt)⟩
        obtain ⟨g, off, rfl, hg, hc⟩ := HA.out.2.2.2.2 (by omega)
        obtain ⟨g', off', rfl, hg', hc'⟩ := HA'.out.2.2.2.2 (by omega)
        have hcx := hc j x hx
        have hcy := hc' j y hy
        have HX := Lib.hid hx
        have HY := Lib.hid hy
        clear hc hc' hx hy
        obtain ⟨a0, b0⟩ := x
        obtain ⟨a1, b1⟩ := y
        dsimp only at hcx hcy
        obtain ⟨x0, x1⟩ := hcx
        obtain ⟨y0, y1⟩ := hcy
        have hltI : (j : Int) < (n : Int) := by omega
        by_cases he : a0 = a1
        case neg =>
          have t1 : (a0 == a1) = false := by simpa using he
          have h : r = false := by rw [← HR.out]; exact decide_eq_false (ne_at HX.out HY.out (fun h => he (by injection h)))
          subst h
          clear he
          go_wp2
          go_quiet (fail)
          go_wp2
          go_ret
          exact ⟨rfl, m + nq, by first | rfl | rw [World.drewN_drewN]⟩
        subst he
        by_cases he : b0 = b1
        case neg =>
          have t1 : (b0 == b1) = false := by simpa using he
          have h : r = false := by rw [← HR.out]; exact decide_eq_false (ne_at HX.out HY.out (fun h => he (by injection h)))
          subst h
          clear he
          go_wp2
          go_quiet (fail)
          go_wp2
          go_ret
          exact ⟨rfl, m + nq, by first | rfl | rw [World.drewN_drewN]⟩
        subst he
        go_wp2
        go_quiet (fail)
        go_wp2
        go_roundw
        case rel => exact ⟨j + 1, m + nq, by omega, by go_num, take_next HT.out HX.out HY.out rfl, by first | rfl | rw [World.drewN_drewN]⟩
        case measure => simp [intOf]; omega
      · obtain rfl : j = n := by omega
        have h : r = true := by
          rw [← HR.out]
          have ht := HT.out
          rw [List.take_of_length_le (by rw [HL.out.1]; exact Nat.le_refl _), List.take_of_length_le (by rw [HL.out.2]; exact Nat.le_refl _)] at ht
          exact decide_eq_true ht
        subst h
        go_wp2
        go_ret
        exact ⟨rfl, m, rfl⟩
  · have h : decide (xs = ys) = false := decide_eq_false (fun h => hne (by rw [← HL.out.1, ← HL.out.2, h]))
    rw [h]
    have t1 : ((n : Int) != (n' : Int)) = true := by simp; omega
    clear h hne
    go_in
    go_wp2
    go_ret
    exact ⟨rfl, 0, rfl⟩
set_option maxHeartbeats 2000000 in
theorem eqvals_any (A A' : Option Addr) (n n' c c' : Nat) (xs ys : List ValP) (w : World) (hA : VlI w w.heap.size A n c xs) (hA' : VlI w w.heap.size A' n' c' ys) :
    Calls Try.prog 32 #[.slice A n c, .slice A' n' c'] w fun e w' => e = .returned (.bool (decide (xs = ys))) ∧ ∃ m, w' = w.drewN m := by
  have hl := hA.1
  have hl' := hA'.1
  have hm : n ≤ maxLen := Nat.le_trans hA.2.1 hA.2.2.1
  have hm' : n' ≤ maxLen := Nat.le_trans hA'.2.1 hA'.2.2.1
  unfold maxLen at hm hm'
  have HA := Lib.hid hA
  have HA' := Lib.hid hA'
  have HL := Lib.hid (And.intro hl hl')
  clear hA hA' hl hl'
  by_cases hne : n = n'
  · subst hne
    obtain ⟨r, hr⟩ : ∃ r, decide (xs = ys) = r := ⟨_, rfl⟩
    have HR := Lib.hid hr
    rw [hr]
    clear hr
    have hvn := val_ne
    have hvg := val_guard
    go_in
    go_wp2
    go_loopw [13] (fun i wr => ∃ j m : Nat, j ≤ n ∧ i = .int .i64 j ∧ xs.take j = ys.take j ∧ wr = w.drewN m) (fun i _ => n - (intOf i).toNat)
    case atStart => exact ⟨0, 0, Nat.zero_le _, rfl, by simp, rfl⟩
    case round =>
      obtain ⟨j, m, hj, rfl, ht, rfl⟩ := hrel
      have HT := Lib.hid ht
      clear ht
      by_cases hlt : j < n
      · obtain ⟨x, hx⟩ : ∃ x, xs[j]? = some x := ⟨_, List.getElem?_eq_getElem (by rw [HL.out.1]; exact hlt)⟩
        obtain ⟨y, hy⟩ : ∃ y, ys[j]? = some y := ⟨_, List.getElem?_eq_getElem (by rw [HL.out.2]; exact hlt)⟩
        obtain ⟨g, off, rfl, hg, hc⟩ := HA.out.2.2.2.2 (by omega)
        obtain ⟨g', off', rfl, hg', hc'⟩ := HA'.out.2.2.2.2 (by omega)
        have hcx := hc j x hx
        have hcy := hc' j y hy
        have HX := Lib.hid hx
        have HY := Lib.hid hy
        clear hc hc' hx hy
        obtain ⟨a0, b0, s0⟩ := x
        obtain ⟨a1, b1, s1⟩ := y
        dsimp only at hcx hcy
        obtain ⟨x0, x1, x2⟩ := hcx
        obtain ⟨y0, y1, y2⟩ := hcy
        have hltI : (j : Int) < (n : Int) := by omega
        by_cases he : a0 = a1
        case neg =>
          have t1 : (a0 == a1) = false := by simpa using he
          have h : r = false := by rw [← HR.out]; exact decide_eq_false (ne_at HX.out HY.out (fun h => he (by injection h)))
          subst h
          clear he
          go_wp2
          go_quiet (fail)
          go_wp2
          go_ret
          exact ⟨rfl, m + nq, by first | rfl | rw [World.drewN_drewN]⟩
        subst he
        by_cases he : b0 = b1
        case neg =>
          have t1 : (b0 == b1) = false := by simpa using he
          have h : r = false := by rw [← HR.out]; exact decide_eq_false (ne_at HX.out HY.out (fun h => he (by injection h)))
          subst h
          clear he
          go_wp2
          go_quiet (fail)
          go_wp2
          go_ret
          exact ⟨rfl, m + nq, by first | rfl | rw [World.drewN_drewN]⟩
        subst he
        by_cases he : s0 = s1
        case neg =>
          have t1 : (s0.toList == s1.toList) = false := by rw [beq_eq_false_iff_ne]; exact fun h => he (bytes_ext h)
          have h : r = false := by rw [← HR.out]; exact decide_eq_false (ne_at HX.out HY.out (fun h => he (by injection h)))
          subst h
          clear he
          go_wp2
          go_quiet (fail)
          go_wp2
          go_ret
          exact ⟨rfl, m + nq, by first | rfl | rw [World.drewN_drewN]⟩
        subst he
        go_wp2
        go_quiet (fail)
        go_wp2
        go_roundw
        case rel => exact ⟨j + 1, m + nq, by omega, by go_num, take_next HT.out HX.out HY.out rfl, by first | rfl | rw [World.drewN_drewN]⟩
        case measure => simp [intOf]; omega
      · obtain rfl : j = n := by omega
        have h : r = true := by
          rw [← HR.out]
          have ht := HT.out
          rw [List.take_of_length_le (by rw [HL.out.1]; exact Nat.le_refl _), List.take_of_length_le (by rw [HL.out.2]; exact Nat.le_refl _)] at ht
          exact decide_eq_true ht
        subst h
        go_wp2
        go_ret
        exact ⟨rfl, m, rfl⟩
  · have h : decide (xs = ys) = false := decide_eq_false (fun h => hne (by rw [← HL.out.1, ← HL.out.2, h]))
    rw [h]
    have t1 : ((n : Int) != (n' : Int)) = true := by simp; omega
    clear h hne
    go_in
    go_wp2
    go_ret
    exact ⟨rfl, 0, rfl⟩
end Go.Proofs.Ytnnknnaimabehaa
