/- slices.Equal of points, and of values. -/
import Derived.Test.YtnnknnaimabehaaModImg
import Derived.Deep.QuietTactic
import Derived.BigQuiet
namespace Go.Proofs.Ytnnknnaimabehaa
open Go.RowKit
set_option linter.unusedVariables false
set_option maxRecDepth 100000
theorem take_next {α : Type} {xs ys : List α} {k : Nat} {x y : α} (h : xs.take k = ys.take k) (hx : xs[k]? = some x) (hy : ys[k]? = some y) (e : x = y) : xs.take (k + 1) = ys.take (k + 1) := by
  rw [List.take_add_one, List.take_add_one, h, hx, hy, e]
theorem ne_at {α : Type} {xs ys : List α} {k : Nat} {x y : α} (hx : xs[k]? = some x) (hy : ys[k]? = some y) (e : x ≠ y) : xs ≠ ys := fun h => by
  rw [h, hy] at hx
  exact e (Option.some.inj hx).symm
theorem bytes_ext {a b : ByteArray} (h : a.toList = b.toList) : a = b := by
  rw [ByteArray.toList_eq, ByteArray.toList_eq] at h
  cases a
  cases b
  simpa using h
theorem pt_in (w : World) (n : Nat) (a b a' b' : Int) : (Op.equalIn (n + 2) 62 (.agg #[.int .i64 a, .int .i64 b]) (.agg #[.int .i64 a', .int .i64 b'])).run Try.prog w = .ok (a == a' && b == b') w := by
  rw [run_equalIn_struct w _ _ _ _ (by kernel_rfl) (by kernel_rfl)]
  have ei := fun (d : Nat) (x y : Int) (w : World) => run_equalIn_int (P := Try.prog) w d 3 .i64 .i64 x y Try.underlying3
  simp only [Program.fieldsOf, Try.underlying62, Op.eqFields, part, isAgg]
  cases h1 : a == a' <;> cases h2 : b == b' <;> simp [go_sem, ei, h1, h2]
theorem pt_ne (w : World) (a b a' b' : Int) : (binOp .neq 62 (.agg #[.int .i64 a, .int .i64 b]) (.agg #[.int .i64 a', .int .i64 b'])).run Try.prog w = .ok (.bool (!(a == a' && b == b'))) w := by
  rw [run_neq_struct, pt_in w 9998]
  rfl
theorem pt_guard (w : World) (x y : Operand) (xs ys : Array Value) : (eqGuard .neq 62 x y (.agg xs) (.agg ys)).run Try.prog w = .ok () w := run_eqGuard_agg w .neq 62 x y xs ys (by kernel_rfl)
set_option maxHeartbeats 2000000 in
theorem eqpts_any (A A' : Option Addr) (n n' c c' : Nat) (xs ys : List PtP) (w : World) (hA : PtI w w.heap.size A n c xs) (hA' : PtI w w.heap.size A' n' c' ys) :
    Calls Try.prog 31 #[.slice A n c, .slice A' n' c'] w fun e w' => e = .returned (.bool (decide (xs = ys))) ∧ ∃ m, w' = w.drewN m := by
  have hl := hA.1
  have hl' := hA'.1
  have hm : n ≤ maxLen := Nat.le_trans hA.2.1 hA.2.2.1
  have hm' : n' ≤ maxLen := Nat.le_trans hA'.2.1 hA'.2.2.1
  unfold maxLen at hm hm'
  have HA := Lib.hid hA
  have HA' := Lib.hid hA'
  have HL := Lib.hid (And.intro hl hl')
  clear hA hA' hl hl'
  by_cases hne : n = n'
  · subst hne
    obtain ⟨r, hr⟩ : ∃ r, decide (xs = ys) = r := ⟨_, rfl⟩
    have HR := Lib.hid hr
    rw [hr]
    clear hr
    have hvn := pt_ne
    have hvg := pt_guard
    go_in
    go_wp2
    go_loopw [13] (fun i wr => ∃ j m : Nat, j ≤ n ∧ i = .int .i64 j ∧ xs.take j = ys.take j ∧ wr = w.drewN m) (fun i _ => n - (intOf i).toNat)
    case atStart => exact ⟨0, 0, Nat.zero_le _, rfl, by simp, rfl⟩
    case round =>
      obtain ⟨j, m, hj, rfl, ht, rfl⟩ := hrel
      have HT := Lib.hid ht
      clear ht
      by_cases hlt : j < n
      · obtain ⟨x, hx⟩ : ∃ x, xs[j]? = some x := ⟨_, List.getElem?_eq_getElem (by rw [HL.out.1]; exact hlt)⟩
        obtain ⟨y, hy⟩ : ∃ y, ys[j]? = some y := ⟨_, List.getElem?_eq_getElem (by rw [HL.out.2]; exact hlt)⟩
        obtain ⟨g, off, rfl, hg, hc⟩ := HA.out.2.2.2.2 (by omega)
        obtain ⟨g', off', rfl, hg', hc'⟩ := HA'.out.2.2.2.2 (by omega)
        have hcx := hc j x hx
        have hcy := hc' j y hy
        have HX := Lib.hid hx
        have HY := Lib.hid hy
        clear hc hc' hx hy
        obtain ⟨a0, b0⟩ := x
        obtain ⟨a1, b1⟩ := y
        dsimp only at hcx hcy
        obtain ⟨x0, x1⟩ := hcx
        obtain ⟨y0, y1⟩ := hcy
        have hltI : (j : Int) < (n : Int) := by omega
        by_cases he : a0 = a1
        case neg =>
          have t1 : (a0 == a1) = false := by simpa using he
          have h : r = false := by rw [← HR.out]; exact decide_eq_false (ne_at HX.out HY.out (fun h => he (by injection h)))
          subst h
          clear he
          go_wp2
          go_quiet (fail)
          go_wp2
          go_ret
          exact ⟨rfl, m + nq, by first | rfl | rw [World.drewN_drewN]⟩
        subst he
        by_cases he : b0 = b1
        case neg =>
          have t1 : (b0 == b1) = false := by simpa using he
          have h : r = false := by rw [← HR.out]; exact decide_eq_false (ne_at HX.out HY.out (fun h => he (by injection h)))
          subst h
          clear he
          go_wp2
          go_quiet (fail)
          go_wp2
          go_ret
          exact ⟨rfl, m + nq, by first | rfl | rw [World.drewN_drewN]⟩
        subst he
        go_wp2
        go_quiet (fail)
        go_wp2
        go_roundw
        case rel => exact ⟨j + 1, m + nq, by omega, by go_num, take_next HT.out HX.out HY.out rfl, by first | rfl | rw [World.drewN_drewN]⟩
        case measure => simp [intOf]; omega
      · obtain rfl : j = n := by omega
        have h : r = true := by
          rw [← HR.out]
          have ht := HT.out
          rw [List.take_of_length_le (by rw [HL.out.1]; exact Nat.le_refl _), List.take_of_length_le (by rw [HL.out.2]; exact Nat.le_refl _)] at ht
          exact decide_eq_true ht
        subst h
        go_wp2
        go_ret
        exact ⟨rfl, m, rfl⟩
  · have h : decide (xs = ys) = false := decide_eq_false (fun h => hne (by rw [← HL.out.1, ← HL.out.2, h]))
    rw [h]
    have t1 : ((n : Int) != (n' : Int)) = true := by simp; omega
    clear h hne
    go_in
    go_wp2
    go_ret
    exact ⟨rfl, 0, rfl⟩
set_option maxHeartbeats 2000000 in
theorem eqvals_any (A A' : Option Addr) (n n' c c' : Nat) (xs ys : List ValP) (w : World) (hA : VlI w w.heap.size A n c xs) (hA' : VlI w w.heap.size A' n' c' ys) :
    Calls Try.prog 32 #[.slice A n c, .slice A' n' c'] w fun e w' => e = .returned (.bool (decide (xs = ys))) ∧ ∃ m, w' = w.drewN m := by
  have hl := hA.1
  have hl' := hA'.1
  have hm : n ≤ maxLen := Nat.le_trans hA.2.1 hA.2.2.1
  have hm' : n' ≤ maxLen := Nat.le_trans hA'.2.1 hA'.2.2.1
  unfold maxLen at hm hm'
  have HA := Lib.hid hA
  have HA' := Lib.hid hA'
  have HL := Lib.hid (And.intro hl hl')
  clear hA hA' hl hl'
  by_cases hne : n = n'
  · subst hne
    obtain ⟨r, hr⟩ : ∃ r, decide (xs = ys) = r := ⟨_, rfl⟩
    have HR := Lib.hid hr
    rw [hr]
    clear hr
    have hvn := val_ne
    have hvg := val_guard
    go_in
    go_wp2
    go_loopw [13] (fun i wr => ∃ j m : Nat, j ≤ n ∧ i = .int .i64 j ∧ xs.take j = ys.take j ∧ wr = w.drewN m) (fun i _ => n - (intOf i).toNat)
    case atStart => exact ⟨0, 0, Nat.zero_le _, rfl, by simp, rfl⟩
    case round =>
      obtain ⟨j, m, hj, rfl, ht, rfl⟩ := hrel
      have HT := Lib.hid ht
      clear ht
      by_cases hlt : j < n
      · obtain ⟨x, hx⟩ : ∃ x, xs[j]? = some x := ⟨_, List.getElem?_eq_getElem (by rw [HL.out.1]; exact hlt)⟩
        obtain ⟨y, hy⟩ : ∃ y, ys[j]? = some y := ⟨_, List.getElem?_eq_getElem (by rw [HL.out.2]; exact hlt)⟩
        obtain ⟨g, off, rfl, hg, hc⟩ := HA.out.2.2.2.2 (by omega)
        obtain ⟨g', off', rfl, hg', hc'⟩ := HA'.out.2.2.2.2 (by omega)
        have hcx := hc j x hx
        have hcy := hc' j y hy
        have HX := Lib.hid hx
        have HY := Lib.hid hy
        clear hc hc' hx hy
        obtain ⟨a0, b0, s0⟩ := x
        obtain ⟨a1, b1, s1⟩ := y
        dsimp only at hcx hcy
        obtain ⟨x0, x1, x2⟩ := hcx
        obtain ⟨y0, y1, y2⟩ := hcy
        have hltI : (j : Int) < (n : Int) := by omega
        by_cases he : a0 = a1
        case neg =>
          have t1 : (a0 == a1) = false := by simpa using he
          have h : r = false := by rw [← HR.out]; exact decide_eq_false (ne_at HX.out HY.out (fun h => he (by injection h)))
          subst h
          clear he
          go_wp2
          go_quiet (fail)
          go_wp2
          go_ret
          exact ⟨rfl, m + nq, by first | rfl | rw [World.drewN_drewN]⟩
        subst he
        by_cases he : b0 = b1
        case neg =>
          have t1 : (b0 == b1) = false := by simpa using he
          have h : r = false := by rw [← HR.out]; exact decide_eq_false (ne_at HX.out HY.out (fun h => he (by injection h)))
          subst h
          clear he
          go_wp2
          go_quiet (fail)
          go_wp2
          go_ret
          exact ⟨rfl, m + nq, by first | rfl | rw [World.drewN_drewN]⟩
        subst he
        by_cases he : s0 = s1
        case neg =>
          have t1 : (s0.toList == s1.toList) = false := by rw [beq_eq_false_iff_ne]; exact fun h => he (bytes_ext h)
          have h : r = false := by rw [← HR.out]; exact decide_eq_false (ne_at HX.out HY.out (fun h => he (by injection h)))
          subst h
          clear he
          go_wp2
          go_quiet (fail)
          go_wp2
          go_ret
          exact ⟨rfl, m + nq, by first | rfl | rw [World.drewN_drewN]⟩
        subst he
        go_wp2
        go_quiet (fail)
        go_wp2
        go_roundw
        case rel => exact ⟨j + 1, m + nq, by omega, by go_num, take_next HT.out HX.out HY.out rfl, by first | rfl | rw [World.drewN_drewN]⟩
        case measure => simp [intOf]; omega
      · obtain rfl : j = n := by omega
        have h : r = true := by
          rw [← HR.out]
          have ht := HT.out
          rw [List.take_of_length_le (by rw [HL.out.1]; exact Nat.le_refl _), List.take_of_length_le (by rw [HL.out.2]; exact Nat.le_refl _)] at ht
          exact decide_eq_true ht
        subst h
        go_wp2
        go_ret
        exact ⟨rfl, m, rfl⟩
  · have h : decide (xs = ys) = false := decide_eq_false (fun h => hne (by rw [← HL.out.1, ← HL.out.2, h]))
    rw [h]
    have t1 : ((n : Int) != (n' : Int)) = true := by simp; omega
    clear h hne
    go_in
    go_wp2
    go_ret
    exact ⟨rfl, 0, rfl⟩
end Go.Proofs.Ytnnknnaimabehaa
namespace Go.Proofs.Ytnnknnaimabehaa
open Go.RowKit
set_option linter.unusedVariables false
set_option maxRecDepth 100000
instance blkEq : DecidableEq BlkP := fun a b => decidable_of_iff (a.id = b.id ∧ a.pts = b.pts ∧ a.vals = b.vals) (by cases a; cases b; simp)
set_option maxHeartbeats 2000000 in
theorem same1_any (id : Int) (A : Option Addr) (n c : Nat) (B : Option Addr) (n2 d : Nat) (ps : List PtP) (vs : List ValP) (id' : Int) (A' : Option Addr) (n' c' : Nat) (B' : Option Addr) (n2' d' : Nat) (qs : List PtP) (us : List ValP) (w : World)
    (hP : PtI w w.heap.size A n c ps) (hV : VlI w w.heap.size B n2 d vs) (hQ : PtI w w.heap.size A' n' c' qs) (hU : VlI w w.heap.size B' n2' d' us) :
    Calls Try.prog 30 #[.agg #[.int .i64 id, .slice A n c, .slice B n2 d], .agg #[.int .i64 id', .slice A' n' c', .slice B' n2' d']] w fun e w' => e = .returned (.bool (decide ((⟨id, ps, vs⟩ : BlkP) = ⟨id', qs, us⟩))) ∧ Below w.heap.size w w' := by
  obtain ⟨w1, hw1⟩ : ∃ W, (w.alloc (.cells #[.int .i64 id, .slice A n c, .slice B n2 d] 36)).alloc (.cells #[.int .i64 id', .slice A' n' c', .slice B' n2' d'] 36) = W := ⟨_, rfl⟩
  have hb1 : Below w.heap.size w w1 := by rw [← hw1]; exact ((Below.refl _ w).alloc (Nat.le_refl _) _).alloc (by simp) _
  have hD1 : Held w1 w.heap.size 36 #[.int .i64 id, .slice A n c, .slice B n2 d] := by rw [← hw1]; exact (Held.new w _ _).alloc _
  have hE1 : Held w1 (w.heap.size + 1) 36 #[.int .i64 id', .slice A' n' c', .slice B' n2' d'] := by
    rw [← hw1]
    have := Held.new (w.alloc (.cells #[.int .i64 id, .slice A n c, .slice B n2 d] 36)) 36 #[.int .i64 id', .slice A' n' c', .slice B' n2' d']
    rw [World.size_alloc] at this
    exact this
  have HE1 := Lib.hid (eqpts_any A A' n n' c c' ps qs w1 (hP.up hb1) (hQ.up hb1))
  have HV := Lib.hid (fun (m : Nat) => eqvals_any B B' n2 n2' d d' vs us (w1.drewN m) ((hV.up hb1).up (below_drewN (Below.refl _ _) m)) ((hU.up hb1).up (below_drewN (Below.refl _ _) m)))
  have d0 : w1.cell? ⟨w.heap.size, 0, none⟩ = some (.int .i64 id) := hD1.cell 0
  have d1 : w1.cell? ⟨w.heap.size, 1, none⟩ = some (.slice A n c) := hD1.cell 1
  have d2 : w1.cell? ⟨w.heap.size, 2, none⟩ = some (.slice B n2 d) := hD1.cell 2
  have e0 : w1.cell? ⟨w.heap.size + 1, 0, none⟩ = some (.int .i64 id') := hE1.cell 0
  have e1 : w1.cell? ⟨w.heap.size + 1, 1, none⟩ = some (.slice A' n' c') := hE1.cell 1
  have e2 : w1.cell? ⟨w.heap.size + 1, 2, none⟩ = some (.slice B' n2' d') := hE1.cell 2
  have HD1 := Lib.hid hD1
  have HE2 := Lib.hid hE1
  clear hP hV hQ hU hD1 hE1
  obtain ⟨r, hr⟩ : ∃ r, decide ((⟨id, ps, vs⟩ : BlkP) = ⟨id', qs, us⟩) = r := ⟨_, rfl⟩
  have HR := Lib.hid hr
  rw [hr]
  clear hr
  by_cases hi : id = id'
  · subst hi
    by_cases hp : ps = qs
    · rw [decide_eq_true hp] at HE1
      have h : r = decide (vs = us) := by
        rw [← HR.out, decide_eq_decide]
        constructor
        · intro h; injection h
        · intro h; rw [h, hp]
      rw [← h] at HV
      clear h hp
      go_in
      go_wp2_with fail
      refine HE1.out.mono ?_
      rintro e w' ⟨rfl, m, rfl⟩
      have f2 : (w1.drewN m).cell? ⟨w.heap.size, 2, none⟩ = some (.slice B n2 d) := HD1.out.cell 2
      have g2 : (w1.drewN m).cell? ⟨w.heap.size + 1, 2, none⟩ = some (.slice B' n2' d') := HE2.out.cell 2
      go_wp2_with fail
      refine (HV.out m).mono ?_
      rintro e w' ⟨rfl, m2, rfl⟩
      go_wp2_with fail
      go_ret
      exact ⟨rfl, below_drewN hb1 _⟩
    · rw [decide_eq_false hp] at HE1
      have h : r = false := by rw [← HR.out]; exact decide_eq_false (fun h => hp (by injection h))
      subst h
      clear hp
      go_in
      go_wp2_with fail
      refine HE1.out.mono ?_
      rintro e w' ⟨rfl, m, rfl⟩
      go_wp2_with fail
      go_ret
      exact ⟨rfl, below_drewN hb1 _⟩
  · have h : r = false := by rw [← HR.out]; exact decide_eq_false (fun h => hi (by injection h))
    subst h
    have t1 : (id == id') = false := by simpa using hi
    clear hi
    go_in
    go_wp2
    go_ret
    exact ⟨rfl, hb1⟩
set_option maxHeartbeats 2000000 in
theorem eqf_any (A A' : Option Addr) (n n' c c' : Nat) (xs ys : List BlkP) (w : World) (hA : BkI w w.heap.size A n c xs) (hA' : BkI w w.heap.size A' n' c' ys) :
    Calls Try.prog 29 #[.slice A n c, .slice A' n' c', .func (.func 30) #[] #[]] w fun e w' => e = .returned (.bool (decide (xs = ys))) ∧ Below w.heap.size w w' := by
  have hl := hA.1
  have hl' := hA'.1
  have hm : n ≤ maxLen := Nat.le_trans hA.2.1 hA.2.2.1
  have hm' : n' ≤ maxLen := Nat.le_trans hA'.2.1 hA'.2.2.1
  unfold maxLen at hm hm'
  have HA := Lib.hid (fun (X : World) (h : Below w.heap.size w X) => hA.up h)
  have HA' := Lib.hid (fun (X : World) (h : Below w.heap.size w X) => hA'.up h)
  have HL := Lib.hid (And.intro hl hl')
  clear hA hA' hl hl'
  by_cases hne : n = n'
  · subst hne
    obtain ⟨r, hr⟩ : ∃ r, decide (xs = ys) = r := ⟨_, rfl⟩
    have HR := Lib.hid hr
    rw [hr]
    clear hr
    go_in
    go_wp2
    go_loopw [17] (fun i wr => ∃ j : Nat, j ≤ n ∧ i = .int .i64 j ∧ xs.take j = ys.take j ∧ Below w.heap.size w wr) (fun i _ => n - (intOf i).toNat)
    case atStart => exact ⟨0, Nat.zero_le _, rfl, by simp, Below.refl _ _⟩
    case round =>
      obtain ⟨j, hj, rfl, ht, hbr⟩ := hrel
      have HT := Lib.hid ht
      clear ht
      by_cases hlt : j < n
      · obtain ⟨x, hx⟩ : ∃ x, xs[j]? = some x := ⟨_, List.getElem?_eq_getElem (by rw [HL.out.1]; exact hlt)⟩
        obtain ⟨y, hy⟩ : ∃ y, ys[j]? = some y := ⟨_, List.getElem?_eq_getElem (by rw [HL.out.2]; exact hlt)⟩
        obtain ⟨g, off, rfl, hg, hc⟩ := (HA.out wr hbr).2.2.2.2 (by omega)
        obtain ⟨g', off', rfl, hg', hc'⟩ := (HA'.out wr hbr).2.2.2.2 (by omega)
        obtain ⟨Ap, np, cp, Av, nv, cv, x0, x1, x2, hP, hV, _⟩ := hc j x hx
        obtain ⟨Ap', np', cp', Av', nv', cv', y0, y1, y2, hP', hV', _⟩ := hc' j y hy
        have HX := Lib.hid hx
        have HY := Lib.hid hy
        clear hc hc' hx hy
        obtain ⟨id, ps, vs⟩ := x
        obtain ⟨id', qs, us⟩ := y
        dsimp only at x0 y0 hP hV hP' hV'
        obtain ⟨w2, hw2⟩ : ∃ W, wr.alloc (.cells #[.int .i64 id, .slice Ap np cp, .slice Av nv cv] 36) = W := ⟨_, rfl⟩
        have hb2 : Below wr.heap.size wr w2 := by rw [← hw2]; exact (Below.refl _ _).alloc (Nat.le_refl _) _
        have hD2 : Held w2 wr.heap.size 36 #[.int .i64 id, .slice Ap np cp, .slice Av nv cv] := by rw [← hw2]; exact Held.new _ _ _
        have z0 : w2.cell? ⟨g', off' + j * 3, none⟩ = some (.int .i64 id') := (hb2.cell (p := ⟨g', off' + j * 3, none⟩) hg').trans y0
        have z1 : w2.cell? ⟨g', off' + j * 3 + 1, none⟩ = some (.slice Ap' np' cp') := (hb2.cell (p := ⟨g', off' + j * 3 + 1, none⟩) hg').trans y1
        have z2 : w2.cell? ⟨g', off' + j * 3 + 2, none⟩ = some (.slice Av' nv' cv') := (hb2.cell (p := ⟨g', off' + j * 3 + 2, none⟩) hg').trans y2
        obtain ⟨w3, hw3⟩ : ∃ W, w2.alloc (.cells #[.int .i64 id', .slice Ap' np' cp', .slice Av' nv' cv'] 36) = W := ⟨_, rfl⟩
        have hb3 : Below w2.heap.size w2 w3 := by rw [← hw3]; exact (Below.refl _ _).alloc (Nat.le_refl _) _
        have hE3 : Held w3 w2.heap.size 36 #[.int .i64 id', .slice Ap' np' cp', .slice Av' nv' cv'] := by rw [← hw3]; exact Held.new _ _ _
        have hD3 := hD2.below hb3 hD2.lt
        have hb3r := hb2.trans (hb3.mono hb2.size)
        have hb3w := hbr.trans (hb3r.mono hbr.size)
        have d0 : w3.cell? ⟨wr.heap.size, 0, none⟩ = some (.int .i64 id) := hD3.cell 0
        have d1 : w3.cell? ⟨wr.heap.size, 1, none⟩ = some (.slice Ap np cp) := hD3.cell 1
        have d2 : w3.cell? ⟨wr.heap.size, 2, none⟩ = some (.slice Av nv cv) := hD3.cell 2
        have e0 : w3.cell? ⟨w2.heap.size, 0, none⟩ = some (.int .i64 id') := hE3.cell 0
        have e1 : w3.cell? ⟨w2.heap.size, 1, none⟩ = some (.slice Ap' np' cp') := hE3.cell 1
        have e2 : w3.cell? ⟨w2.heap.size, 2, none⟩ = some (.slice Av' nv' cv') := hE3.cell 2
        have HS := Lib.hid (same1_any id Ap np cp Av nv cv ps vs id' Ap' np' cp' Av' nv' cv' qs us w3 (hP.up hb3r) (hV.up hb3r) (hP'.up hb3r) (hV'.up hb3r))
        obtain ⟨q, hq⟩ : ∃ q, decide ((⟨id, ps, vs⟩ : BlkP) = ⟨id', qs, us⟩) = q := ⟨_, rfl⟩
        rw [hq] at HS
        have HQ := Lib.hid hq
        have hltI : (j : Int) < (n : Int) := by omega
        clear hP hV hP' hV' hq hD2 hD3 hE3
        go_wp2_with fail
        refine HS.out.mono ?_
        rintro e w4 ⟨rfl, hb4⟩
        have hb4w := hb3w.trans (hb4.mono hb3w.size)
        cases q with
        | true =>
          have h := of_decide_eq_true HQ.out
          have HH := Lib.hid (take_next HT.out HX.out HY.out h)
          clear h d0 d1 d2 e0 e1 e2 z0 z1 z2 x0 x1 x2 y0 y1 y2
          go_wp2_with fail
          go_roundw
          case rel => exact ⟨j + 1, by omega, by go_num, HH.out, hb4w⟩
          case measure => simp [intOf]; omega
        | false =>
          have h := of_decide_eq_false HQ.out
          have h2 : r = false := by rw [← HR.out]; exact decide_eq_false (ne_at HX.out HY.out h)
          subst h2
          clear h d0 d1 d2 e0 e1 e2 z0 z1 z2 x0 x1 x2 y0 y1 y2
          go_wp2_with fail
          go_ret
          exact ⟨rfl, hb4w⟩
      · obtain rfl : j = n := by omega
        have h : r = true := by
          rw [← HR.out]
          have ht := HT.out
          rw [List.take_of_length_le (by rw [HL.out.1]; exact Nat.le_refl _), List.take_of_length_le (by rw [HL.out.2]; exact Nat.le_refl _)] at ht
          exact decide_eq_true ht
        subst h
        go_wp2
        go_ret
        exact ⟨rfl, hbr⟩
  · have h : decide (xs = ys) = false := decide_eq_false (fun h => hne (by rw [← HL.out.1, ← HL.out.2, h]))
    rw [h]
    have t1 : ((n : Int) != (n' : Int)) = true := by simp; omega
    clear h hne
    go_in
    go_wp2
    go_ret
    exact ⟨rfl, Below.refl _ _⟩
theorem msame_any (A A' : Option Addr) (n n' c c' : Nat) (xs ys : List BlkP) (w : World) (hA : BkI w w.heap.size A n c xs) (hA' : BkI w w.heap.size A' n' c' ys) :
    Calls Try.prog 18 #[.slice A n c, .slice A' n' c'] w fun e w' => e = .returned (.bool (decide (xs = ys))) ∧ Below w.heap.size w w' := by
  have HE := Lib.hid (eqf_any A A' n n' c c' xs ys w hA hA')
  clear hA hA'
  go_in
  go_wp2_with fail
  refine HE.out.mono ?_
  rintro e w' ⟨rfl, hb⟩
  go_wp2_with fail
  go_ret
  exact ⟨rfl, hb⟩
end Go.Proofs.Ytnnknnaimabehaa
