/- kilowattref26.Same. -/
import Derived.Test.YtnnknnaimabehaaDoorModSame
namespace Go.Proofs.YtnnknnaimabehaaDoor
open Go.RowKit
set_option linter.unusedVariables false
set_option maxRecDepth 100000
set_option maxHeartbeats 4000000 in
theorem rsame_any (A A' : Option Addr) (n n' c c' : Nat) (xs ys : List BlkP) (w : World) (hA : BkI w w.heap.size A n c xs) (hA' : BkI w w.heap.size A' n' c' ys) :
    Calls Tryd.prog 15 #[.slice A n c, .slice A' n' c'] w fun e w' => e = .returned (.bool (decide (xs = ys))) ∧ Below w.heap.size w w' := by
  have hl := hA.1
  have hl' := hA'.1
  have hm : n ≤ maxLen := Nat.le_trans hA.2.1 hA.2.2.1
  have hm' : n' ≤ maxLen := Nat.le_trans hA'.2.1 hA'.2.2.1
  unfold maxLen at hm hm'
  have HA := Lib.hid (fun (X : World) (h : Below w.heap.size w X) => hA.up h)
  have HA' := Lib.hid (fun (X : World) (h : Below w.heap.size w X) => hA'.up h)
  have HL := Lib.hid (And.intro hl hl')
  clear hA hA' hl hl'
  by_cases hne : n = n'
  case neg =>
    have h : decide (xs = ys) = false := decide_eq_false (fun h => hne (by rw [← HL.out.1, ← HL.out.2, h]))
    rw [h]
    have t1 : ((n : Int) != (n' : Int)) = true := by simp; omega
    clear h hne
    go_in
    go_wp2
    go_ret
    exact ⟨rfl, Below.refl _ _⟩
  subst hne
  obtain ⟨r, hr⟩ : ∃ r, decide (xs = ys) = r := ⟨_, rfl⟩
  have HR := Lib.hid hr
  rw [hr]
  clear hr
  have hpn := pt_ne
  have hpg := pt_guard
  have hvn := val_ne
  have hvg := val_guard
  go_in
  go_wp2
  go_loopw [5] (fun i wr => ∃ j : Nat, j ≤ n ∧ i = .int .i64 j ∧ xs.take j = ys.take j ∧ Below w.heap.size w wr) (fun i _ => n - (intOf i).toNat)
  case atStart => exact ⟨0, Nat.zero_le _, rfl, by simp, Below.refl _ _⟩
  case round =>
    obtain ⟨j, hj, rfl, ht, hbr⟩ := hrel
    have HT := Lib.hid ht
    clear ht
    by_cases hlt : j < n
    case neg =>
      obtain rfl : j = n := by omega
      have h : r = true := by
        rw [← HR.out]
        have ht := HT.out
        rw [List.take_of_length_le (by rw [HL.out.1]; exact Nat.le_refl _), List.take_of_length_le (by rw [HL.out.2]; exact Nat.le_refl _)] at ht
        exact decide_eq_true ht
      subst h
      go_wp2
      go_ret
      exact ⟨rfl, hbr⟩
    obtain ⟨x, hx⟩ : ∃ x, xs[j]? = some x := ⟨_, List.getElem?_eq_getElem (by rw [HL.out.1]; exact hlt)⟩
    obtain ⟨y, hy⟩ : ∃ y, ys[j]? = some y := ⟨_, List.getElem?_eq_getElem (by rw [HL.out.2]; exact hlt)⟩
    obtain ⟨g, off, rfl, hg, hc⟩ := (HA.out wr hbr).2.2.2.2 (by omega)
    obtain ⟨g', off', rfl, hg', hc'⟩ := (HA'.out wr hbr).2.2.2.2 (by omega)
    obtain ⟨Ap, np, cp, Av, nv, cv, x0, x1, x2, hP, hV, _⟩ := hc j x hx
    obtain ⟨Ap', np', cp', Av', nv', cv', y0, y1, y2, hP', hV', _⟩ := hc' j y hy
    have HX := Lib.hid hx
    have HY := Lib.hid hy
    clear hc hc' hx hy
    obtain ⟨id, ps, vs⟩ := x
    obtain ⟨id', qs, us⟩ := y
    dsimp only at x0 y0 hP hV hP' hV'
    obtain ⟨w2, hw2⟩ : ∃ W, wr.alloc (.cells #[.int .i64 id, .slice Ap np cp, .slice Av nv cv] 37) = W := ⟨_, rfl⟩
    have hb2 : Below wr.heap.size wr w2 := by rw [← hw2]; exact (Below.refl _ _).alloc (Nat.le_refl _) _
    have hD2 : Held w2 wr.heap.size 37 #[.int .i64 id, .slice Ap np cp, .slice Av nv cv] := by rw [← hw2]; exact Held.new _ _ _
    have z0 : w2.cell? ⟨g', off' + j * 3, none⟩ = some (.int .i64 id') := (hb2.cell (p := ⟨g', off' + j * 3, none⟩) hg').trans y0
    have z1 : w2.cell? ⟨g', off' + j * 3 + 1, none⟩ = some (.slice Ap' np' cp') := (hb2.cell (p := ⟨g', off' + j * 3 + 1, none⟩) hg').trans y1
    have z2 : w2.cell? ⟨g', off' + j * 3 + 2, none⟩ = some (.slice Av' nv' cv') := (hb2.cell (p := ⟨g', off' + j * 3 + 2, none⟩) hg').trans y2
    obtain ⟨w3, hw3⟩ : ∃ W, w2.alloc (.cells #[.int .i64 id', .slice Ap' np' cp', .slice Av' nv' cv'] 37) = W := ⟨_, rfl⟩
    have hb3 : Below w2.heap.size w2 w3 := by rw [← hw3]; exact (Below.refl _ _).alloc (Nat.le_refl _) _
    have hE3 : Held w3 w2.heap.size 37 #[.int .i64 id', .slice Ap' np' cp', .slice Av' nv' cv'] := by rw [← hw3]; exact Held.new _ _ _
    have hD3 := hD2.below hb3 hD2.lt
    have hb3r := hb2.trans (hb3.mono hb2.size)
    have hb3w := hbr.trans (hb3r.mono hbr.size)
    have d0 : w3.cell? ⟨wr.heap.size, 0, none⟩ = some (.int .i64 id) := hD3.cell 0
    have d1 : w3.cell? ⟨wr.heap.size, 1, none⟩ = some (.slice Ap np cp) := hD3.cell 1
    have d2 : w3.cell? ⟨wr.heap.size, 2, none⟩ = some (.slice Av nv cv) := hD3.cell 2
    have e0 : w3.cell? ⟨w2.heap.size, 0, none⟩ = some (.int .i64 id') := hE3.cell 0
    have e1 : w3.cell? ⟨w2.heap.size, 1, none⟩ = some (.slice Ap' np' cp') := hE3.cell 1
    have e2 : w3.cell? ⟨w2.heap.size, 2, none⟩ = some (.slice Av' nv' cv') := hE3.cell 2
    have hltI : (j : Int) < (n : Int) := by omega
    have HNE := Lib.hid (fun (h : (⟨id, ps, vs⟩ : BlkP) ≠ ⟨id', qs, us⟩) => (HR.out.symm.trans (decide_eq_false (ne_at HX.out HY.out h)) : r = false))
    have hpl := hP.1
    have hql := hP'.1
    have hvl := hV.1
    have hul := hV'.1
    have hpm : np ≤ maxLen := Nat.le_trans hP.2.1 hP.2.2.1
    have hvm : nv ≤ maxLen := Nat.le_trans hV.2.1 hV.2.2.1
    unfold maxLen at hpm hvm
    have HP := Lib.hid (fun (X : World) (h : Below w3.heap.size w3 X) => (hP.up hb3r).up h)
    have HP' := Lib.hid (fun (X : World) (h : Below w3.heap.size w3 X) => (hP'.up hb3r).up h)
    have HV := Lib.hid (fun (X : World) (h : Below w3.heap.size w3 X) => (hV.up hb3r).up h)
    have HV' := Lib.hid (fun (X : World) (h : Below w3.heap.size w3 X) => (hV'.up hb3r).up h)
    have HD3 := Lib.hid (fun (X : World) (h : Below w3.heap.size w3 X) => hD3.below h hD3.lt)
    have HE3 := Lib.hid (fun (X : World) (h : Below w3.heap.size w3 X) => hE3.below h hE3.lt)
    have HLL := Lib.hid (And.intro (And.intro hpl hql) (And.intro hvl hul))
    clear hP hV hP' hV' hD2 hD3 hE3 hpl hql hvl hul
    by_cases hi : id = id'
    case neg =>
      have h := HNE.out (fun h => hi (by injection h))
      subst h
      have t1 : (id != id') = true := by simpa using hi
      clear hi
      go_wp2
      go_ret
      exact ⟨rfl, hb3w⟩
    by_cases hn1 : np = np'
    case neg =>
      have h := HNE.out (fun h => hn1 (by injection h with _ h1 _; rw [← HLL.out.1.1, ← HLL.out.1.2, h1]))
      subst h
      subst hi
      have t1 : ((np : Int) != (np' : Int)) = true := by simp; omega
      clear hn1
      go_wp2
      go_ret
      exact ⟨rfl, hb3w⟩
    by_cases hn2 : nv = nv'
    case neg =>
      have h := HNE.out (fun h => hn2 (by injection h with _ _ h1; rw [← HLL.out.2.1, ← HLL.out.2.2, h1]))
      subst h
      subst hi hn1
      have t1 : ((nv : Int) != (nv' : Int)) = true := by simp; omega
      clear hn2
      go_wp2
      go_ret
      exact ⟨rfl, hb3w⟩
    subst hi hn1 hn2
    go_wp2
    go_loopw [8] (fun i wx => ∃ k : Nat, k ≤ np ∧ i = .int .i64 k ∧ ps.take k = qs.take k ∧ Below w3.heap.size w3 wx) (fun i _ => np - (intOf i).toNat)
    case atStart => exact ⟨0, Nat.zero_le _, rfl, by simp, Below.refl _ _⟩
    case round =>
      clear x0 x1 x2 y0 y1 y2 z0 z1 z2 d0 d1 d2 e0 e1 e2
      obtain ⟨k, hk, rfl, ht1, hbk⟩ := hrel
      have HT1 := Lib.hid ht1
      clear ht1
      have hDk := HD3.out wr hbk
      have hEk := HE3.out wr hbk
      have d0 := hDk.cell 0
      have d1 := hDk.cell 1
      have d2 := hDk.cell 2
      have e0 := hEk.cell 0
      have e1 := hEk.cell 1
      have e2 := hEk.cell 2
      clear hDk hEk
      by_cases hkt : k < np
      case pos =>
        obtain ⟨x, hx⟩ : ∃ x, ps[k]? = some x := ⟨_, List.getElem?_eq_getElem (by rw [HLL.out.1.1]; assumption)⟩
        obtain ⟨y, hy⟩ : ∃ y, qs[k]? = some y := ⟨_, List.getElem?_eq_getElem (by rw [HLL.out.1.2]; assumption)⟩
        obtain ⟨ga, oa, rfl, hga, hca⟩ := (HP.out wr hbk).2.2.2.2 (by omega)
        obtain ⟨gb, ob, rfl, hgb, hcb⟩ := (HP'.out wr hbk).2.2.2.2 (by omega)
        have hcx := hca k x hx
        have hcy := hcb k y hy
        have HX1 := Lib.hid hx
        have HY1 := Lib.hid hy
        clear hca hcb hx hy
        obtain ⟨a0, b0⟩ := x
        obtain ⟨a1, b1⟩ := y
        dsimp only at hcx hcy
        obtain ⟨x0, x1⟩ := hcx
        obtain ⟨y0, y1⟩ := hcy
        have hkI : (k : Int) < (np : Int) := by omega
        by_cases he : a0 = a1
        case neg =>
          have t1 : (a0 == a1) = false := by simpa using he
          have h := HNE.out (fun h => ne_at HX1.out HY1.out (fun h => he (by injection h)) (by injection h with _ h1 _))
          subst h
          clear he
          go_wp2
          go_quiet (fail)
          go_wp2
          go_ret
          exact ⟨rfl, below_drewN (hb3w.trans (hbk.mono hb3w.size)) _⟩
        subst he
        by_cases he : b0 = b1
        case neg =>
          have t1 : (b0 == b1) = false := by simpa using he
          have h := HNE.out (fun h => ne_at HX1.out HY1.out (fun h => he (by injection h)) (by injection h with _ h1 _))
          subst h
          clear he
          go_wp2
          go_quiet (fail)
          go_wp2
          go_ret
          exact ⟨rfl, below_drewN (hb3w.trans (hbk.mono hb3w.size)) _⟩
        subst he
        go_wp2
        go_quiet (fail)
        go_wp2
        go_roundw
        case rel => exact ⟨k + 1, by omega, by go_num, take_next HT1.out HX1.out HY1.out rfl, below_drewN hbk _⟩
        case measure => simp [intOf]; omega
      obtain rfl : k = np := by omega
      have hpq : ps = qs := by
        have ht := HT1.out
        rw [List.take_of_length_le (by rw [HLL.out.1.1]; exact Nat.le_refl _), List.take_of_length_le (by rw [HLL.out.1.2]; exact Nat.le_refl _)] at ht
        exact ht
      have HPQ := Lib.hid hpq
      clear hpq
      go_wp2
      go_loopw [9] (fun i wx => ∃ q : Nat, q ≤ nv ∧ i = .int .i64 q ∧ vs.take q = us.take q ∧ Below w3.heap.size w3 wx) (fun i _ => nv - (intOf i).toNat)
      case atStart => exact ⟨0, Nat.zero_le _, rfl, by simp, hbk⟩
      case round =>
        clear d0 d1 d2 e0 e1 e2
        obtain ⟨q, hq, rfl, ht2, hbq⟩ := hrel
        have HT2 := Lib.hid ht2
        clear ht2
        have hDk := HD3.out wr hbq
        have hEk := HE3.out wr hbq
        have d0 := hDk.cell 0
        have d1 := hDk.cell 1
        have d2 := hDk.cell 2
        have e0 := hEk.cell 0
        have e1 := hEk.cell 1
        have e2 := hEk.cell 2
        clear hDk hEk hbk
        by_cases hqt : q < nv
        case pos =>
          obtain ⟨x, hx⟩ : ∃ x, vs[q]? = some x := ⟨_, List.getElem?_eq_getElem (by rw [HLL.out.2.1]; assumption)⟩
          obtain ⟨y, hy⟩ : ∃ y, us[q]? = some y := ⟨_, List.getElem?_eq_getElem (by rw [HLL.out.2.2]; assumption)⟩
          obtain ⟨ga, oa, rfl, hga, hca⟩ := (HV.out wr hbq).2.2.2.2 (by omega)
          obtain ⟨gb, ob, rfl, hgb, hcb⟩ := (HV'.out wr hbq).2.2.2.2 (by omega)
          have hcx := hca q x hx
          have hcy := hcb q y hy
          have HX1 := Lib.hid hx
          have HY1 := Lib.hid hy
          clear hca hcb hx hy
          obtain ⟨a0, b0, s0⟩ := x
          obtain ⟨a1, b1, s1⟩ := y
          dsimp only at hcx hcy
          obtain ⟨x0, x1, x2⟩ := hcx
          obtain ⟨y0, y1, y2⟩ := hcy
          have hkI : (q : Int) < (nv : Int) := by omega
          by_cases he : a0 = a1
          case neg =>
            have t1 : (a0 == a1) = false := by simpa using he
            have h := HNE.out (fun h => ne_at HX1.out HY1.out (fun h => he (by injection h)) (by injection h with _ _ h1))
            subst h
            clear he
            go_wp2
            go_quiet (fail)
            go_wp2
            go_ret
            exact ⟨rfl, below_drewN (hb3w.trans (hbq.mono hb3w.size)) _⟩
          subst he
          by_cases he : b0 = b1
          case neg =>
            have t1 : (b0 == b1) = false := by simpa using he
            have h := HNE.out (fun h => ne_at HX1.out HY1.out (fun h => he (by injection h)) (by injection h with _ _ h1))
            subst h
            clear he
            go_wp2
            go_quiet (fail)
            go_wp2
            go_ret
            exact ⟨rfl, below_drewN (hb3w.trans (hbq.mono hb3w.size)) _⟩
          subst he
          by_cases he : s0 = s1
          case neg =>
            have t1 : (s0.toList == s1.toList) = false := by rw [beq_eq_false_iff_ne]; exact fun h => he (bytes_ext h)
            have h := HNE.out (fun h => ne_at HX1.out HY1.out (fun h => he (by injection h)) (by injection h with _ _ h1))
            subst h
            clear he
            go_wp2
            go_quiet (fail)
            go_wp2
            go_ret
            exact ⟨rfl, below_drewN (hb3w.trans (hbq.mono hb3w.size)) _⟩
          subst he
          go_wp2
          go_quiet (fail)
          go_wp2
          go_roundw
          case rel => exact ⟨q + 1, by omega, by go_num, take_next HT2.out HX1.out HY1.out rfl, below_drewN hbq _⟩
          case measure => simp [intOf]; omega
        obtain rfl : q = nv := by omega
        have hvu : vs = us := by
          have ht := HT2.out
          rw [List.take_of_length_le (by rw [HLL.out.2.1]; exact Nat.le_refl _), List.take_of_length_le (by rw [HLL.out.2.2]; exact Nat.le_refl _)] at ht
          exact ht
        have HTN := Lib.hid (take_next HT.out HX.out HY.out (by rw [HPQ.out, hvu]))
        clear hvu
        go_wp2
        go_roundw
        case rel => exact ⟨j + 1, by omega, by go_num, HTN.out, hb3w.trans (hbq.mono hb3w.size)⟩
        case measure => simp [intOf]; omega
end Go.Proofs.YtnnknnaimabehaaDoor
