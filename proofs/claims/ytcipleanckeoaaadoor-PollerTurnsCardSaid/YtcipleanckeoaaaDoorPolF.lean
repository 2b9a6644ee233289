/- slices.MinFunc over points; when there is something to do. -/
import Derived.Test.YtcipleanckeoaaaDoorPolA
import Derived.Test.YtcipleanckeoaaaDoorCommon
import Derived.LoopTactic
import Derived.Laws.EntriesVeiled
namespace Go.Proofs.YtcipleanckeoaaaDoor
open Go.RowKit
attribute [local go_sem] Oper.semAt_some
set_option linter.unusedVariables false
set_option linter.unusedSimpArgs false
set_option maxRecDepth 100000
def PPt.arr (x : PPt) : Array Value := #[.int .i64 x.unit, .int .i64 x.fn, .int .i64 x.addr, .int .i64 x.order, .int .i64 x.due, .int .i64 x.fails, .int .i64 x.turns]
def cmpV (a b : Int) : Int := if a < b then -1 else if b < a then 1 else 0
set_option maxHeartbeats 1000000 in
theorem cmp_any (x y : PPt) (w : World) :
    Calls Tryd.prog 78 #[.agg #[.int .i64 x.unit, .int .i64 x.fn, .int .i64 x.addr, .int .i64 x.order, .int .i64 x.due, .int .i64 x.fails, .int .i64 x.turns], .agg #[.int .i64 y.unit, .int .i64 y.fn, .int .i64 y.addr, .int .i64 y.order, .int .i64 y.due, .int .i64 y.fails, .int .i64 y.turns]] w fun e w' => e = .returned (.int .i64 (cmpV x.due y.due)) ∧ Below w.heap.size w w' := by
  unfold cmpV
  by_cases h1 : x.due < y.due
  · rw [if_pos h1]
    go_in
    go_wp2
    go_ret
    exact ⟨rfl, ((Below.refl _ w).alloc (Nat.le_refl _) _).alloc (by simp) _⟩
  · rw [if_neg h1]
    have d1 : decide (x.due < y.due) = false := decide_eq_false h1
    by_cases h2 : y.due < x.due
    · rw [if_pos h2]
      go_in
      go_wp2
      go_ret
      exact ⟨rfl, ((Below.refl _ w).alloc (Nat.le_refl _) _).alloc (by simp) _⟩
    · rw [if_neg h2]
      have d2 : decide (y.due < x.due) = false := decide_eq_false h2
      go_in
      go_wp2
      go_ret
      exact ⟨rfl, ((Below.refl _ w).alloc (Nat.le_refl _) _).alloc (by simp) _⟩
theorem set7 {W : World} {B : Nat} {T : TypeId} {x y : PPt} (h : Held W B T x.arr) : Held (((((((W.setCell ⟨B, 0, none⟩ (.int .i64 y.unit)).setCell ⟨B, 1, none⟩ (.int .i64 y.fn)).setCell ⟨B, 2, none⟩ (.int .i64 y.addr)).setCell ⟨B, 3, none⟩ (.int .i64 y.order)).setCell ⟨B, 4, none⟩ (.int .i64 y.due)).setCell ⟨B, 5, none⟩ (.int .i64 y.fails)).setCell ⟨B, 6, none⟩ (.int .i64 y.turns)) B T y.arr := by
  have h3 := ((((((h.set 0 (.int .i64 y.unit)).set 1 (.int .i64 y.fn)).set 2 (.int .i64 y.addr)).set 3 (.int .i64 y.order)).set 4 (.int .i64 y.due)).set 5 (.int .i64 y.fails)).set 6 (.int .i64 y.turns)
  simpa [PPt.arr] using h3
theorem set7_below {A W : World} {n B : Nat} {y : PPt} (h : Below n A W) (hB : n ≤ B) : Below n A (((((((W.setCell ⟨B, 0, none⟩ (.int .i64 y.unit)).setCell ⟨B, 1, none⟩ (.int .i64 y.fn)).setCell ⟨B, 2, none⟩ (.int .i64 y.addr)).setCell ⟨B, 3, none⟩ (.int .i64 y.order)).setCell ⟨B, 4, none⟩ (.int .i64 y.due)).setCell ⟨B, 5, none⟩ (.int .i64 y.fails)).setCell ⟨B, 6, none⟩ (.int .i64 y.turns)) :=
  ((((((h.setCell (p := ⟨B, 0, none⟩) hB _).setCell (p := ⟨B, 1, none⟩) hB _).setCell (p := ⟨B, 2, none⟩) hB _).setCell (p := ⟨B, 3, none⟩) hB _).setCell (p := ⟨B, 4, none⟩) hB _).setCell (p := ⟨B, 5, none⟩) hB _).setCell (p := ⟨B, 6, none⟩) hB _
theorem results_cell_held {fn : Func} {p : Tmp} {ty t1 : TypeId} (h : fn.results = #[.cell p ty]) (tmps : Array Value) (P : Program) (w : World) (g1 : Nat) (c1 : Array Value) (d1 : TypeDesc)
    (hp : tmps.getD p undef = .pointer (some ⟨g1, 0, none⟩)) (h1 : Held w g1 t1 c1) (hu1 : P.underlying ty = some d1) (hd1 : d1.isRow = true) (hi1 : (P.info? ty).map (·.size) = some c1.size) : (results fn tmps).run P w = .ok (.agg c1) w := by
  have hp' : tmps[p]?.getD undef = .pointer (some ⟨g1, 0, none⟩) := by simpa using hp
  have l1 := run_loadVar_mid w g1 0 ty c1.toList d1 h1.range hu1 hd1 (by simpa using hi1)
  simp [results, h, hp', asAddr, l1]
/-- What stands at the loop's head. -/
def MinQ (w : World) (l : List PPt) (v6 : Value) (W : World) : Prop :=
  ∃ (i : Nat) (y : PPt), 1 ≤ i ∧ i ≤ l.length ∧ v6 = .int .i64 i ∧ (∃ j : Nat, l[j]? = some y) ∧ (∀ (j : Nat) (z : PPt), j < i → l[j]? = some z → y.due ≤ z.due) ∧ Held W (w.heap.size + 1) 145 y.arr ∧ (∃ z : PPt, Held W w.heap.size 145 z.arr) ∧ Below w.heap.size w W
theorem arr_cells {W : World} {B : Nat} {T : TypeId} {x : PPt} (h : Held W B T x.arr) : W.cell? ⟨B, 0, none⟩ = some (.int .i64 x.unit) ∧ W.cell? ⟨B, 1, none⟩ = some (.int .i64 x.fn) ∧ W.cell? ⟨B, 2, none⟩ = some (.int .i64 x.addr) ∧ W.cell? ⟨B, 3, none⟩ = some (.int .i64 x.order) ∧ W.cell? ⟨B, 4, none⟩ = some (.int .i64 x.due) ∧ W.cell? ⟨B, 5, none⟩ = some (.int .i64 x.fails) ∧ W.cell? ⟨B, 6, none⟩ = some (.int .i64 x.turns) :=
  ⟨h.cell 0, h.cell 1, h.cell 2, h.cell 3, h.cell 4, h.cell 5, h.cell 6⟩
set_option maxHeartbeats 4000000 in
theorem min_any (g gl cap : Nat) (c : PCf) (s : PSt) (w : World) (h : PolAt w g gl cap c s) (hn : 0 < s.l.length) (hl : s.l.length ≤ 1000) :
    Calls Tryd.prog 77 #[.slice (some ⟨gl, 0, none⟩) s.l.length cap, .func (.func 78) #[] #[]] w fun e w' => (∃ y : PPt, e = .returned (.agg y.arr) ∧ y.due = minD s.l) ∧ Below w.heap.size w w' := by
  have HPT := Lib.hid (fun (V : World) (hV : Below w.heap.size w V) (k : Nat) (x : PPt) (hx : s.l[k]? = some x) => (h.up hV).point hx)
  obtain ⟨x0, hx0⟩ : ∃ x, s.l[0]? = some x := ⟨_, List.getElem?_eq_getElem hn⟩
  obtain ⟨p0, p1, p2, p3, p4, p5, p6⟩ := h.point hx0
  simp only [Nat.zero_mul, Nat.zero_add] at p0 p1 p2 p3 p4 p5 p6
  have hlt := h.lt
  obtain ⟨l, hle⟩ : ∃ l, s.l = l := ⟨_, rfl⟩
  rw [hle] at hn hl HPT hx0 ⊢
  have hnI : ¬ ((l.length : Int) < 1) := by omega
  have HX0 := Lib.hid hx0
  clear h hle hx0
  go_in
  go_wp2
  obtain ⟨w1, hw1⟩ : ∃ Y : World, (w.alloc (.cells #[.int .i64 0, .int .i64 0, .int .i64 0, .int .i64 0, .int .i64 0, .int .i64 0, .int .i64 0] 145)).alloc (.cells #[.int .i64 x0.unit, .int .i64 x0.fn, .int .i64 x0.addr, .int .i64 x0.order, .int .i64 x0.due, .int .i64 x0.fails, .int .i64 x0.turns] 145) = Y := ⟨_, rfl⟩
  rw [hw1]
  have b1 : Below w.heap.size w w1 := by rw [← hw1]; exact ((Below.refl _ w).alloc (Nat.le_refl _) _).alloc (by simp) _
  have hA : Held w1 w.heap.size 145 (PPt.mk 0 0 0 0 0 0 0).arr := by rw [← hw1]; exact (Held.new w _ _).alloc _
  have hM : Held w1 (w.heap.size + 1) 145 x0.arr := by
    rw [← hw1]
    have := Held.new (w.alloc (.cells #[.int .i64 0, .int .i64 0, .int .i64 0, .int .i64 0, .int .i64 0, .int .i64 0, .int .i64 0] 145)) 145 x0.arr
    rw [World.size_alloc] at this
    exact this
  have H1 := Lib.hid (And.intro b1 (And.intro hA hM))
  clear hw1 b1 hA hM p0 p1 p2 p3 p4 p5 p6
  go_loopw [6] (MinQ w l) (fun v _ => l.length - (intOf v).toNat)
  case atStart => exact ⟨1, x0, by omega, by omega, rfl, ⟨0, HX0.out⟩, (fun j z hj hz => by
    obtain rfl : j = 0 := by omega
    rw [HX0.out] at hz
    cases hz
    exact Int.le_refl _), H1.out.2.2, ⟨_, H1.out.2.1⟩, H1.out.1⟩
  case round =>
    clear H1
    obtain ⟨i, y, hi1, hi2, rfl, hyl, hmin, hM, ⟨za, hA⟩, hb⟩ := hrel
    by_cases hlt2 : i < l.length
    · obtain ⟨x, hx⟩ : ∃ x, l[i]? = some x := ⟨_, List.getElem?_eq_getElem hlt2⟩
      have hltI : (i : Int) < (l.length : Int) := by omega
      have HRD := Lib.hid (fun (V : World) (hV : Below wr.heap.size wr V) => And.intro (HPT.out V (hb.trans (hV.mono hb.size)) i x hx) (arr_cells (hM.below hV hM.lt)))
      have HM := Lib.hid hM
      have HA := Lib.hid hA
      have HB := Lib.hid hb
      have HMN := Lib.hid (And.intro hyl (And.intro hmin hx))
      have hms := hM.lt
      have has := hA.lt
      clear hM hA hb hyl hmin hx
      go_wp2
      obtain ⟨wd7, hwd7⟩ : ∃ W : World, wr.drew = W := ⟨_, rfl⟩
      have hS : Below wr.heap.size wr wd7 := by rw [← hwd7]; exact (Below.refl _ _).drew
      refine wp_region_held (S := Below wr.heap.size wr) (by kernel_rfl) ?_
      change wpAnyH _ _ _ _ _ _ _ _ wr.drew
      rw [hwd7]
      clear hwd7
      refine wpAnyH_take (i := 0) (v := ?v0_1) rfl (by kernel_rfl) (by kernel_rfl) (by kernel_rfl) (fun _ _ _ h => h) (Or.inl ⟨by rfl, ?y0_1⟩) hS ?r0_1
      case y0_1 =>
        rintro W hH
        go_simp
        with_reducible rfl
      simp only [Act.put]
      try simp only [List.getElem_toArray, List.getElem_cons_zero]
      try simp only [List.setIfInBounds_toArray, List.set_cons_succ, List.set_cons_zero]
      refine wpAnyH_take (i := 1) (v := ?v1_2) rfl (by kernel_rfl) (by kernel_rfl) (by kernel_rfl) (fun _ _ _ h => h) (Or.inl ⟨by rfl, ?y1_2⟩) hS ?r1_2
      case y1_2 =>
        rintro W hH
        go_simp
        with_reducible rfl
      simp only [Act.put]
      try simp only [List.getElem_toArray, List.getElem_cons_succ, List.getElem_cons_zero]
      try simp only [List.setIfInBounds_toArray, List.set_cons_succ, List.set_cons_zero]
      refine wpAnyH_take (i := 2) (v := ?v2_3) rfl (by kernel_rfl) (by kernel_rfl) (by kernel_rfl) (fun _ _ _ h => h) (Or.inl ⟨by rfl, ?y2_3⟩) hS ?r2_3
      case y2_3 =>
        rintro W hH
        go_simp
        with_reducible rfl
      simp only [Act.put]
      try simp only [List.getElem_toArray, List.getElem_cons_succ, List.getElem_cons_zero]
      try simp only [List.setIfInBounds_toArray, List.set_cons_succ, List.set_cons_zero]
      refine wpAnyH_take (i := 3) (v := ?v3_4) rfl (by kernel_rfl) (by kernel_rfl) (by kernel_rfl) (fun _ _ _ h => h) (Or.inl ⟨by rfl, ?y3_4⟩) hS ?r3_4
      case y3_4 =>
        rintro W hH
        go_simp
        with_reducible rfl
      simp only [Act.put]
      try simp only [List.getElem_toArray, List.getElem_cons_succ, List.getElem_cons_zero]
      try simp only [List.setIfInBounds_toArray, List.set_cons_succ, List.set_cons_zero]
      refine wpAnyH_take (i := 4) (v := ?v4_5) rfl (by kernel_rfl) (by kernel_rfl) (by kernel_rfl) (fun _ _ _ h => h) (Or.inl ⟨by rfl, ?y4_5⟩) hS ?r4_5
      case y4_5 =>
        rintro W hH
        have hB := (HRD.out _ hH)
        obtain ⟨⟨p0, p1, p2, p3, p4, p5, p6⟩, y0, y1, y2, y3, y4, y5, y6⟩ := hB
        go_simp
        with_reducible rfl
      simp only [Act.put]
      try simp only [List.getElem_toArray, List.getElem_cons_succ, List.getElem_cons_zero]
      try simp only [List.setIfInBounds_toArray, List.set_cons_succ, List.set_cons_zero]
      refine wpAnyH_take (i := 5) (v := ?v5_6) rfl (by kernel_rfl) (by kernel_rfl) (by kernel_rfl) (fun _ _ _ h => h) (Or.inl ⟨by rfl, ?y5_6⟩) hS ?r5_6
      case y5_6 =>
        rintro W hH
        have hB := (HRD.out _ hH)
        obtain ⟨⟨p0, p1, p2, p3, p4, p5, p6⟩, y0, y1, y2, y3, y4, y5, y6⟩ := hB
        go_simp
        with_reducible rfl
      simp only [Act.put]
      try simp only [List.getElem_toArray, List.getElem_cons_succ, List.getElem_cons_zero]
      try simp only [List.setIfInBounds_toArray, List.set_cons_succ, List.set_cons_zero]
      refine wpAnyH_ready (rs := [6]) (by kernel_rfl) (by simp) ?_
      refine AllReadyH.cons rfl (fun K' hK' => ?_) AllReadyH.nil
      go_simp
      refine (cmp_any x y _).mono ?_
      rintro e X1 ⟨rfl, bk⟩
      dsimp only
      refine hK'.out _ _ (hS.trans (bk.mono hS.size)) (fun hS => ?_)
      clear hK' K'
      refine wpAnyH_take (i := 7) (v := ?v7_7) rfl (by kernel_rfl) (by kernel_rfl) (by kernel_rfl) (fun _ _ _ h => h) (Or.inl ⟨by rfl, ?y7_7⟩) hS ?r7_7
      case y7_7 =>
        rintro W hH
        go_simp
        with_reducible rfl
      simp only [Act.put]
      try simp only [List.getElem_toArray, List.getElem_cons_succ, List.getElem_cons_zero]
      try simp only [List.setIfInBounds_toArray, List.set_cons_succ, List.set_cons_zero]
      refine wpAnyH_done (by kernel_rfl) ?_ _
      have hBB := (HRD.out _ hS)
      obtain ⟨⟨p0, p1, p2, p3, p4, p5, p6⟩, y0, y1, y2, y3, y4, y5, y6⟩ := hBB
      have hMX := HM.out.below hS HM.out.lt
      have fy0 := hMX.frozen 0
      have fy1 := hMX.frozen 1
      have fy2 := hMX.frozen 2
      have fy3 := hMX.frozen 3
      have fy4 := hMX.frozen 4
      have fy5 := hMX.frozen 5
      have fy6 := hMX.frozen 6
      have hms := hMX.lt
      have hHX := Lib.hid (And.intro hMX (And.intro (HA.out.below hS HA.out.lt) (HB.out.trans (hS.mono HB.out.size))))
      clear hMX hS
      by_cases hxy : x.due < y.due
      · have hcz : cmpV x.due y.due < 0 := by rw [show cmpV x.due y.due = -1 from if_pos hxy]; decide
        have HXY := Lib.hid hxy
        generalize cmpV x.due y.due = cz at *
        clear hxy
        go_wp2
        go_roundw
        case rel =>
          have hxy := HXY.out
          obtain ⟨q1, q2, q3⟩ := HMN.out
          obtain ⟨h1, h2, h3⟩ := hHX.out
          refine ⟨i + 1, x, by omega, by omega, by go_num, ⟨i, q3⟩, fun j z hj hz => ?_, set7 h1, ⟨za, h2.below (set7_below (Below.refl (w.heap.size + 1) _) (Nat.le_refl _)) (by omega)⟩, set7_below h3 (by omega)⟩
          by_cases hji : j = i
          · subst hji; rw [q3] at hz; cases hz; exact Int.le_refl _
          · have := q2 j z (by omega) hz; omega
        case measure => simp [intOf]; omega
      · have hcm : decide (cmpV x.due y.due < 0) = false := by
          unfold cmpV
          rw [if_neg hxy]
          split <;> rfl
        have hcn : ¬ (cmpV x.due y.due < 0) := of_decide_eq_false hcm
        have hcz : 0 ≤ cmpV x.due y.due := by omega
        generalize cmpV x.due y.due = cz at *
        have HXY := Lib.hid hxy
        clear hxy
        go_wp2
        refine ⟨?_, by simp [intOf]; omega⟩
        obtain ⟨q1, q2, q3⟩ := HMN.out
        obtain ⟨h1, h2, h3⟩ := hHX.out
        refine ⟨i + 1, y, by omega, by omega, by go_num, q1, fun j z hj hz => ?_, h1, ⟨za, h2⟩, h3⟩
        by_cases hji : j = i
        · subst hji; rw [q3] at hz; cases hz; have := HXY.out; omega
        · exact q2 j z (by omega) hz
    · obtain rfl : i = l.length := by omega
      have hltI : decide ((l.length : Int) < (l.length : Int)) = false := by simp
      have hmd : y.due = minD l := by
        obtain ⟨j, hj⟩ := hyl
        obtain ⟨k, z, hz, he⟩ := minD_is l (by intro e; rw [e] at hn; simp at hn)
        have q1 := minD_le l j y hj
        have q2 := hmin k z (List.getElem?_eq_some_iff.1 hz).1 hz
        omega
      obtain ⟨m0, m1, m2, m3, m4, m5, m6⟩ := arr_cells hM
      obtain ⟨a0, a1, a2, a3, a4, a5, a6⟩ := arr_cells hA
      have fa := fun i => hA.frozen i
      have fa0 := fa 0
      have fa1 := fa 1
      have fa2 := fa 2
      have fa3 := fa 3
      have fa4 := fa 4
      have fa5 := fa 5
      have fa6 := fa 6
      have has := hA.lt
      have HA := Lib.hid hA
      have HB := Lib.hid hb
      have HMD := Lib.hid hmd
      clear hA hM hb hmd hyl hmin fa
      go_wp2
      exact bodyPost_ret (results_cell_held rfl _ _ _ _ _ _ (by kernel_rfl) (set7 (y := y) HA.out) Tryd.underlying145 (by kernel_rfl) (by kernel_rfl)) rfl ⟨⟨y, rfl, HMD.out⟩, set7_below HB.out (Nat.le_refl _)⟩
end Go.Proofs.YtcipleanckeoaaaDoor
