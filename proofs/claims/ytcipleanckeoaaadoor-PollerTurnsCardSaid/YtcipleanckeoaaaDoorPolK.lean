/- A new poller. -/
import Derived.Test.YtcipleanckeoaaaDoorPolJ
import Derived.Test.YtcipleanckeoaaaDoorCommon
import Derived.Laws.AppendOwn
namespace Go.Proofs.YtcipleanckeoaaaDoor
open Go.RowKit
attribute [local go_sem] Oper.semAt_some
set_option linter.unusedVariables false
set_option linter.unusedSimpArgs false
set_option maxRecDepth 100000
def ptCs (l : List PPt) : List Value := l.flatMap PPt.cells
theorem ptCs_len (l : List PPt) : (ptCs l).length = l.length * 7 := by
  induction l with
  | nil => rfl
  | cons a r ih => unfold ptCs at ih ⊢; rw [List.flatMap_cons, List.length_append, ih]; simp [PPt.cells]; omega
theorem ptCs_at (l : List PPt) : ∀ (k : Nat) (x : PPt), l[k]? = some x → ∀ (j : Nat) (v : Value), x.cells[j]? = some v → (ptCs l)[k * 7 + j]? = some v := by
  induction l with
  | nil => intro k x h; simp at h
  | cons a r ih =>
    intro k x h j v hv
    have hj : j < 7 := by have := (List.getElem?_eq_some_iff.1 hv).1; simpa [PPt.cells] using this
    have hal : a.cells.length = 7 := rfl
    unfold ptCs at ih ⊢
    rw [List.flatMap_cons]
    cases k with
    | zero =>
      simp at h
      subst h
      rw [List.getElem?_append_left (by omega)]
      simpa using hv
    | succ k =>
      rw [List.getElem?_append_right (by omega), hal, show (k + 1) * 7 + j - 7 = k * 7 + j by omega]
      exact ih k x (by simpa using h) j v hv
theorem ptCs_next (l : List PPt) (k : Nat) (x : PPt) (h : l[k]? = some x) : ptCs (l.take (k + 1)) = ptCs (l.take k) ++ x.cells := by
  rw [List.take_add_one, h]
  unfold ptCs
  rw [List.flatMap_append]
  simp
def newS (ps : List PPt) : PSt := ⟨ps, 0, -1, 0, 0, false, 0⟩
/-- What New tells. -/
def NewPost (w : World) (c : PCf) (ps : List PPt) (e : Ending) (w' : World) : Prop :=
  (e = .returned (.tuple #[.pointer none, .int .i64 230]) ∧ ¬ polB c ps ∧ Below w.heap.size w w') ∨
  (∃ g gl cap, e = .returned (.tuple #[.pointer (some ⟨g, 0, none⟩), .int .i64 0]) ∧ polB c ps ∧ PolAt w' g gl cap c (newS ps) ∧ w.heap.size ≤ g ∧ w.heap.size ≤ gl ∧ Below w.heap.size w w')
/-- The poller while its points are laid. -/
def polN (A : Option Addr) (n cp : Nat) (c : PCf) (v : Value) : Array Value := #[.slice A n cp, .int .i64 c.tmo, .int .i64 c.sil, .int .i64 c.ret, .int .i64 c.per, .int .i64 c.fls, v, .int .i64 0, .int .i64 (-1), .int .i64 0, .int .i64 0, .bool false, .int .i64 0]
def NewS (gb g : Nat) (x : PPt) (Z : World) : Prop := Held Z gb 143 #[.int .i64 x.unit, .int .i64 x.fn, .int .i64 x.addr, .int .i64 x.order]
set_option maxHeartbeats 4000000 in
theorem new_any (A : Option Addr) (n cp : Nat) (c : PCf) (ps : List PPt) (w : World) (hT : LimT w) (hD : PtsI w w.heap.size A n cp ps) (hz : ∀ x ∈ ps, x.due = 0 ∧ x.fails = 0 ∧ x.turns = 0) :
    Calls Tryd.prog 34 #[.agg (polC0 A n cp c)] w (NewPost w c ps) := by
  obtain ⟨w1, hw1⟩ : ∃ W, w.alloc (.cells (polC0 A n cp c) 75) = W := ⟨_, rfl⟩
  have hb1 : Below w.heap.size w w1 := by rw [← hw1]; exact (Below.refl _ w).alloc (Nat.le_refl _) _
  have hK1 : Held w1 w.heap.size 75 (polC0 A n cp c) := by rw [← hw1]; exact Held.new w _ _
  have HC := Lib.hid (pcheck_any A n cp c ps w1 (hT.up hb1) (hD.up hb1))
  have HL := Lib.hid hD.1
  have HD := Lib.hid (fun (X : World) (h : Below w.heap.size w X) => hD.up h)
  have HZ := Lib.hid hz
  have hm : n ≤ maxLen := Nat.le_trans hD.2.1 hD.2.2.1
  unfold maxLen at hm
  clear hT hD hz
  have HK := Lib.hid hK1
  unfold polC0 at hw1 hK1 HC ⊢
  have k0 := hK1.cell 0
  have k1 := hK1.cell 1
  have k2 := hK1.cell 2
  have k3 := hK1.cell 3
  have k4 := hK1.cell 4
  have k5 := hK1.cell 5
  have hk := hK1.lt
  simp only [List.getElem?_toArray, List.getElem?_cons_zero, List.getElem?_cons_succ] at k0 k1 k2 k3 k4 k5
  go_in
  go_wp2_with fail
  refine HC.out.mono ?_
  rintro e w2 ⟨⟨b, rfl, hb⟩, hb2⟩
  have HB := Lib.hid hb
  have hbb := hb1.trans (hb2.mono hb1.size)
  have hK2 := hK1.below hb2 hK1.lt
  clear hb hw1 hK1 HK k0 k1 k2 k3 k4 k5 hk
  have k0 := hK2.cell 0
  have k1 := hK2.cell 1
  have k2 := hK2.cell 2
  have k3 := hK2.cell 3
  have k4 := hK2.cell 4
  have k5 := hK2.cell 5
  have hk := hK2.lt
  simp only [List.getElem?_toArray, List.getElem?_cons_zero, List.getElem?_cons_succ] at k0 k1 k2 k3 k4 k5
  cases b with
  | false =>
    dsimp only [chkV, Bool.false_eq_true, ite_false, ↓reduceIte]
    go_wp2_with fail
    go_ret2
    exact .inl ⟨rfl, (fun h => by have := HB.out.2 h; cases this), hbb⟩
  | true =>
    have HOK := Lib.hid (HB.out.1 rfl)
    have hn1 : 1 ≤ n ∧ n ≤ 64 := by have := HOK.out; rw [← HL.out]; exact ⟨this.2.1, this.2.2.1⟩
    have HK := Lib.hid hK2
    clear HB hK2
    dsimp only [chkV, ite_true, ↓reduceIte]
    go_wp2_with fail
    obtain ⟨w3, hw3⟩ : ∃ Y : World, w2.alloc (.cells (polN A n cp c (.slice none 0 0)) 141) = Y := ⟨_, rfl⟩
    have hb3 : Below w2.heap.size w2 w3 := by rw [← hw3]; exact (Below.refl _ _).alloc (Nat.le_refl _) _
    have hP3 : Held w3 w2.heap.size 141 (polN A n cp c (.slice none 0 0)) := by rw [← hw3]; exact Held.new _ _ _
    have hbb3 := hbb.trans (hb3.mono hbb.size)
    have hz2 := hbb.size
    have hz3 : w3.heap.size = w2.heap.size + 1 := by rw [← hw3]; simp
    change Code.wp _ _ _ _ (w2.alloc (.cells (polN A n cp c (.slice none 0 0)) 141))
    rw [hw3]
    obtain ⟨g, hg⟩ : ∃ g, w2.heap.size = g := ⟨_, rfl⟩
    rw [hg] at hP3 hz3 ⊢
    obtain ⟨i0, hi, hz0, hz1, hz4⟩ := info_parts (show _ from by kernel_rfl : (Tryd.prog.info? 145).map (fun i => (i.zero, i.size, i.bytes)) = some (some (.agg #[.int .i64 0, .int .i64 0, .int .i64 0, .int .i64 0, .int .i64 0, .int .i64 0, .int .i64 0]), 7, 56))
    go_loopw [19] (fun s19 wx => ∃ (k : Nat) (v : Value), k ≤ n ∧ s19 = .int .i64 k ∧ Held wx g 141 (polN A n cp c v) ∧ wx.ownsRow w3.heap.size 145 7 v k (ptCs (ps.take k)) ∧ Below w.heap.size w wx) (fun s19 _ => n - (intOf s19).toNat)
    case atStart => exact ⟨0, _, Nat.zero_le _, rfl, hP3, World.ownsRow_nil _ _ _ _, hbb3⟩
    case round =>
      obtain ⟨k, v, hk, rfl, hP, hO, hbr⟩ := hrel
      have HO := Lib.hid hO
      have HPP := Lib.hid hP
      have hgr := hP.lt
      clear hP hO
      by_cases hlt : k < n
      · obtain ⟨x, hx⟩ : ∃ d, ps[k]? = some d := ⟨_, List.getElem?_eq_getElem (by rw [HL.out]; exact hlt)⟩
        obtain ⟨gA, off, hAe, hgA, hcA⟩ := (HD.out wr hbr).2.2.2 (by omega)
        obtain ⟨x0, x1, x2, x3⟩ := hcA k _ hx
        have HX := Lib.hid hx
        have HAE := Lib.hid hAe
        subst hAe
        have hltI : (k : Int) < (n : Int) := by omega
        clear hcA hx
        go_wp2_with fail
        obtain ⟨V, hV⟩ : ∃ Y : World, wr.alloc (.cells #[.int .i64 x.unit, .int .i64 x.fn, .int .i64 x.addr, .int .i64 x.order] 143) = Y := ⟨_, rfl⟩
        have hbV : Below wr.heap.size wr V := by rw [← hV]; exact (Below.refl _ _).alloc (Nat.le_refl _) _
        have hXV : Held V wr.heap.size 143 #[.int .i64 x.unit, .int .i64 x.fn, .int .i64 x.addr, .int .i64 x.order] := by rw [← hV]; exact Held.new _ _ _
        obtain ⟨wd, hwd⟩ : ∃ Y : World, V.drew = Y := ⟨_, rfl⟩
        have hS : NewS wr.heap.size g x wd := by rw [← hwd]; exact hXV
        have hPd : Held wd g 141 (polN (some ⟨gA, off, none⟩) n cp c v) := by rw [← hwd]; exact (HPP.out.below hbV hgr : Held V g _ _)
        have hrd : wd.ownsRow w3.heap.size 145 7 v k (ptCs (ps.take k)) := by rw [← hwd]; exact (lown_up HO.out hbV).drew
        have hbd : Below w.heap.size w wd := by rw [← hwd]; exact (hbr.trans (hbV.mono hbr.size)).drew
        have hgd : g < wd.heap.size := hPd.lt
        have hOC : wd.cell? ⟨g, 6, none⟩ = some v := hPd.cell 6
        have hzd : w3.heap.size ≤ wd.heap.size := by omega
        have HBY := Lib.hid (show k + 1 ≤ maxLen ∧ (k + 1) * 56 ≤ 140737488355328 by unfold maxLen; omega)
        rw [hV]
        refine wp_region_held (S := NewS wr.heap.size g x) (by kernel_rfl) ?_
        change wpAnyH _ _ _ _ _ _ _ _ V.drew
        rw [hwd]
        clear hwd hV hbV hXV x0 x1 x2 x3
        refine wpAnyH_take (i := 0) (v := ?v0_1) rfl (by kernel_rfl) (by kernel_rfl) (by kernel_rfl) (fun _ _ _ h => h) (Or.inl ⟨by rfl, ?y0_1⟩) hS ?r0_1
        case y0_1 =>
          rintro W hH
          go_simp
          with_reducible rfl
        simp only [Act.put]
        try simp only [List.getElem_toArray, List.getElem_cons_zero]
        try simp only [List.setIfInBounds_toArray, List.set_cons_succ, List.set_cons_zero]
        refine wpAnyH_take (i := 1) (v := ?v1_2) rfl (by kernel_rfl) (by kernel_rfl) (by kernel_rfl) (fun _ _ _ h => h) (Or.inl ⟨by rfl, ?y1_2⟩) hS ?r1_2
        case y1_2 =>
          rintro W hH
          go_simp
          with_reducible rfl
        simp only [Act.put]
        try simp only [List.getElem_toArray, List.getElem_cons_succ, List.getElem_cons_zero]
        try simp only [List.setIfInBounds_toArray, List.set_cons_succ, List.set_cons_zero]
        refine wpAnyH_take (i := 2) (v := ?v2_3) rfl (by kernel_rfl) (by kernel_rfl) (by kernel_rfl) (fun _ _ _ h => h) (Or.inl ⟨by rfl, ?y2_3⟩) hS ?r2_3
        case y2_3 =>
          rintro W hH
          go_simp
          with_reducible rfl
        simp only [Act.put]
        try simp only [List.getElem_toArray, List.getElem_cons_succ, List.getElem_cons_zero]
        try simp only [List.setIfInBounds_toArray, List.set_cons_succ, List.set_cons_zero]
        refine wpAnyH_take (i := 3) (v := ?v3_4) rfl (by kernel_rfl) (by kernel_rfl) (by kernel_rfl) (fun _ _ _ h => h) (Or.inl ⟨by rfl, ?y3_4⟩) hS ?r3_4
        case y3_4 =>
          rintro W hH
          go_simp
          with_reducible rfl
        simp only [Act.put]
        try simp only [List.getElem_toArray, List.getElem_cons_succ, List.getElem_cons_zero]
        try simp only [List.setIfInBounds_toArray, List.set_cons_succ, List.set_cons_zero]
        refine wpAnyH_take (i := 5) (v := ?v5_5) rfl (by kernel_rfl) (by kernel_rfl) (by kernel_rfl) (fun _ _ _ h => h) (Or.inl ⟨by rfl, ?y5_5⟩) hS ?r5_5
        case y5_5 =>
          rintro W hH
          have r0 := Held.cell hH 0
          have r1 := Held.cell hH 1
          have r2 := Held.cell hH 2
          have r3 := Held.cell hH 3
          go_simp
          with_reducible rfl
        simp only [Act.put]
        try simp only [List.getElem_toArray, List.getElem_cons_succ, List.getElem_cons_zero]
        try simp only [List.setIfInBounds_toArray, List.set_cons_succ, List.set_cons_zero]
        refine wpAnyH_take (i := 6) (v := ?v6_6) rfl (by kernel_rfl) (by kernel_rfl) (by kernel_rfl) (fun _ _ _ h => h) (Or.inl ⟨by rfl, ?y6_6⟩) hS ?r6_6
        case y6_6 =>
          rintro W hH
          go_simp
          with_reducible rfl
        simp only [Act.put]
        try simp only [List.getElem_toArray, List.getElem_cons_succ, List.getElem_cons_zero]
        try simp only [List.setIfInBounds_toArray, List.set_cons_succ, List.set_cons_zero]
        refine wpAnyH_ready (rs := [4, 7]) (by kernel_rfl) (by simp) ?_
        refine AllReadyH.cons rfl (fun K' hK' => ?_) (AllReadyH.cons rfl (fun K' hK' => ?_) AllReadyH.nil)
        · skip
          go_simp
          try rw [hOC]
          refine hK'.out _ _ hS (fun hS => ?_)
          clear hK' K'
          refine wpAnyH_ready (rs := [7]) (by kernel_rfl) (by simp) ?_
          refine AllReadyH.cons rfl (fun K' hK' => ?_) AllReadyH.nil
          go_simp
          have ba := (Below.refl wd.heap.size wd).alloc (Nat.le_refl _) (.cells #[.int .i64 x.unit, .int .i64 x.fn, .int .i64 x.addr, .int .i64 x.order, .int .i64 0, .int .i64 0, .int .i64 0] 145)
          have hsl : SlV (wd.alloc (.cells #[.int .i64 x.unit, .int .i64 x.fn, .int .i64 x.addr, .int .i64 x.order, .int .i64 0, .int .i64 0, .int .i64 0] 145)) (wd.alloc (.cells #[.int .i64 x.unit, .int .i64 x.fn, .int .i64 x.addr, .int .i64 x.order, .int .i64 0, .int .i64 0, .int .i64 0] 145)).heap.size (some ⟨wd.heap.size, 0, none⟩) 1 1 7 [.int .i64 x.unit, .int .i64 x.fn, .int .i64 x.addr, .int .i64 x.order, .int .i64 0, .int .i64 0, .int .i64 0] := SlV.of_lit rfl rfl (by omega)
          obtain ⟨wa, hwa⟩ : ∃ Y, wd.alloc (.cells #[.int .i64 x.unit, .int .i64 x.fn, .int .i64 x.addr, .int .i64 x.order, .int .i64 0, .int .i64 0, .int .i64 0] 145) = Y := ⟨_, rfl⟩
          rw [hwa] at ba hsl ⊢
          rw [← ba.cell (p := ⟨g, 6, none⟩) hgd] at hOC
          have hr8 := lown_up hrd ba
          have hz8 := ba.size
          have hnews := news_v hsl.2.2.2.2
          refine hK'.out _ _ (hS.below ba hS.lt) (fun hS => ?_)
          clear hK' K'
          refine wpAnyH_ready (rs := [8]) (by kernel_rfl) (by simp) ?_
          refine AllReadyH.cons rfl (fun K' hK' => ?_) AllReadyH.nil
          refine wp_append_own _ (.tmp 27) (.tmp 30) 139 rfl w3.heap.size 145 i0 (.agg #[.int .i64 0, .int .i64 0, .int .i64 0, .int .i64 0, .int .i64 0, .int .i64 0, .int .i64 0]) 7 56 Tryd.underlying139 hi hz0 hz1 hz4 rfl (by decide) v k _ (by kernel_rfl) hr8 ⟨wd.heap.size, 0, none⟩ 1 1 [.int .i64 x.unit, .int .i64 x.fn, .int .i64 x.addr, .int .i64 x.order, .int .i64 0, .int .i64 0, .int .i64 0] (by kernel_rfl) rfl hnews ?_ HBY.out.1 HBY.out.2 (by omega) ?_
          · intro u hu; simp only [List.mem_cons, List.not_mem_nil, or_false] at hu; rcases hu with rfl | rfl | rfl | rfl | rfl | rfl | rfl <;> rfl
          intro v9 V9 o9 g9 _
          have hza9 := HZ.out x (List.mem_of_getElem? HX.out)
          replace o9 : V9.ownsRow w3.heap.size 145 7 v9 (k + 1) (ptCs (ps.take (k + 1))) := by rw [ptCs_next ps k x HX.out, show x.cells = [.int .i64 x.unit, .int .i64 x.fn, .int .i64 x.addr, .int .i64 x.order, .int .i64 0, .int .i64 0, .int .i64 0] by unfold PPt.cells; rw [hza9.1, hza9.2.1, hza9.2.2]]; exact o9
          obtain ⟨A9, c9, rfl, _⟩ := SlV.of_own (by decide : 0 < 7) o9
          have hP9 : Held V9 g 141 (polN (some ⟨gA, off, none⟩) n cp c v) := (hPd.below ba hgd).kept g9 (fun e => by have := (HO.out.lt _ e.symm).1; omega)
          have b9 : Below w.heap.size w V9 := (hbd.trans (ba.mono hbd.size)).grown g9 (by omega) (fun B hB => by have := (HO.out.lt B hB).1; omega)
          have c69 := hP9.cell 6
          have f69 := hP9.frozen 6
          have l9 := hP9.lt
          have r9 := (o9.lt)
          simp only [Act.put]
          refine hK'.out _ _ (Held.kept hS g9 (fun e => by have := (HO.out.lt _ e.symm).2; omega)) (fun hS => ?_)
          clear hK' K'
          refine wpAnyH_take (i := 9) (v := ?v9_7) rfl (by kernel_rfl) (by kernel_rfl) (by kernel_rfl) (fun _ _ _ h => h) (Or.inl ⟨by rfl, ?y9_7⟩) hS ?r9_7
          case y9_7 =>
            rintro W hH
            go_simp
            with_reducible rfl
          simp only [Act.put]
          try simp only [List.getElem_toArray, List.getElem_cons_succ, List.getElem_cons_zero]
          try simp only [List.setIfInBounds_toArray, List.set_cons_succ, List.set_cons_zero]
          refine wpAnyH_take (i := 10) (v := ?v10_8) rfl (by kernel_rfl) (by kernel_rfl) (by kernel_rfl) (fun _ _ _ h => h) (Or.inl ⟨by rfl, ?y10_8⟩) hS ?r10_8
          case y10_8 =>
            rintro W hH
            go_simp
            with_reducible rfl
          simp only [Act.put]
          try simp only [List.getElem_toArray, List.getElem_cons_succ, List.getElem_cons_zero]
          try simp only [List.setIfInBounds_toArray, List.set_cons_succ, List.set_cons_zero]
          refine wpAnyH_ready (rs := [11]) (by kernel_rfl) (by simp) ?_
          refine AllReadyH.cons rfl (fun K' hK' => ?_) AllReadyH.nil
          go_simp
          refine hK'.out _ _ (Held.far (p := ⟨g, 6, none⟩) hS (by show wr.heap.size ≠ g; omega) _) (fun hS => ?_)
          clear hK' K'
          refine wpAnyH_done (by kernel_rfl) ?_ _
          have hP10 : Held (V9.setCell ⟨g, 6, none⟩ (.slice A9 (k + 1) c9)) g 141 (polN (some ⟨gA, off, none⟩) n cp c (.slice A9 (k + 1) c9)) := hP9.set 6 _
          have o10 := lown_same o9 (w' := V9.setCell ⟨g, 6, none⟩ (.slice A9 (k + 1) c9)) (fun b e => Below.heap_setCell _ _ _ b (by have := (o9.lt b e).1; show b ≠ g; omega))
          have b10 := b9.setCell (p := ⟨g, 6, none⟩) (by show w.heap.size ≤ g; omega) (.slice A9 (k + 1) c9)
          have HREL := Lib.hid (And.intro hP10 (And.intro o10 b10))
          clear hP10 o10 b10 hP9 o9 b9 c69 f69 l9 hOC hPd hrd hbd
          go_wp2_with fail
          go_roundw
          case rel => exact ⟨k + 1, _, by omega, by go_num, HREL.out.1, HREL.out.2.1, HREL.out.2.2⟩
          case measure => simp [intOf]; omega
        · skip
          go_simp
          have ba := (Below.refl wd.heap.size wd).alloc (Nat.le_refl _) (.cells #[.int .i64 x.unit, .int .i64 x.fn, .int .i64 x.addr, .int .i64 x.order, .int .i64 0, .int .i64 0, .int .i64 0] 145)
          have hsl : SlV (wd.alloc (.cells #[.int .i64 x.unit, .int .i64 x.fn, .int .i64 x.addr, .int .i64 x.order, .int .i64 0, .int .i64 0, .int .i64 0] 145)) (wd.alloc (.cells #[.int .i64 x.unit, .int .i64 x.fn, .int .i64 x.addr, .int .i64 x.order, .int .i64 0, .int .i64 0, .int .i64 0] 145)).heap.size (some ⟨wd.heap.size, 0, none⟩) 1 1 7 [.int .i64 x.unit, .int .i64 x.fn, .int .i64 x.addr, .int .i64 x.order, .int .i64 0, .int .i64 0, .int .i64 0] := SlV.of_lit rfl rfl (by omega)
          obtain ⟨wa, hwa⟩ : ∃ Y, wd.alloc (.cells #[.int .i64 x.unit, .int .i64 x.fn, .int .i64 x.addr, .int .i64 x.order, .int .i64 0, .int .i64 0, .int .i64 0] 145) = Y := ⟨_, rfl⟩
          rw [hwa] at ba hsl ⊢
          rw [← ba.cell (p := ⟨g, 6, none⟩) hgd] at hOC
          have hr8 := lown_up hrd ba
          have hz8 := ba.size
          have hnews := news_v hsl.2.2.2.2
          refine hK'.out _ _ (hS.below ba hS.lt) (fun hS => ?_)
          clear hK' K'
          refine wpAnyH_ready (rs := [4]) (by kernel_rfl) (by simp) ?_
          refine AllReadyH.cons rfl (fun K' hK' => ?_) AllReadyH.nil
          go_simp
          try rw [hOC]
          refine hK'.out _ _ hS (fun hS => ?_)
          clear hK' K'
          refine wpAnyH_ready (rs := [8]) (by kernel_rfl) (by simp) ?_
          refine AllReadyH.cons rfl (fun K' hK' => ?_) AllReadyH.nil
          refine wp_append_own _ (.tmp 27) (.tmp 30) 139 rfl w3.heap.size 145 i0 (.agg #[.int .i64 0, .int .i64 0, .int .i64 0, .int .i64 0, .int .i64 0, .int .i64 0, .int .i64 0]) 7 56 Tryd.underlying139 hi hz0 hz1 hz4 rfl (by decide) v k _ (by kernel_rfl) hr8 ⟨wd.heap.size, 0, none⟩ 1 1 [.int .i64 x.unit, .int .i64 x.fn, .int .i64 x.addr, .int .i64 x.order, .int .i64 0, .int .i64 0, .int .i64 0] (by kernel_rfl) rfl hnews ?_ HBY.out.1 HBY.out.2 (by omega) ?_
          · intro u hu; simp only [List.mem_cons, List.not_mem_nil, or_false] at hu; rcases hu with rfl | rfl | rfl | rfl | rfl | rfl | rfl <;> rfl
          intro v9 V9 o9 g9 _
          have hza9 := HZ.out x (List.mem_of_getElem? HX.out)
          replace o9 : V9.ownsRow w3.heap.size 145 7 v9 (k + 1) (ptCs (ps.take (k + 1))) := by rw [ptCs_next ps k x HX.out, show x.cells = [.int .i64 x.unit, .int .i64 x.fn, .int .i64 x.addr, .int .i64 x.order, .int .i64 0, .int .i64 0, .int .i64 0] by unfold PPt.cells; rw [hza9.1, hza9.2.1, hza9.2.2]]; exact o9
          obtain ⟨A9, c9, rfl, _⟩ := SlV.of_own (by decide : 0 < 7) o9
          have hP9 : Held V9 g 141 (polN (some ⟨gA, off, none⟩) n cp c v) := (hPd.below ba hgd).kept g9 (fun e => by have := (HO.out.lt _ e.symm).1; omega)
          have b9 : Below w.heap.size w V9 := (hbd.trans (ba.mono hbd.size)).grown g9 (by omega) (fun B hB => by have := (HO.out.lt B hB).1; omega)
          have c69 := hP9.cell 6
          have f69 := hP9.frozen 6
          have l9 := hP9.lt
          have r9 := (o9.lt)
          simp only [Act.put]
          refine hK'.out _ _ (Held.kept hS g9 (fun e => by have := (HO.out.lt _ e.symm).2; omega)) (fun hS => ?_)
          clear hK' K'
          refine wpAnyH_take (i := 9) (v := ?v9_9) rfl (by kernel_rfl) (by kernel_rfl) (by kernel_rfl) (fun _ _ _ h => h) (Or.inl ⟨by rfl, ?y9_9⟩) hS ?r9_9
          case y9_9 =>
            rintro W hH
            go_simp
            with_reducible rfl
          simp only [Act.put]
          try simp only [List.getElem_toArray, List.getElem_cons_succ, List.getElem_cons_zero]
          try simp only [List.setIfInBounds_toArray, List.set_cons_succ, List.set_cons_zero]
          refine wpAnyH_take (i := 10) (v := ?v10_10) rfl (by kernel_rfl) (by kernel_rfl) (by kernel_rfl) (fun _ _ _ h => h) (Or.inl ⟨by rfl, ?y10_10⟩) hS ?r10_10
          case y10_10 =>
            rintro W hH
            go_simp
            with_reducible rfl
          simp only [Act.put]
          try simp only [List.getElem_toArray, List.getElem_cons_succ, List.getElem_cons_zero]
          try simp only [List.setIfInBounds_toArray, List.set_cons_succ, List.set_cons_zero]
          refine wpAnyH_ready (rs := [11]) (by kernel_rfl) (by simp) ?_
          refine AllReadyH.cons rfl (fun K' hK' => ?_) AllReadyH.nil
          go_simp
          refine hK'.out _ _ (Held.far (p := ⟨g, 6, none⟩) hS (by show wr.heap.size ≠ g; omega) _) (fun hS => ?_)
          clear hK' K'
          refine wpAnyH_done (by kernel_rfl) ?_ _
          have hP10 : Held (V9.setCell ⟨g, 6, none⟩ (.slice A9 (k + 1) c9)) g 141 (polN (some ⟨gA, off, none⟩) n cp c (.slice A9 (k + 1) c9)) := hP9.set 6 _
          have o10 := lown_same o9 (w' := V9.setCell ⟨g, 6, none⟩ (.slice A9 (k + 1) c9)) (fun b e => Below.heap_setCell _ _ _ b (by have := (o9.lt b e).1; show b ≠ g; omega))
          have b10 := b9.setCell (p := ⟨g, 6, none⟩) (by show w.heap.size ≤ g; omega) (.slice A9 (k + 1) c9)
          have HREL := Lib.hid (And.intro hP10 (And.intro o10 b10))
          clear hP10 o10 b10 hP9 o9 b9 c69 f69 l9 hOC hPd hrd hbd
          go_wp2_with fail
          go_roundw
          case rel => exact ⟨k + 1, _, by omega, by go_num, HREL.out.1, HREL.out.2.1, HREL.out.2.2⟩
          case measure => simp [intOf]; omega
      · obtain rfl : k = n := by omega
        have hle : ps.take k = ps := List.take_of_length_le (by rw [HL.out]; exact Nat.le_refl _)
        have ho := HO.out
        rw [hle] at ho
        obtain ⟨gl, cap, cur, rfl, hgl, hcu, hnc, hcm, hcs, htk⟩ : ∃ gl cap cur, v = .slice (some ⟨gl, 0, none⟩) k cap ∧ w3.heap.size ≤ gl ∧ wr.heap[gl]? = some (.cells cur 145) ∧ k ≤ cap ∧ cap ≤ maxLen ∧ cur.size = cap * 7 ∧ cur.toList.take (ptCs ps).length = ptCs ps := by
          rcases ho.2 with ⟨_, h0⟩ | ⟨gl, cap, cur, q1, q2, q3, q4, q5, q6, q7⟩
          · omega
          · exact ⟨gl, cap, cur, q1, q2, q3, q4, q5, q6, by rw [ptCs_len, HL.out]; exact q7⟩
        have HN : Hid (NewPost w c ps (.returned (.tuple #[.pointer (some ⟨g, 0, none⟩), .int .i64 0])) (wr.setCell ⟨g, 0, none⟩ (.slice none 0 0))) := Lib.hid (.inr ⟨g, gl, cap, rfl, HOK.out, ⟨by
            have q := HPP.out.set 0 (.slice none 0 0)
            have e : (polN A k cp c (.slice (some ⟨gl, 0, none⟩) k cap)).setIfInBounds 0 (.slice none 0 0) = polC c gl (newS ps).l.length cap (newS ps) := by rw [show (newS ps).l.length = k from HL.out]; rfl
            rw [e] at q
            exact q, ⟨cur, Held.far (p := ⟨g, 0, none⟩) (show Held wr gl 145 cur from hcu) (by show gl ≠ g; omega) _, fun i x hi j u hu => by
              have q := ptCs_at ps i x hi j u hu
              rw [← htk, List.getElem?_take] at q
              split at q
              · simpa using q
              · cases q⟩, by rw [show (newS ps).l.length = k from HL.out]; exact hnc, hcm⟩, by omega, by omega, hbr.setCell (p := ⟨g, 0, none⟩) (by show w.heap.size ≤ g; omega) _⟩)
        have p0 := HPP.out.cell 0
        have f0 := HPP.out.frozen 0
        clear HO ho hle hcu htk HPP
        go_wp2_with fail
        go_ret2
        exact HN.out
end Go.Proofs.YtcipleanckeoaaaDoor
