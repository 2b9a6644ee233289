/- A turn begins. -/
import Derived.Test.YtcipleanckeoaaaDoorPolB
import Derived.Test.YtcipleanckeoaaaDoorCrc
import Derived.Test.YtcipleanckeoaaaDoorPolStep
import Derived.Laws.EntriesVeiled
namespace Go.Proofs.YtcipleanckeoaaaDoor
open Go.RowKit
attribute [local go_sem] Oper.semAt_some
set_option linter.unusedVariables false
set_option linter.unusedSimpArgs false
set_option maxRecDepth 100000
def bestF (l : List (Nat × Int)) : Int × Int := l.foldl (fun r x => if r.1 < 0 ∨ x.2 < r.2 then ((x.1 : Int), x.2) else r) (-1, 0)
theorem bestF_snoc (l : List (Nat × Int)) (x : Nat × Int) : bestF (l ++ [x]) = if (bestF l).1 < 0 ∨ x.2 < (bestF l).2 then ((x.1 : Int), x.2) else bestF l := by
  unfold bestF; rw [List.foldl_append]; rfl
theorem best_first (now : Int) (l : List PPt) : ∀ n, n ≤ l.length → bestF (dueN now l n) = firstN now l n := by
  intro n
  induction n with
  | zero => intro _; rfl
  | succ n ih =>
    intro hn
    obtain ⟨x, hx⟩ : ∃ x, l[n]? = some x := ⟨_, List.getElem?_eq_getElem (by omega)⟩
    rw [dueN_at now l n x hx]
    have he : firstN now l (n + 1) = if now < x.due then firstN now l n else if (firstN now l n).1 < 0 ∨ x.due < (firstN now l n).2 then ((n : Int), x.due) else firstN now l n := by
      show (match l[n]? with | none => _ | some x => _) = _
      rw [hx]
    rw [he]
    by_cases hd : now < x.due
    · rw [if_pos hd, if_pos hd]; exact ih (by omega)
    · rw [if_neg hd, if_neg hd, bestF_snoc, ih (by omega)]
set_option maxHeartbeats 1000000 in
theorem better_any (g gl cap bp bf : Nat) (c : PCf) (s : PSt) (first due : Int) (w : World) (h : PolAt w g gl cap c s) (hp : Held w bp 78 #[.pointer (some ⟨g, 0, none⟩)]) (hf : Held w bf 2 #[.int .i64 first]) :
    Calls Tryd.prog 110 #[.int .i64 due, .pointer (some ⟨bp, 0, none⟩), .pointer (some ⟨bf, 0, none⟩)] w fun e w' => e = .returned (.bool (decide (s.opn < 0 ∨ due < first))) ∧ w = w' := by
  obtain ⟨_, _, _, _, _, _, _, c8, _⟩ := h.cells
  have p0 := hp.cell 0
  have f0 := hf.cell 0
  simp only [List.getElem?_toArray, List.getElem?_cons_zero] at p0 f0
  clear h hp hf
  by_cases ho : s.opn < 0
  · rw [decide_eq_true (Or.inl ho)]
    go_in
    go_wp2
    go_ret
    exact ⟨rfl, rfl⟩
  · have hd : decide (s.opn < 0) = false := decide_eq_false ho
    by_cases hf : due < first
    · rw [decide_eq_true (Or.inr hf)]
      go_in
      go_wp2
      go_ret
      exact ⟨rfl, rfl⟩
    · rw [decide_eq_false (fun q => q.elim ho hf)]
      have hd2 : decide (due < first) = false := decide_eq_false hf
      go_in
      go_wp2
      go_ret
      exact ⟨rfl, rfl⟩
theorem polAt_own {β : Type} {n g gl cap : Nat} {c : PCf} {f : β → PSt} : OwnFrom n (fun (x : β) W => PolAt W g gl cap c (f x)) := fun _ X Y row hs hg hr => by
  have hh : ∀ {b : Nat} {t : TypeId} {cs : Array Value}, Held X b t cs → some b ≠ row := fun {b t cs} hb e => by
    obtain ⟨_, o, ho, hc⟩ := hr b e.symm
    rw [show X.heap[b]? = _ from hb] at ho; cases ho; cases hc
  obtain ⟨h1, ⟨cur, h2, h3⟩, h4⟩ := id hs
  exact hs.kept hg (hh h1) (hh h2)
theorem bt_own {β : Type} {n g gl : Nat} {w : World} (hn : w.heap.size ≤ n) : OwnFrom n (fun (x : β) W => Bt g gl w W) := fun _ X Y row hs hg hr =>
  ⟨⟨hg.os.trans hs.1.os, hg.tape.trans hs.1.tape, hg.output.trans hs.1.output, Nat.le_trans hs.1.size hg.size, fun k hk => by omega⟩, fun k h1 h2 h3 => (hg.block k (by have := hs.size; omega) (fun e => by have := (hr k e.symm).1; omega)).trans (hs.2 k h1 h2 h3)⟩
/-- What a round finds. -/
def BegI (g gl cap : Nat) (c : PCf) (s : PSt) (w : World) (pre : List (Nat × Int)) (W : World) : Prop :=
  Held W w.heap.size 78 #[.pointer (some ⟨g, 0, none⟩)] ∧ Held W (w.heap.size + 1) 2 #[.int .i64 (bestF pre).2] ∧
    Held W (w.heap.size + 2) 158 #[.func (.func 110) #[] #[.pointer (some ⟨w.heap.size, 0, none⟩), .pointer (some ⟨w.heap.size + 1, 0, none⟩)]] ∧
    PolAt W g gl cap c { s with opn := (bestF pre).1 } ∧ Bt g gl w W
/-- A post of the normal way alone. -/
def onlyNormal (R : Act → World → Prop) : Exit → Act → World → Prop
  | .normal, a, w => R a w
  | _, _, _ => False
theorem wp_normal {P : Program} {c : Code} {Q : Exit → Act → World → Prop} {a : Act} {w : World} (h : c.wp P (onlyNormal fun a w => Q .normal a w) a w) : c.wp P Q a w :=
  Code.wp_mono (fun e a w q => by cases e <;> first | exact q | exact q.elim) h
theorem onlyNormal_normal {R : Act → World → Prop} {a : Act} {w : World} (h : R a w) : onlyNormal R .normal a w := h
/-- What region 11 reads. -/
def BegS (bp g gl k : Nat) (c : PCf) (now fails : Int) (Y : World) : Prop :=
  Y.cell? ⟨bp, 0, none⟩ = some (.pointer (some ⟨g, 0, none⟩)) ∧ Y.cell? ⟨g, 4, none⟩ = some (.int .i64 c.per) ∧ Y.cell? ⟨g, 5, none⟩ = some (.int .i64 c.fls) ∧ Y.cell? ⟨g, 7, none⟩ = some (.int .i64 now) ∧ Y.cell? ⟨gl, k * 7 + 5, none⟩ = some (.int .i64 fails)
theorem BegS.set {bp g gl k : Nat} {c : PCf} {now fails : Int} {Y : World} (h : BegS bp g gl k c now fails Y) (h1 : gl ≠ g) (h2 : gl ≠ bp) (v : Value) : BegS bp g gl k c now fails (Y.setCell ⟨gl, k * 7 + 4, none⟩ v) := by
  obtain ⟨y1, y2, y3, y4, y5⟩ := h
  exact ⟨(cell_set_far _ _ _ _ _ _ h2).trans y1, (cell_set_far _ _ _ _ _ _ h1).trans y2, (cell_set_far _ _ _ _ _ _ h1).trans y3, (cell_set_far _ _ _ _ _ _ h1).trans y4, (cell_set_ne _ _ _ _ _ (by omega)).trans y5⟩
set_option maxHeartbeats 4000000 in
theorem begin_any (g gl cap : Nat) (c : PCf) (s : PSt) (w : World) (h : PolAt w g gl cap c s) (ho : s.opn = -1) (hl : s.l.length ≤ 1000) (hc : c.ok) (hn : 0 ≤ s.now ∧ s.now ≤ 4611686018427387904) (hT : ∀ (k : Nat) (x : PPt), s.l[k]? = some x → (0 ≤ x.fails ∧ x.fails ≤ 1000000) ∧ 0 ≤ x.turns ∧ x.turns ≤ 1000000) :
    Calls Tryd.prog 81 #[.pointer (some ⟨g, 0, none⟩)] w (PolPost w g gl cap c (beginP c s).1 (.bool (beginP c s).2)) := by
  have h2F : Fence.wide.fn 111 := trivial
  have h3F : Fence.wide.fn 139 := trivial
  have h4F : Fence.wide.fn 110 := trivial
  have HT := Lib.hid hT
  have HA := Lib.hid h
  have hlt := h.lt
  have hne := h.ne
  obtain ⟨_, _, _, _, _, c6, c7, _⟩ := h.cells
  obtain ⟨k1, ⟨cur, k2, k3⟩, _⟩ := id h
  clear hT h
  refine (callsIn_wide (n := 6)).1 ?_
  refine callsIn_of_wp_marks Tryd.func81 rfl trivial ?_ rfl
  simp only [Tryd.ntmps81, List.size_toArray, List.length_cons, List.length_nil, Nat.reduceAdd, Nat.reduceSub, Array.replicate_succ, Array.replicate_zero, List.push_toArray, List.append_toArray, List.nil_append, List.cons_append]
  gi_wp2_with (gi_at_call 111; refine (due_in g _).mono ?_; rintro e w' ⟨rfl, rfl⟩)
  obtain ⟨w2, hw2⟩ : ∃ Y : World, ((w.alloc (.cells #[.pointer (some ⟨g, 0, none⟩)] 78)).alloc (.cells #[.int .i64 0] 2)).alloc (.cells #[.func (.func 110) #[] #[.pointer (some ⟨w.heap.size, 0, none⟩), .pointer (some ⟨w.heap.size + 1, 0, none⟩)]] 158) = Y := ⟨_, rfl⟩
  obtain ⟨W0, hW0⟩ : ∃ Y : World, w2.alloc (.cells #[.pointer (some ⟨g, 0, none⟩)] 78) = Y := ⟨_, rfl⟩
  have hz2 : w2.heap.size = w.heap.size + 3 := by rw [← hw2]; simp
  have b1 : Held w2 w.heap.size 78 #[.pointer (some ⟨g, 0, none⟩)] := by rw [← hw2]; exact ((Held.new w _ _).alloc _).alloc _
  have b2 : Held w2 (w.heap.size + 1) 2 #[.int .i64 0] := by rw [← hw2]; have := Held.new (w.alloc (.cells #[.pointer (some ⟨g, 0, none⟩)] 78)) 2 #[.int .i64 0]; rw [World.size_alloc] at this; exact this.alloc _
  have b3 : Held w2 (w.heap.size + 2) 158 #[.func (.func 110) #[] #[.pointer (some ⟨w.heap.size, 0, none⟩), .pointer (some ⟨w.heap.size + 1, 0, none⟩)]] := by rw [← hw2]; have := Held.new ((w.alloc (.cells #[.pointer (some ⟨g, 0, none⟩)] 78)).alloc (.cells #[.int .i64 0] 2)) 158 #[.func (.func 110) #[] #[.pointer (some ⟨w.heap.size, 0, none⟩), .pointer (some ⟨w.heap.size + 1, 0, none⟩)]]; simpa using this
  have b4 : Held W0 (w.heap.size + 3) 78 #[.pointer (some ⟨g, 0, none⟩)] := by rw [← hW0, ← hz2]; exact Held.new _ _ _
  have bw : Below w.heap.size w W0 := by rw [← hW0, ← hw2]; exact ((((Below.refl _ w).alloc (Nat.le_refl _) _).alloc (by simp) _).alloc (by simp; omega) _).alloc (by simp; omega) _
  have hS0 : W0.heap.size = w.heap.size + 4 := by rw [← hW0]; simp [hz2]
  have hB0 : BegI g gl cap c s w [] W0 := by
    refine ⟨by rw [← hW0]; exact b1.alloc _, by rw [← hW0]; exact b2.alloc _, by rw [← hW0]; exact b3.alloc _, ?_, Bt.of_below bw⟩
    have := HA.out.up bw
    have e : { s with opn := (bestF []).1 } = s := by
      have : (bestF []).1 = s.opn := by rw [ho]; rfl
      rw [this]
    rw [e]; exact this
  have hD0 : DueR (w.heap.size + 3) g gl cap cur s.now s.l.length W0 := ⟨b4, k2.below bw k2.lt, (bw.cell (p := ⟨g, 7, none⟩) hlt.1).trans c7⟩
  have h60 := (bw.cell (p := ⟨g, 6, none⟩) hlt.1).trans c6
  have HB0 := Lib.hid hB0
  rw [hw2, hW0]
  clear hB0 b1 b2 b3 b4 hw2 hW0 c6 c7 k1 k2
  refine wpIn_rangeFunc_ownG_of_H (n := 6) rfl (by omega) (gf := 139) (lb := #[.pointer (some ⟨w.heap.size + 3, 0, none⟩)]) rfl h3F (enters_of Tryd.func139 (by kernel_rfl) rfl)
    (due_stops (w.heap.size + 3) g gl cap cur s.l s.now k3 hl W0 hD0 h60) (fun h k => h.trans k) (fun W l o o' h1 h2 h3 h4 => ⟨by simp, World.putObj_heap_other (by omega), World.putObj_heap_other (by omega), World.cell?_of_block (World.putObj_heap_other (by simp; omega))⟩) (Below.refl _ _) (fun _ => rfl)
    (BegI g gl cap c s w) (fun _ _ _ => False)
    (OwnFrom.and held_ownFrom (OwnFrom.and heldF_own (OwnFrom.and held_ownFrom (OwnFrom.and polAt_own (bt_own (by omega))))))
    (fun _ _ _ _ _ hs _ _ => hs) HB0.out
    (fun x => { tmps := #[.pointer (some ⟨g, 0, none⟩), .pointer (some ⟨w.heap.size, 0, none⟩), .bool false, .pointer (some ⟨w.heap.size + 1, 0, none⟩), .pointer (some ⟨w.heap.size + 2, 0, none⟩), .int .i64 (x.1 : Int), .int .i64 x.2, undef,
        .func (.func 110) #[] #[.pointer (some ⟨w.heap.size, 0, none⟩), .pointer (some ⟨w.heap.size + 1, 0, none⟩)], .pointer (some ⟨g, 0, none⟩), .func (.func 139) #[] #[.pointer (some ⟨w.heap.size + 3, 0, none⟩)], .int .i64 (x.1 : Int), .int .i64 x.2] ++ Array.replicate 66 undef, defers := [] })
    ?assign ?body ?done ?stop (fun _ => Kd.refl _ _ _ _)
  case assign =>
    intro l x W K hK
    unfold dueV
    simp only [Array.replicate_succ, Array.replicate_zero, List.push_toArray, List.append_toArray, List.nil_append, List.cons_append] at hK
    gi_wp2
    exact hK
  case body =>
    rintro l pre x W ⟨d1, d2, d3, hP, hB⟩ hlt2
    simp only [Array.replicate_succ, Array.replicate_zero, List.push_toArray, List.append_toArray, List.nil_append, List.cons_append]
    have e3 := d3.cell 0
    have e1 := d1.cell 0
    simp only [List.getElem?_toArray, List.getElem?_cons_zero] at e1 e3
    have e2 := d2.cell 0
    simp only [List.getElem?_toArray, List.getElem?_cons_zero] at e2
    have HBT := Lib.hid (better_any g gl cap w.heap.size (w.heap.size + 1) c { s with opn := (bestF pre).1 } (bestF pre).2 x.2 W hP d1 d2)
    have HSN := bestF_snoc pre x
    obtain ⟨_, _, _, _, _, _, _, c8, _⟩ := hP.cells
    have f8 := hP.frozen 8
    have f2 := d2.frozen 0
    have hW := d3.lt
    have hD := Lib.hid (And.intro d1 (And.intro d2 (And.intro d3 (And.intro hP hB))))
    have hg3 : g ≠ w.heap.size + 3 := by omega
    by_cases hbt : (bestF pre).1 < 0 ∨ x.2 < (bestF pre).2
    · rw [if_pos hbt] at HSN
      rw [decide_eq_true (show ({ s with opn := (bestF pre).1 } : PSt).opn < 0 ∨ x.2 < (bestF pre).2 from hbt)] at HBT
      have HSN := Lib.hid HSN
      clear d1 d2 d3 hP hB hbt
      generalize bestF pre = bp at *
      obtain ⟨xk, xd⟩ := x
      dsimp only at HBT HSN ⊢
      gi_wp2
      refine (CallsIn.inRound l (callsIn_wide.2 HBT.out)).mono ?_
      rintro e w' ⟨rfl, rfl⟩
      gi_wp2
      obtain ⟨d1, d2, d3, hP, hB⟩ := hD.out
      refine ⟨((KeepsOthers.setCell _ _ _).trans (KeepsOthers.setCell _ _ _)).from _, ⟨by simp, (Below.heap_setCell _ _ _ _ (by simp)).trans (Below.heap_setCell _ _ _ _ (by simpa using hg3.symm)), (Below.heap_setCell _ _ _ _ (by simp; omega)).trans (Below.heap_setCell _ _ _ _ (by simpa using hne)), (cell_set_far _ _ _ _ _ _ (by omega)).trans (cell_set_ne _ _ _ _ _ (by decide))⟩, (d1.far (by simp; omega) _).far (by simp) _, ?_, (d3.far (by simp; omega) _).far (by simp) _, ?_, ?_⟩
      · rw [HSN.out]
        have := (d2.far (p := ⟨g, 8, none⟩) (by simp; omega) (.int .i64 (xk : Int))).set 0 (.int .i64 xd)
        simpa using this
      · rw [HSN.out]
        have := hP.put 8 (.int .i64 (xk : Int)) { s with opn := (xk : Int) } rfl rfl
        obtain ⟨q1, ⟨cur', q2, q3⟩, q4⟩ := this
        exact ⟨q1.far (by simp; omega) _, ⟨cur', q2.far (by simp; omega) _, q3⟩, q4⟩
      · have := hB.set g 8 (.inl rfl) (.int .i64 (xk : Int))
        exact ⟨this.1.setCell (p := ⟨w.heap.size + 1, 0, none⟩) (Nat.zero_le _) _, fun k h1 h2 h3 => (Below.heap_setCell _ ⟨w.heap.size + 1, 0, none⟩ _ k (by simp; omega)).trans (this.2 k h1 h2 h3)⟩
    · rw [if_neg hbt] at HSN
      rw [decide_eq_false (show ¬ (({ s with opn := (bestF pre).1 } : PSt).opn < 0 ∨ x.2 < (bestF pre).2) from hbt)] at HBT
      have HSN := Lib.hid HSN
      clear d1 d2 d3 hP hB hbt
      gi_wp2
      refine (CallsIn.inRound l (callsIn_wide.2 HBT.out)).mono ?_
      rintro e w' ⟨rfl, rfl⟩
      gi_wp2
      refine ⟨KeepsFrom.refl _ _, Kd.refl _ _ _ _, ?_⟩
      rw [BegI, HSN.out]
      exact hD.out
  case done =>
    rintro D ys W hD rfl ⟨d1, d2, d3, hP, hB⟩ hK
    rw [best_first s.now s.l s.l.length (Nat.le_refl _)] at d2 hP
    have hno : (firstN s.now s.l s.l.length = (-1, 0) ∧ beginP c s = (s, false)) ∨ ∃ (k : Nat) (x : PPt), s.l[k]? = some x ∧ firstN s.now s.l s.l.length = ((k : Int), x.due) ∧ beginP c s = (begunP c s k x, true) := by
      rcases first_is s.now s.l s.l.length (Nat.le_refl _) with ⟨q1, _⟩ | ⟨k, x, q1, q2, q3, _⟩
      · refine .inl ⟨q1, ?_⟩
        unfold beginP
        rw [q1]
        split
        · rfl
        · exact if_pos (by decide)
      · refine .inr ⟨k, x, q2, q3, ?_⟩
        unfold beginP
        rw [q3]
        show (match s.l[(k : Int).toNat]? with | none => _ | some x => _) = _
        rw [Int.toNat_natCast, q2]
        exact if_neg (by show ¬ (k : Int) < 0; omega)
    have e1 := d1.cell 0
    have e2 := d2.cell 0
    simp only [List.getElem?_toArray, List.getElem?_cons_zero] at e1 e2
    rcases hno with ⟨q1, q2⟩ | ⟨k, x, hx, q1, q2⟩
    · rw [q1] at hP
      have hP : PolAt W g gl cap c s := by
        have : ({ s with opn := -1 } : PSt) = s := by rw [← ho]
        rw [← this]; exact hP
      obtain ⟨_, _, _, _, _, _, _, c8, _⟩ := hP.cells
      rw [ho] at c8
      have HQ := Lib.hid q2
      clear d1 d2 d3 q1 q2
      gi_wp2
      refine ⟨by simp, .inl ⟨_, _, rfl, run_takeDeferred hK, ?_⟩⟩
      refine ⟨_, results_tmp rfl _ _ _, ?_⟩
      rw [PolPost, HQ.out]
      exact ⟨rfl, (polAt_own (β := Unit) (f := fun _ => s)).putObj (B := W0.heap.size) (.deferred none) (s := ()) hP hD hK rfl, (bt_own (β := Unit) (n := W0.heap.size) (by omega)).putObj (.deferred none) (s := ()) hB hD hK rfl⟩
    · rw [q1] at hP
      obtain ⟨p1, p2, p3, p4, p5, p6, p7, c8, _⟩ := hP.cells
      have HQ := Lib.hid q2
      have HP := Lib.hid hP
      have HB := Lib.hid hB
      have HX := Lib.hid hx
      have hkl := (List.getElem?_eq_some_iff.1 hx).1
      have hkI : (k : Int) < (s.l.length : Int) := by omega
      obtain ⟨_, _, _, _, x4, x5, x6⟩ := hP.point (k := k) (x := x) hx
      have hTx := HT.out k x hx
      have f4 := hP.frozen' (k * 7 + 4)
      have f6 := hP.frozen' (k * 7 + 6)
      have f9 := hP.frozen 9
      have f10 := hP.frozen 10
      have hWl := hP.lt
      clear d2 d3 q1 q2 hx hP hB
      gi_wp2
      refine wpIn_wide.2 ?_
      go_quiet (fail)
      gi_wp2
      obtain ⟨V, hV⟩ : ∃ Y : World, W.drewN nq = Y := ⟨_, rfl⟩
      have hPV : PolAt V g gl cap c { s with opn := (k : Int) } := by rw [← hV]; exact HP.out.drewN _
      have hBV : Bt g gl w V := by rw [← hV]; exact HB.out.trans (Bt.of_below (below_drewN (Below.refl _ _) _))
      have hKV : V.heap[D]? = some (.deferred (some [])) := by rw [← hV]; exact hK
      have e1 : V.cell? ⟨w.heap.size, 0, none⟩ = some (.pointer (some ⟨g, 0, none⟩)) := by rw [← hV]; exact e1
      obtain ⟨p1, p2, p3, p4, p5, p6, p7, c8, _⟩ := hPV.cells
      obtain ⟨_, _, _, _, x4, x5, x6⟩ := hPV.point (k := k) (x := x) HX.out
      have f4 := hPV.frozen' (k * 7 + 4)
      have f6 := hPV.frozen' (k * 7 + 6)
      have f9 := hPV.frozen 9
      have f10 := hPV.frozen 10
      have hWl := hPV.lt
      rw [hV]
      have HPV := Lib.hid hPV
      have HBV := Lib.hid hBV
      have HKV := Lib.hid hKV
      clear hPV hBV hKV hV HP HB hK e2
      obtain ⟨⟨x51, x52⟩, x61, x62⟩ := hTx
      have HSL := Lib.hid (slow_due c hc x)
      obtain ⟨_, _, _, ⟨cp1, cp2⟩, cf1, cf2⟩ := hc
      have w1 : IntKind.i64.wrap (x.fails - c.fls) = x.fails - c.fls := by simp only [IntKind.wrap_i64]; omega
      obtain ⟨z, hz⟩ : ∃ z, x.fails - c.fls + 1 = z := ⟨_, rfl⟩
      have w2 : IntKind.i64.wrap (x.fails - c.fls + 1) = z := by simp only [IntKind.wrap_i64]; omega
      obtain ⟨m1, hm1⟩ : ∃ m, (if 0 < z then z else 0) = m := ⟨_, rfl⟩
      obtain ⟨m2, hm2⟩ : ∃ m, (if 5 < m1 then 5 else m1) = m := ⟨_, rfl⟩
      have hsl : m2 = slowN c x := by
        unfold slowN
        rw [hz, ← hm2, ← hm1]
        split <;> split <;> omega
      have hm20 : 0 ≤ m2 := by rw [hsl]; unfold slowN; omega
      obtain ⟨u, hu⟩ : ∃ u, c.per * 2 ^ (slowN c x).toNat = u := ⟨_, rfl⟩
      have hu1 : 0 ≤ u ∧ u ≤ 137438953472 := by
        obtain ⟨q1, q2, _⟩ := HSL.out
        omega
      have hsh : IntKind.i64.wrap (c.per * 2 ^ m2.toNat) = u := by
        rw [hsl, hu]
        simp only [IntKind.wrap_i64]
        omega
      have hval : IntKind.i64.wrap (s.now + u) = s.now + u := by simp only [IntKind.wrap_i64]; omega
      have HU := Lib.hid hu
      clear hz hsl hu
      refine wpIn_wide.2 ?_
      obtain ⟨wd11, hwd11⟩ : ∃ W : World, V.drew = W := ⟨_, rfl⟩
      have hS : BegS w.heap.size g gl k c s.now x.fails wd11 := by rw [← hwd11]; exact ⟨e1, p4, p5, p7, x5⟩
      refine wp_normal ?_
      refine wp_region_held (S := BegS w.heap.size g gl k c s.now x.fails) (by kernel_rfl) ?_
      change wpAnyH _ _ _ _ _ _ _ _ V.drew
      rw [hwd11]
      refine wpAnyH_take (i := 0) (v := ?v0_1) rfl (by kernel_rfl) (by kernel_rfl) (by kernel_rfl) (fun _ _ _ h => h) (Or.inl ⟨by rfl, ?y0_1⟩) hS ?r0_1
      case y0_1 =>
        rintro W hH
        go_simp
        with_reducible rfl
      simp only [Act.put]
      try simp only [List.getElem_toArray, List.getElem_cons_zero]
      try simp only [List.setIfInBounds_toArray, List.set_cons_succ, List.set_cons_zero]
      refine wpAnyH_take (i := 1) (v := ?v1_2) rfl (by kernel_rfl) (by kernel_rfl) (by kernel_rfl) (fun _ _ _ h => h) (Or.inl ⟨by rfl, ?y1_2⟩) hS ?r1_2
      case y1_2 =>
        rintro W hH
        obtain ⟨y1, y2, y3, y4, y5⟩ := hH
        go_simp
        with_reducible rfl
      simp only [Act.put]
      try simp only [List.getElem_toArray, List.getElem_cons_succ, List.getElem_cons_zero]
      try simp only [List.setIfInBounds_toArray, List.set_cons_succ, List.set_cons_zero]
      refine wpAnyH_take (i := 2) (v := ?v2_3) rfl (by kernel_rfl) (by kernel_rfl) (by kernel_rfl) (fun _ _ _ h => h) (Or.inl ⟨by rfl, ?y2_3⟩) hS ?r2_3
      case y2_3 =>
        rintro W hH
        go_simp
        with_reducible rfl
      simp only [Act.put]
      try simp only [List.getElem_toArray, List.getElem_cons_succ, List.getElem_cons_zero]
      try simp only [List.setIfInBounds_toArray, List.set_cons_succ, List.set_cons_zero]
      refine wpAnyH_take (i := 3) (v := ?v3_4) rfl (by kernel_rfl) (by kernel_rfl) (by kernel_rfl) (fun _ _ _ h => h) (Or.inl ⟨by rfl, ?y3_4⟩) hS ?r3_4
      case y3_4 =>
        rintro W hH
        go_simp
        with_reducible rfl
      simp only [Act.put]
      try simp only [List.getElem_toArray, List.getElem_cons_succ, List.getElem_cons_zero]
      try simp only [List.setIfInBounds_toArray, List.set_cons_succ, List.set_cons_zero]
      refine wpAnyH_take (i := 4) (v := ?v4_5) rfl (by kernel_rfl) (by kernel_rfl) (by kernel_rfl) (fun _ _ _ h => h) (Or.inl ⟨by rfl, ?y4_5⟩) hS ?r4_5
      case y4_5 =>
        rintro W hH
        obtain ⟨y1, y2, y3, y4, y5⟩ := hH
        go_simp
        with_reducible rfl
      simp only [Act.put]
      try simp only [List.getElem_toArray, List.getElem_cons_succ, List.getElem_cons_zero]
      try simp only [List.setIfInBounds_toArray, List.set_cons_succ, List.set_cons_zero]
      refine wpAnyH_take (i := 5) (v := ?v5_6) rfl (by kernel_rfl) (by kernel_rfl) (by kernel_rfl) (fun _ _ _ h => h) (Or.inl ⟨by rfl, ?y5_6⟩) hS ?r5_6
      case y5_6 =>
        rintro W hH
        obtain ⟨y1, y2, y3, y4, y5⟩ := hH
        go_simp
        with_reducible rfl
      simp only [Act.put]
      try simp only [List.getElem_toArray, List.getElem_cons_succ, List.getElem_cons_zero]
      try simp only [List.setIfInBounds_toArray, List.set_cons_succ, List.set_cons_zero]
      refine wpAnyH_take (i := 6) (v := ?v6_7) rfl (by kernel_rfl) (by kernel_rfl) (by kernel_rfl) (fun _ _ _ h => h) (Or.inl ⟨by rfl, ?y6_7⟩) hS ?r6_7
      case y6_7 =>
        rintro W hH
        go_simp
        with_reducible rfl
      simp only [Act.put]
      try simp only [List.getElem_toArray, List.getElem_cons_succ, List.getElem_cons_zero]
      try simp only [List.setIfInBounds_toArray, List.set_cons_succ, List.set_cons_zero]
      refine wpAnyH_take (i := 7) (v := ?v7_8) rfl (by kernel_rfl) (by kernel_rfl) (by kernel_rfl) (fun _ _ _ h => h) (Or.inl ⟨by rfl, ?y7_8⟩) hS ?r7_8
      case y7_8 =>
        rintro W hH
        go_simp
        with_reducible rfl
      simp only [Act.put]
      try simp only [List.getElem_toArray, List.getElem_cons_succ, List.getElem_cons_zero]
      try simp only [List.setIfInBounds_toArray, List.set_cons_succ, List.set_cons_zero]
      refine wpAnyH_take (i := 8) (v := ?v8_9) rfl (by kernel_rfl) (by kernel_rfl) (by kernel_rfl) (fun _ _ _ h => h) (Or.inl ⟨by rfl, ?y8_9⟩) hS ?r8_9
      case y8_9 =>
        rintro W hH
        go_simp
        with_reducible rfl
      simp only [Act.put]
      try simp only [List.getElem_toArray, List.getElem_cons_succ, List.getElem_cons_zero]
      try simp only [List.setIfInBounds_toArray, List.set_cons_succ, List.set_cons_zero]
      refine wpAnyH_take (i := 9) (v := ?v9_10) rfl (by kernel_rfl) (by kernel_rfl) (by kernel_rfl) (fun _ _ _ h => h) (Or.inl ⟨by rfl, ?y9_10⟩) hS ?r9_10
      case y9_10 =>
        rintro W hH
        obtain ⟨y1, y2, y3, y4, y5⟩ := hH
        go_simp
        with_reducible rfl
      simp only [Act.put]
      try simp only [List.getElem_toArray, List.getElem_cons_succ, List.getElem_cons_zero]
      try simp only [List.setIfInBounds_toArray, List.set_cons_succ, List.set_cons_zero]
      refine wpAnyH_take (i := 10) (v := ?v10_11) rfl (by kernel_rfl) (by kernel_rfl) (by kernel_rfl) (fun _ _ _ h => h) (Or.inl ⟨by rfl, ?y10_11⟩) hS ?r10_11
      case y10_11 =>
        rintro W hH
        go_simp
        with_reducible rfl
      simp only [Act.put]
      try simp only [List.getElem_toArray, List.getElem_cons_succ, List.getElem_cons_zero]
      try simp only [List.setIfInBounds_toArray, List.set_cons_succ, List.set_cons_zero]
      refine wpAnyH_take (i := 11) (v := ?v11_12) rfl (by kernel_rfl) (by kernel_rfl) (by kernel_rfl) (fun _ _ _ h => h) (Or.inl ⟨by rfl, ?y11_12⟩) hS ?r11_12
      case y11_12 =>
        rintro W hH
        go_simp
        with_reducible rfl
      simp only [Act.put]
      try simp only [List.getElem_toArray, List.getElem_cons_succ, List.getElem_cons_zero]
      try simp only [List.setIfInBounds_toArray, List.set_cons_succ, List.set_cons_zero]
      refine wpAnyH_take (i := 12) (v := ?v12_13) rfl (by kernel_rfl) (by kernel_rfl) (by kernel_rfl) (fun _ _ _ h => h) (Or.inl ⟨by rfl, ?y12_13⟩) hS ?r12_13
      case y12_13 =>
        rintro W hH
        go_simp
        with_reducible rfl
      simp only [Act.put]
      try simp only [List.getElem_toArray, List.getElem_cons_succ, List.getElem_cons_zero]
      try simp only [List.setIfInBounds_toArray, List.set_cons_succ, List.set_cons_zero]
      refine wpAnyH_take (i := 13) (v := ?v13_14) rfl (by kernel_rfl) (by kernel_rfl) (by kernel_rfl) (fun _ _ _ h => h) (Or.inl ⟨by rfl, ?y13_14⟩) hS ?r13_14
      case y13_14 =>
        rintro W hH
        obtain ⟨y1, y2, y3, y4, y5⟩ := hH
        go_simp
        with_reducible rfl
      simp only [Act.put]
      try simp only [List.getElem_toArray, List.getElem_cons_succ, List.getElem_cons_zero]
      try simp only [List.setIfInBounds_toArray, List.set_cons_succ, List.set_cons_zero]
      refine wpAnyH_take (i := 14) (v := ?v14_15) rfl (by kernel_rfl) (by kernel_rfl) (by kernel_rfl) (fun _ _ _ h => h) (Or.inl ⟨by rfl, ?y14_15⟩) hS ?r14_15
      case y14_15 =>
        rintro W hH
        obtain ⟨y1, y2, y3, y4, y5⟩ := hH
        go_simp
        with_reducible rfl
      simp only [Act.put]
      try simp only [List.getElem_toArray, List.getElem_cons_succ, List.getElem_cons_zero]
      try simp only [List.setIfInBounds_toArray, List.set_cons_succ, List.set_cons_zero]
      refine wpAnyH_take (i := 15) (v := ?v15_16) rfl (by kernel_rfl) (by kernel_rfl) (by kernel_rfl) (fun _ _ _ h => h) (Or.inl ⟨by rfl, ?y15_16⟩) hS ?r15_16
      case y15_16 =>
        rintro W hH
        go_simp
        with_reducible rfl
      simp only [Act.put]
      try simp only [List.getElem_toArray, List.getElem_cons_succ, List.getElem_cons_zero]
      try simp only [List.setIfInBounds_toArray, List.set_cons_succ, List.set_cons_zero]
      refine wpAnyH_take (i := 16) (v := ?v16_17) rfl (by kernel_rfl) (by kernel_rfl) (by kernel_rfl) (fun _ _ _ h => h) (Or.inl ⟨by rfl, ?y16_17⟩) hS ?r16_17
      case y16_17 =>
        rintro W hH
        go_simp
        with_reducible rfl
      simp only [Act.put]
      try simp only [List.getElem_toArray, List.getElem_cons_succ, List.getElem_cons_zero]
      try simp only [List.setIfInBounds_toArray, List.set_cons_succ, List.set_cons_zero]
      refine wpAnyH_take (i := 17) (v := ?v17_18) rfl (by kernel_rfl) (by kernel_rfl) (by kernel_rfl) (fun _ _ _ h => h) (Or.inl ⟨by rfl, ?y17_18⟩) hS ?r17_18
      case y17_18 =>
        rintro W hH
        go_simp
        with_reducible rfl
      simp only [Act.put]
      try simp only [List.getElem_toArray, List.getElem_cons_succ, List.getElem_cons_zero]
      try simp only [List.setIfInBounds_toArray, List.set_cons_succ, List.set_cons_zero]
      refine wpAnyH_take (i := 18) (v := ?v18_19) rfl (by kernel_rfl) (by kernel_rfl) (by kernel_rfl) (fun _ _ _ h => h) (Or.inl ⟨by rfl, ?y18_19⟩) hS ?r18_19
      case y18_19 =>
        rintro W hH
        obtain ⟨y1, y2, y3, y4, y5⟩ := hH
        go_simp
        with_reducible rfl
      simp only [Act.put]
      try simp only [List.getElem_toArray, List.getElem_cons_succ, List.getElem_cons_zero]
      try simp only [List.setIfInBounds_toArray, List.set_cons_succ, List.set_cons_zero]
      refine wpAnyH_take (i := 19) (v := ?v19_20) rfl (by kernel_rfl) (by kernel_rfl) (by kernel_rfl) (fun _ _ _ h => h) (Or.inl ⟨by rfl, ?y19_20⟩) hS ?r19_20
      case y19_20 =>
        rintro W hH
        go_simp
        with_reducible rfl
      simp only [Act.put]
      try simp only [List.getElem_toArray, List.getElem_cons_succ, List.getElem_cons_zero]
      try simp only [List.setIfInBounds_toArray, List.set_cons_succ, List.set_cons_zero]
      refine wpAnyH_take (i := 20) (v := ?v20_21) rfl (by kernel_rfl) (by kernel_rfl) (by kernel_rfl) (fun _ _ _ h => h) (Or.inl ⟨by rfl, ?y20_21⟩) hS ?r20_21
      case y20_21 =>
        rintro W hH
        go_simp
        with_reducible rfl
      simp only [Act.put]
      try simp only [List.getElem_toArray, List.getElem_cons_succ, List.getElem_cons_zero]
      try simp only [List.setIfInBounds_toArray, List.set_cons_succ, List.set_cons_zero]
      refine wpAnyH_take (i := 21) (v := ?v21_22) rfl (by kernel_rfl) (by kernel_rfl) (by kernel_rfl) (fun _ _ _ h => h) (Or.inl ⟨by rfl, ?y21_22⟩) hS ?r21_22
      case y21_22 =>
        rintro W hH
        go_simp
        with_reducible rfl
      simp only [Act.put]
      try simp only [List.getElem_toArray, List.getElem_cons_succ, List.getElem_cons_zero]
      try simp only [List.setIfInBounds_toArray, List.set_cons_succ, List.set_cons_zero]
      refine wpAnyH_take (i := 22) (v := ?v22_23) rfl (by kernel_rfl) (by kernel_rfl) (by kernel_rfl) (fun _ _ _ h => h) (Or.inl ⟨by rfl, ?y22_23⟩) hS ?r22_23
      case y22_23 =>
        rintro W hH
        go_simp
        with_reducible rfl
      simp only [Act.put]
      try simp only [List.getElem_toArray, List.getElem_cons_succ, List.getElem_cons_zero]
      try simp only [List.setIfInBounds_toArray, List.set_cons_succ, List.set_cons_zero]
      refine wpAnyH_take (i := 23) (v := ?v23_24) rfl (by kernel_rfl) (by kernel_rfl) (by kernel_rfl) (fun _ _ _ h => h) (Or.inl ⟨by rfl, ?y23_24⟩) hS ?r23_24
      case y23_24 =>
        rintro W hH
        go_simp
        with_reducible rfl
      simp only [Act.put]
      try simp only [List.getElem_toArray, List.getElem_cons_succ, List.getElem_cons_zero]
      try simp only [List.setIfInBounds_toArray, List.set_cons_succ, List.set_cons_zero]
      refine wpAnyH_take (i := 24) (v := ?v24_25) rfl (by kernel_rfl) (by kernel_rfl) (by kernel_rfl) (fun _ _ _ h => h) (Or.inl ⟨by rfl, ?y24_25⟩) hS ?r24_25
      case y24_25 =>
        rintro W hH
        go_simp
        with_reducible rfl
      simp only [Act.put]
      try simp only [List.getElem_toArray, List.getElem_cons_succ, List.getElem_cons_zero]
      try simp only [List.setIfInBounds_toArray, List.set_cons_succ, List.set_cons_zero]
      refine wpAnyH_take (i := 25) (v := ?v25_26) rfl (by kernel_rfl) (by kernel_rfl) (by kernel_rfl) (fun _ _ _ h => h) (Or.inl ⟨by rfl, ?y25_26⟩) hS ?r25_26
      case y25_26 =>
        rintro W hH
        go_simp
        with_reducible rfl
      simp only [Act.put]
      try simp only [List.getElem_toArray, List.getElem_cons_succ, List.getElem_cons_zero]
      try simp only [List.setIfInBounds_toArray, List.set_cons_succ, List.set_cons_zero]
      refine wpAnyH_take (i := 26) (v := ?v26_27) rfl (by kernel_rfl) (by kernel_rfl) (by kernel_rfl) (fun _ _ _ h => h) (Or.inl ⟨by rfl, ?y26_27⟩) hS ?r26_27
      case y26_27 =>
        rintro W hH
        go_simp
        with_reducible rfl
      simp only [Act.put]
      try simp only [List.getElem_toArray, List.getElem_cons_succ, List.getElem_cons_zero]
      try simp only [List.setIfInBounds_toArray, List.set_cons_succ, List.set_cons_zero]
      refine wpAnyH_ready (rs := [27]) (by kernel_rfl) (by simp) ?_
      refine AllReadyH.cons rfl (fun K' hK' => ?_) AllReadyH.nil
      have x4w : wd11.cell? ⟨gl, k * 7 + 4, none⟩ = some (.int .i64 x.due) := by rw [← hwd11]; exact x4
      have f4w : wd11.frozen? ⟨gl, k * 7 + 4, none⟩ = false := by rw [← hwd11]; exact f4
      go_simp
      refine hK'.out _ _ (hS.set hne (by omega) _) (fun hS => ?_)
      clear hK' K'
      refine wpAnyH_done (by kernel_rfl) ?_ _
      refine onlyNormal_normal ?_
      obtain ⟨y, hy⟩ : ∃ y : PPt, y = { x with due := s.now + u } := ⟨_, rfl⟩
      have hPd : PolAt wd11 g gl cap c { s with opn := (k : Int) } := by rw [← hwd11]; exact HPV.out
      have hBd : Bt g gl w wd11 := by rw [← hwd11]; exact HBV.out.drew
      have hKd : wd11.heap[D]? = some (.deferred (some [])) := by rw [← hwd11]; exact HKV.out
      have e1d : wd11.cell? ⟨w.heap.size, 0, none⟩ = some (.pointer (some ⟨g, 0, none⟩)) := by rw [← hwd11]; exact e1
      obtain ⟨V2, hV2⟩ : ∃ Y : World, wd11.setCell ⟨gl, k * 7 + 4, none⟩ (.int .i64 (s.now + u)) = Y := ⟨_, rfl⟩
      have hP2 : PolAt V2 g gl cap c { s with opn := (k : Int), l := s.l.set k y } := by rw [← hV2]; exact hPd.putPt HX.out 4 _ y (by omega) (by rw [hy]; rfl)
      have hB2 : Bt g gl w V2 := by rw [← hV2]; exact hBd.set _ _ (.inr rfl) _
      have hK2 : V2.heap[D]? = some (.deferred (some [])) := by rw [← hV2]; exact (Below.heap_setCell _ _ _ _ (by simp; omega)).trans hKd
      have e12 : V2.cell? ⟨w.heap.size, 0, none⟩ = some (.pointer (some ⟨g, 0, none⟩)) := by rw [← hV2]; exact (cell_set_far _ _ _ _ _ _ (by omega)).trans e1d
      have hy2 : (s.l.set k y)[k]? = some y := by rw [List.getElem?_set_self hkl]
      obtain ⟨_, _, _, _, _, _, z6⟩ := hP2.point (k := k) (x := y) hy2
      have f6 := hP2.frozen' (k * 7 + 6)
      have hW2 := hP2.lt
      rw [hV2]
      have hyt : y.turns = x.turns := by rw [hy]
      rw [hyt] at z6
      have HP2 := Lib.hid hP2
      have HB2 := Lib.hid hB2
      have HK2 := Lib.hid hK2
      have HY := Lib.hid (And.intro hy hyt)
      have HY2 := Lib.hid hy2
      clear hPd hBd hKd e1d hV2 hP2 hB2 hK2 hy hyt hy2 hwd11 HPV HBV HKV e1 p1 p2 p3 p4 p5 p6 p7 c8 x4 x5 x6 f4 f9 f10 hS hval hsh hm1 hm2 w1 w2
      gi_wp2
      obtain ⟨V3, hV3⟩ : ∃ Y : World, V2.setCell ⟨gl, k * 7 + 6, none⟩ (.int .i64 (x.turns + 1)) = Y := ⟨_, rfl⟩
      have hP3 : PolAt V3 g gl cap c { s with opn := (k : Int), l := (s.l.set k y).set k { y with turns := x.turns + 1 } } := by rw [← hV3]; exact HP2.out.putPt HY2.out 6 _ { y with turns := x.turns + 1 } (by omega) rfl
      have hB3 : Bt g gl w V3 := by rw [← hV3]; exact HB2.out.set _ _ (.inr rfl) _
      have hK3 : V3.heap[D]? = some (.deferred (some [])) := by rw [← hV3]; exact (Below.heap_setCell _ _ _ _ (by simp; omega)).trans HK2.out
      have e13 : V3.cell? ⟨w.heap.size, 0, none⟩ = some (.pointer (some ⟨g, 0, none⟩)) := by rw [← hV3]; exact (cell_set_far _ _ _ _ _ _ (by omega)).trans e12
      obtain ⟨_, _, _, _, _, _, p7, _⟩ := hP3.cells
      have f9 := hP3.frozen 9
      have f10 := hP3.frozen 10
      have hW3 := hP3.lt
      rw [hV3]
      have HP3 := Lib.hid hP3
      have HB3 := Lib.hid hB3
      have HK3 := Lib.hid hK3
      have hgb : w.heap.size ≠ g := by omega
      clear hV3 hP3 hB3 hK3 HP2 HB2 HK2 z6 f6 e12
      refine wpIn_wide.2 ?_
      go_region
      obtain ⟨V4, hV4⟩ : ∃ Y : World, ((V3.setCell ⟨g, 9, none⟩ (.int .i64 s.now)).setCell ⟨g, 10, none⟩ (.int .i64 0)).drew = Y := ⟨_, rfl⟩
      have hP4 : PolAt V4 g gl cap c (begunP c s k x) := by
        rw [← hV4]
        have e : begunP c s k x = { s with opn := (k : Int), l := (s.l.set k y).set k { y with turns := x.turns + 1 }, began := s.now, tries := 0 } := by
          unfold begunP
          rw [Int.toNat_natCast, List.set_set, HY.out.1, HU.out]
        rw [e]
        exact ((HP3.out.put 9 _ { s with opn := (k : Int), l := (s.l.set k y).set k { y with turns := x.turns + 1 }, began := s.now } rfl rfl).put 10 _ { s with opn := (k : Int), l := (s.l.set k y).set k { y with turns := x.turns + 1 }, began := s.now, tries := 0 } rfl rfl).drew
      have hB4 : Bt g gl w V4 := by rw [← hV4]; exact ((HB3.out.set _ _ (.inl rfl) _).set _ _ (.inl rfl) _).drew
      have hK4 : V4.heap[D]? = some (.deferred (some [])) := by rw [← hV4]; exact ((Below.heap_setCell _ _ _ _ (by simp; omega)).trans (Below.heap_setCell _ _ _ _ (by simp; omega))).trans HK3.out
      rw [hV4]
      clear hV4 p7 f9 f10 e13
      gi_wp2
      refine ⟨by simp, .inl ⟨_, _, rfl, run_takeDeferred hK4, ?_⟩⟩
      refine ⟨_, results_tmp rfl _ _ _, ?_⟩
      rw [PolPost, HQ.out]
      exact ⟨rfl, (polAt_own (β := Unit) (f := fun _ => begunP c s k x)).putObj (B := W0.heap.size) (.deferred none) (s := ()) hP4 hD hK4 rfl, (bt_own (β := Unit) (n := W0.heap.size) (by omega)).putObj (.deferred none) (s := ()) hB4 hD hK4 rfl⟩
  case stop =>
    rintro D c pre W _ _ h _
    exact h.elim
end Go.Proofs.YtcipleanckeoaaaDoor
