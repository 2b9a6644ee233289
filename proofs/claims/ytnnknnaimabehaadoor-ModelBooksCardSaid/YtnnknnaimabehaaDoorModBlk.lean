/- model.words, walked. -/
import Derived.Test.YtnnknnaimabehaaDoorModWords
import Derived.Test.YtnnknnaimabehaaDoorKeep
namespace Go.Proofs.YtnnknnaimabehaaDoor
open Go.RowKit Go.Shelf
attribute [local go_sem] Oper.semAt_some
set_option linter.unusedVariables false
set_option maxRecDepth 100000
/-- An append to a box's row, the row owned from behind the boxes. -/
theorem boxed_appended_kx {W w0 w1 : World} {n₁ B : Nat} {t e : TypeId} {size : Nat} {v v' : Value} {k m : Nat} {xs ys : List Value}
    (hv : Boxed w0 B t v) (hte : t ≠ e) (hrow : w0.ownsRow n₁ e size v k xs) (hn₁ : n₁ ≤ w0.heap.size) (hB : B < n₁) (h0 : KeepsOthers W w0) (hb0 : Below n₁ W w0)
    (hown' : w1.ownsRow n₁ e size v' m ys) (hgrow : w0.grownBy w1 v.ownBlock) :
    Boxed w1 B t v ∧ Boxed (w1.setCell ⟨B, 0, none⟩ v') B t v' ∧ (w1.setCell ⟨B, 0, none⟩ v').ownsRow n₁ e size v' m ys ∧ KeepsOthers W (w1.setCell ⟨B, 0, none⟩ v') ∧ Kx B n₁ W (w1.setCell ⟨B, 0, none⟩ v') := by
  have hv1 : Boxed w1 B t v := hv.kept hgrow (hv.not_row hte hrow)
  refine ⟨hv1, hv1.set v', hown'.kept (grownBy_setCell' w1 B v') (.inr (hv1.not_row hte hown').symm), ?_, ?_⟩
  · refine (h0.trans (KeepsOthers.of_grownBy hgrow fun j o ej hj => ?_)).trans (KeepsOthers.setCell _ _ _)
    rcases hrow.2 with ⟨rfl, _⟩ | ⟨g, cap, cur, rfl, _, hgb, _⟩
    · simp [Value.ownBlock] at ej
    · obtain rfl : g = j := by simpa [Value.ownBlock] using ej
      rw [hgb] at hj; cases hj; rfl
  · refine (Kx.of_below (hb0.grown hgrow hn₁ fun j ej => ?_) (by omega)).set 0 v'
    rcases hrow.2 with ⟨rfl, _⟩ | ⟨g, cap, cur, rfl, hb, _, _⟩
    · simp [Value.ownBlock] at ej
    · obtain rfl : g = j := by simpa [Value.ownBlock] using ej
      exact hb

/-- What stands at the loop's head. -/
def BlkI (w : World) (gO : Nat) (ps : List PtP) (vs : List ValP) (k : Nat) (W : World) : Prop :=
  (∃ v, Boxed W gO 22 v ∧ W.ownsRow (gO + 3) 77 1 v ((seqW ps vs k).getD []).length (((seqW ps vs k).getD []).map (Value.int .u16)) ∧ (seqW ps vs k).isSome = true) ∧ Held W (gO + 1) 4 #[.bool true] ∧ Below w.heap.size w W
/-- What stands where it was left. -/
def BlkX (w : World) (gO : Nat) (ps : List PtP) (vs : List ValP) (c : Code) (k : Nat) (W : World) : Prop :=
  (∃ v, Boxed W gO 22 v ∧ W.ownsRow (gO + 3) 77 1 v ((seqW ps vs (k - 1)).getD []).length (((seqW ps vs (k - 1)).getD []).map (Value.int .u16)) ∧ (c = .exit 0 ∧ seqW ps vs k = none)) ∧ Held W (gO + 1) 4 #[.bool false] ∧ Below w.heap.size w W
theorem BlkI.own {w : World} {gO : Nat} {ps : List PtP} {vs : List ValP} (B : Nat) (hB : w.heap.size ≤ B) : OwnFrom B (BlkI w gO ps vs) :=
  OwnFrom.and (Own.from (holdsRow_own (gO + 3) gO 22 77 1 (fun k => ((seqW ps vs k).getD []).length) (fun k => ((seqW ps vs k).getD []).map (Value.int .u16)) (fun k _ => (seqW ps vs k).isSome = true)) _) (OwnFrom.and held_ownFrom (ownFrom_below (Nat.le_refl _) hB))
theorem BlkX.own {w : World} {gO : Nat} {ps : List PtP} {vs : List ValP} (c : Code) (B : Nat) (hB : w.heap.size ≤ B) : OwnFrom B (BlkX w gO ps vs c) :=
  OwnFrom.and (Own.from (holdsRow_own (gO + 3) gO 22 77 1 (fun k => ((seqW ps vs (k - 1)).getD []).length) (fun k => ((seqW ps vs (k - 1)).getD []).map (Value.int .u16)) (fun k _ => c = .exit 0 ∧ seqW ps vs k = none)) _) (OwnFrom.and held_ownFrom (ownFrom_below (Nat.le_refl _) hB))
theorem BlkI.up {w : World} {gO : Nat} {ps : List PtP} {vs : List ValP} {k : Nat} {X X' : World} (h : BlkI w gO ps vs k X) (hb : Below X.heap.size X X') : BlkI w gO ps vs k X' := by
  obtain ⟨⟨v, h1, h2, h3⟩, h4, h5⟩ := h
  exact ⟨⟨v, boxed_up h1 hb, mown_up h2 hb, h3⟩, h4.below hb h4.lt, h5.trans (hb.mono h5.size)⟩
theorem BlkX.up {w : World} {gO : Nat} {ps : List PtP} {vs : List ValP} {c : Code} {k : Nat} {X X' : World} (h : BlkX w gO ps vs c k X) (hb : Below X.heap.size X X') : BlkX w gO ps vs c k X' := by
  obtain ⟨⟨v, h1, h2, h3⟩, h4, h5⟩ := h
  exact ⟨⟨v, boxed_up h1 hb, mown_up h2 hb, h3⟩, h4.below hb h4.lt, h5.trans (hb.mono h5.size)⟩
theorem all_in (id : Int) (A : Option Addr) (n c : Nat) (B : Option Addr) (n' d : Nat) (w : World) :
    CallsIn Fence.wide 5 Tryd.prog 34 #[.agg #[.int .i64 id, .slice A n c, .slice B n' d]] w fun e w' => e = .returned (.func (.func 43) #[] #[.pointer (some ⟨w.heap.size, 0, none⟩)]) ∧ w' = w.alloc (.cells #[.int .i64 id, .slice A n c, .slice B n' d] 37) := by
  refine callsIn_of_wp Tryd.func34 rfl trivial ?_ rfl
  simp only [Tryd.ntmps34, List.size_toArray, List.length_cons, List.length_nil, Nat.reduceAdd, Nat.reduceSub, Array.replicate_succ, Array.replicate_zero, List.push_toArray, List.append_toArray, List.nil_append, List.cons_append]
  gi_wp2
  go_ret
  exact ⟨rfl, rfl⟩
set_option maxHeartbeats 4000000 in
theorem words_blk (id : Int) (A : Option Addr) (n c : Nat) (B : Option Addr) (n' d : Nat) (ps : List PtP) (vs : List ValP) (hvs : ∀ v ∈ vs, ValIn v) (w : World) (hP : PtI w w.heap.size A n c ps) (hV : VlI w w.heap.size B n' d vs) :
    CallsIn Fence.wide 6 Tryd.prog 20 #[.agg #[.int .i64 id, .slice A n c, .slice B n' d]] w (WPost w (blkW id ps vs)) := by
  obtain ⟨w1, hw1⟩ : ∃ W, w.alloc (.cells #[.int .i64 id, .slice A n c, .slice B n' d] 37) = W := ⟨_, rfl⟩
  have hb1 : Below w.heap.size w w1 := by rw [← hw1]; exact (Below.refl _ w).alloc (Nat.le_refl _) _
  have hD1 : Held w1 w.heap.size 37 #[.int .i64 id, .slice A n c, .slice B n' d] := by rw [← hw1]; exact Held.new w _ _
  have hl := hP.1
  have hl2 := hV.1
  have HP := Lib.hid (fun (X : World) (h : Below w.heap.size w X) => hP.up h)
  have HV := Lib.hid (fun (X : World) (h : Below w.heap.size w X) => hV.up h)
  have HVS := Lib.hid hvs
  have HLEN := Lib.hid (mlen_any id A n c ps w1 (HP.out w1 hb1))
  have d0 : w1.cell? ⟨w.heap.size, 0, none⟩ = some (.int .i64 id) := hD1.cell 0
  have d1 : w1.cell? ⟨w.heap.size, 1, none⟩ = some (.slice A n c) := hD1.cell 1
  have d2 : w1.cell? ⟨w.heap.size, 2, none⟩ = some (.slice B n' d) := hD1.cell 2
  clear hP hV hvs
  have h1F : Fence.wide.fn 10 := trivial
  have h2F : Fence.wide.fn 34 := trivial
  have h3F : Fence.wide.fn 43 := trivial
  have hro : Fence.wide.round = none := rfl
  obtain ⟨i0, hi, hz0, hz1, hz2⟩ := info_parts infoW16
  refine callsIn_of_wp_marks Tryd.func20 rfl trivial ?_ rfl
  simp only [Tryd.ntmps20, List.size_toArray, List.length_cons, List.length_nil, Nat.reduceAdd, Nat.reduceSub, Array.replicate_succ, Array.replicate_zero, List.push_toArray, List.append_toArray, List.nil_append, List.cons_append]
  gi_wp2
  refine wpIn_scope ?_
  cases hdf : defB id ps with
  | false =>
    have hb : blkW id ps vs = none := by unfold blkW; rw [if_neg (fun h => by rw [hdf] at h; cases h.1)]
    rw [hb]
    rw [hdf] at HLEN
    have HLEN2 : Hid (Calls Tryd.prog 10 #[.agg #[.int .i64 id, .slice A n c]] w1 fun e w' => e = .returned (.tuple #[.int .i64 (lenP id ps), .int .i64 260]) ∧ Below w1.heap.size w1 w') := Lib.hid (by simpa using HLEN.out)
    clear hb HLEN hdf
    gi_wp2_with (gi_at_call 10; refine (callsIn_wide.2 HLEN2.out).mono ?_; rintro e w2 ⟨rfl, hb2⟩)
    refine ⟨_, results_tmp2 rfl _ _ _, ?_⟩
    exact ⟨none, 0, 0, rfl, (fun l h => by cases h), hb1.trans (hb2.mono hb1.size)⟩
  | true =>
    rw [hdf] at HLEN
    have HLEN2 : Hid (Calls Tryd.prog 10 #[.agg #[.int .i64 id, .slice A n c]] w1 fun e w' => e = .returned (.tuple #[.int .i64 (lenP id ps), .int .i64 0]) ∧ Below w1.heap.size w1 w') := Lib.hid (by simpa using HLEN.out)
    clear HLEN
    have HDF := Lib.hid hdf
    clear hdf
    by_cases hnn : n' = n
    · subst hnn
      gi_wp2_with (gi_at_call 10; refine (callsIn_wide.2 HLEN2.out).mono ?_; rintro e w2 ⟨rfl, hb2⟩; have hD2 := hD1.below hb2 hD1.lt; have f1 : w2.cell? ⟨w.heap.size, 1, none⟩ = some (.slice A n' c) := hD2.cell 1; have f2 : w2.cell? ⟨w.heap.size, 2, none⟩ = some (.slice B n' d) := hD2.cell 2)
      refine wpIn_label ?_
      have hD2 : Held w2 w.heap.size 37 #[.int .i64 id, .slice A n' c, .slice B n' d] := hD1.below hb2 hD1.lt
      have hb2w := hb1.trans (hb2.mono hb1.size)
      obtain ⟨w4, hw4⟩ : ∃ W, (w2.alloc (.cells #[.slice none 0 0] 22)).alloc (.cells #[.bool true] 4) = W := ⟨_, rfl⟩
      have hb4 : Below w2.heap.size w2 w4 := by rw [← hw4]; exact ((Below.refl _ _).alloc (Nat.le_refl _) _).alloc (by simp) _
      have hO4 : Held w4 w2.heap.size 22 #[.slice none 0 0] := by rw [← hw4]; exact (Held.new w2 _ _).alloc _
      have hF4 : Held w4 (w2.heap.size + 1) 4 #[.bool true] := by rw [← hw4]; have := Held.new (w2.alloc (.cells #[.slice none 0 0] 22)) 4 #[.bool true]; rw [World.size_alloc] at this; exact this
      have hz4 : w4.heap.size = w2.heap.size + 2 := by rw [← hw4]; simp
      have hD4 := hD2.below hb4 hD2.lt
      have g0 : w4.cell? ⟨w.heap.size, 0, none⟩ = some (.int .i64 id) := hD4.cell 0
      have g1 : w4.cell? ⟨w.heap.size, 1, none⟩ = some (.slice A n' c) := hD4.cell 1
      have g2 : w4.cell? ⟨w.heap.size, 2, none⟩ = some (.slice B n' d) := hD4.cell 2
      have HZ4 := Lib.hid hz4
      clear hz4
      gi_wp2_with (gi_at_call 34; refine (all_in id A n' c B n' d _).mono ?_; rintro e w' ⟨rfl, rfl⟩)
      obtain ⟨w5, hw5⟩ : ∃ W, w4.alloc (.cells #[.int .i64 id, .slice A n' c, .slice B n' d] 37) = W := ⟨_, rfl⟩
      have hb5 : Below w4.heap.size w4 w5 := by rw [← hw5]; exact (Below.refl _ _).alloc (Nat.le_refl _) _
      have hK5 : Held w5 w4.heap.size 37 #[.int .i64 id, .slice A n' c, .slice B n' d] := by rw [← hw5]; exact Held.new _ _ _
      have hz5 : w5.heap.size = w4.heap.size + 1 := by rw [← hw5]; simp
      rw [hw5]
      have hO5 := hO4.below hb5 hO4.lt
      have hF5 := hF4.below hb5 hF4.lt
      have hb5w := (hb2w.trans (hb4.mono hb2w.size)).trans (hb5.mono (Nat.le_trans hb2w.size hb4.size))
      obtain ⟨gO, hgO⟩ : ∃ x, w2.heap.size = x := ⟨_, rfl⟩
      have hz4 : w4.heap.size = gO + 2 := by rw [← hgO]; exact HZ4.out
      have hgl : w.heap.size < gO := by rw [← hgO]; exact hD2.lt
      rw [hgO] at hO5 hF5
      rw [hz4] at hK5 hz5
      simp only [hgO, hz4]
      clear hw5 hw4 hgO hO4 hF4 hD4 hD2 g0 g1 g2 d0 d1 d2 hb4 hb5 hz4 hb2w hb2 hb1 hD1 HLEN2
      have hBv : ∀ X, (Below gO w5 X ∧ X.heap[gO + 2]? = w5.heap[gO + 2]?) → X.cell? ⟨gO + 2, 1, none⟩ = some (.slice A n' c) ∧ X.cell? ⟨gO + 2, 2, none⟩ = some (.slice B n' d) := fun X h => ⟨(World.cell?_of_block h.2).trans (hK5.cell 1), (World.cell?_of_block h.2).trans (hK5.cell 2)⟩
      refine wpIn_range_r (n := 6) rfl (by omega) (gf := 43) (lb := #[.pointer (some ⟨gO + 2, 0, none⟩)]) rfl trivial (enters_of Tryd.func43 (by kernel_rfl) rfl)
        (all_seq (gO + 2) (fun X X' => Below gO X X' ∧ X'.heap[gO + 2]? = X.heap[gO + 2]?) A n' c B d ps vs HVS.out w5 (fun X => ⟨Below.refl _ _, rfl⟩) (fun X Y Z h k => ⟨h.1.trans k.1, k.2.trans h.2⟩) (fun X X' h1 h2 => ⟨h2.mono (by omega), h2.block _ (by omega)⟩) (fun X X' h => h.1.size) hBv
          (fun X h => HP.out X (hb5w.trans (h.1.mono (by omega)))) (fun X h => HV.out X (hb5w.trans (h.1.mono (by omega)))))
        (fun h k => ⟨h.1.trans k.1, k.2.trans h.2⟩) (fun W l o o' hl h1 h2 h3 => ⟨belowK_b (w := w5) (by omega) W l o o' hl h1 h2 h3, World.putObj_heap_other (by omega)⟩)
        (fun X X' hx k o hk ho hc => (hx.block k (Array.getElem?_eq_some_iff.1 ho).1).trans ho) (fun k xs W h => by obtain ⟨_, _, _, _, _, _, _, rfl, _⟩ := h; rfl) (fun k xs W l o o' _ h1 h2 _ h => tell_put ps vs k xs W l o o' h1 h2 h)
        (BlkI w gO ps vs) (BlkX w gO ps vs) ?own ?ownx (fun s X X' hx h => h.up hx) (fun c s X X' hx h => h.up hx) (fun _ _ _ => trivial)
        ⟨⟨_, hO5, World.ownsRow_nil _ _ _ _, rfl⟩, hF5, hb5w⟩
        (fun k xs => { tmps := #[.agg #[.int .i64 id, .slice A n' c, .slice B n' d], .pointer (some ⟨w.heap.size, 0, none⟩), .slice none 0 0, .bool false, .int .i64 (lenP id ps), .int .i64 0, .pointer (some ⟨gO, 0, none⟩), .pointer (some ⟨gO + 1, 0, none⟩), xs.getD 0 undef, xs.getD 1 undef, .tuple #[.int .i64 (lenP id ps), .int .i64 0], .pointer (some ⟨w.heap.size, 0, none⟩), .agg #[.int .i64 id, .slice A n' c], .tuple #[.int .i64 (lenP id ps), .int .i64 0], .int .i64 (lenP id ps), .int .i64 0, .int .i64 0, .bool false, .bool false, .pointer (some ⟨w.heap.size, 2, none⟩), .slice B n' d, .int .i64 n', .pointer (some ⟨w.heap.size, 0, none⟩), .pointer (some ⟨w.heap.size, 1, none⟩), .slice A n' c, .int .i64 n', .bool false, .bool false, .agg #[.int .i64 id, .slice A n' c, .slice B n' d], .func (.func 43) #[] #[.pointer (some ⟨gO + 2, 0, none⟩)], xs.getD 0 undef, xs.getD 1 undef, undef, undef, undef, undef, undef, undef, undef, undef], defers := [] })
        ?assign ?body ?done ?stop
      case own => exact BlkI.own _ (by omega)
      case ownx => exact fun c => BlkX.own c _ (by omega)
      case assign =>
        rintro l k xs W K ⟨A', m, c', p, v, _, _, rfl, _⟩ hK
        gi_wp2
        exact hK
      case body =>
        rintro l k xs W hl' hr hT ⟨A', m, c', p, v, hp, hv, rfl, hsl⟩ ⟨⟨v0, hv0, hrow, hG⟩, hF, hB⟩
        obtain ⟨L, hL⟩ : ∃ L, seqW ps vs k = some L := Option.isSome_iff_exists.1 hG
        rw [hL] at hrow
        simp only [Option.getD_some] at hrow
        have hall : ps.all ptB = true := by
          have := HDF.out
          unfold defB at this
          rw [Bool.and_eq_true] at this
          exact this.2
        have hn50 : ps.length ≤ 50 := by
          have := HDF.out
          unfold defB at this
          rw [Bool.and_eq_true] at this
          have := of_decide_eq_true this.1
          omega
        have hLl := (seqW_len ps vs hall k L hL (by omega)).2
        have hszW : gO + 3 ≤ W.heap.size := by
          obtain ⟨r, hr2⟩ := hr
          have := (Array.getElem?_eq_some_iff.1 hr2).1
          omega
        have hff := hF.frozen
        cases hw : ptWords p v with
        | none =>
          have hnx : seqW ps vs (k + 1) = none := by rw [seqW_next ps vs k L p v hL hp hv, hw]; rfl
          have HNX := Lib.hid hnx
          have HL0 := Lib.hid hL
          have hcf : W.cell? ⟨gO + 1, 0, none⟩ = some (.bool true) := hF.cell 0
          clear hnx hL hG hp hv hw hsl hall
          gi_wp2
          refine ⟨(KeepsOthers.setCell W _ _).from _, ⟨v0, (Below.heap_setCell W ⟨gO + 1, 0, none⟩ _ gO (by show gO ≠ gO + 1; omega)).trans hv0, ?_, rfl, HNX.out⟩, hF.set 0 _, hB.setCell (p := ⟨gO + 1, 0, none⟩) (by show w.heap.size ≤ gO + 1; omega) _⟩
          show World.ownsRow _ _ _ _ _ ((seqW ps vs k).getD []).length (((seqW ps vs k).getD []).map (Value.int .u16))
          rw [HL0.out]
          exact mown_same hrow fun g hg => Below.heap_setCell W ⟨gO + 1, 0, none⟩ _ g (by have := (hrow.lt g hg).1; show g ≠ gO + 1; omega)
        | some M =>
          have hnx : seqW ps vs (k + 1) = some (L ++ M) := by rw [seqW_next ps vs k L p v hL hp hv, hw]; rfl
          have hpt := ptB_in (List.all_eq_true.1 hall p (List.mem_of_getElem? hp))
          have hMl := pt_len p v M hw
          obtain ⟨s1, s2, s3, s4, s5⟩ := hsl M hw
          obtain ⟨ga, oa, rfl, hga, hcc⟩ := s5 (by omega)
          have hgn : ga ≠ gO + 1 := by
            rintro rfl
            have h1 := hcc 0 _ (List.getElem?_eq_getElem (show 0 < M.length by omega))
            have h2 := hF.cell (oa + 0)
            rw [h2] at h1
            cases oa <;> simp at h1
          obtain ⟨W1, hW1⟩ : ∃ X, W.setCell ⟨gO + 1, 0, none⟩ (.bool true) = X := ⟨_, rfl⟩
          have hv1 : Boxed W1 gO 22 v0 := by rw [← hW1]; exact (Below.heap_setCell W ⟨gO + 1, 0, none⟩ _ gO (by show gO ≠ gO + 1; omega)).trans hv0
          have hrow1 : W1.ownsRow (gO + 3) 77 1 v0 L.length (L.map (Value.int .u16)) := by rw [← hW1]; exact mown_same hrow fun g hg => Below.heap_setCell W ⟨gO + 1, 0, none⟩ _ g (by have := (hrow.lt g hg).1; show g ≠ gO + 1; omega)
          have hF1 : Held W1 (gO + 1) 4 #[.bool true] := by rw [← hW1]; exact hF.set 0 _
          have hk1 : KeepsOthers W W1 := by rw [← hW1]; exact KeepsOthers.setCell _ _ _
          have hx1 : Below gO W W1 := by rw [← hW1]; exact (Below.refl _ _).setCell (p := ⟨gO + 1, 0, none⟩) (by show gO ≤ gO + 1; omega) _
          have hh1 : W1.heap[gO + 2]? = W.heap[gO + 2]? := by rw [← hW1]; exact Below.heap_setCell W ⟨gO + 1, 0, none⟩ _ (gO + 2) (by show gO + 2 ≠ gO + 1; omega)
          have hs1 : W1.heap.size = W.heap.size := by rw [← hW1]; simp [World.setCell]
          have hcM : ∀ j u, (M.map (Value.int .u16))[j]? = some u → W1.cell? ((⟨ga, oa, none⟩ : Addr).add j) = some u := fun j u hu => by
            rw [List.getElem?_map] at hu
            cases hMj : M[j]? with
            | none => rw [hMj] at hu; cases hu
            | some y =>
              rw [hMj] at hu
              have := hcc j y hMj
              rw [← hW1]
              rw [show (⟨ga, oa, none⟩ : Addr).add j = ⟨ga, oa + j, none⟩ from by simp [Addr.add]]
              rw [World.cell?_of_block (Below.heap_setCell W ⟨gO + 1, 0, none⟩ _ ga hgn)]
              rw [this]
              simpa using hu
          have hcf : W.cell? ⟨gO + 1, 0, none⟩ = some (.bool true) := hF.cell 0
          have hcf1 : W1.cell? ⟨gO + 1, 0, none⟩ = some (.bool true) := hF1.cell 0
          have hcv1 := hv1.cell
          have hfv1 := hv1.frozen
          have HNX := Lib.hid hnx
          have hsz1 : gO + 3 ≤ W1.heap.size := by omega
          have HB1 := Lib.hid (show L.length + m ≤ maxLen ∧ (L.length + m) * 2 ≤ 140737488355328 by unfold maxLen; omega)
          have HMN := Lib.hid (show (M.map (Value.int .u16)).length = m * 1 by simp; omega)
          have HS1 := Lib.hid hs1
          clear hnx hL hG hp hv hw hsl hall hMl hLl s1 s2 s3 s4 s5 hcc hs1
          gi_wp2_with (gi_at_builtin; refine wpListIn_append_own _ rfl _ _ 22 rfl (gO + 3) 77 i0 (.int .u16 0) 1 2 Tryd.underlying22 hi hz0 hz1 hz2 rfl (by decide) _ _ _ rfl hrow1 ⟨ga, oa, none⟩ m c' (M.map (Value.int .u16)) rfl HMN.out hcM (by intro u hu; obtain ⟨y, _, rfl⟩ := List.mem_map.1 hu; rfl) HB1.out.1 HB1.out.2 hsz1 ?_; intro v' w6 hown' hgrow _; obtain ⟨A9, c9, rfl, _⟩ := SlI.of_own (xs := L ++ M) (by rw [List.map_append]; exact hown'); obtain ⟨hv2, hv3, hr2, hk2, hx2⟩ := boxed_appended_kx (W := W1) (w0 := W1) hv1 (by decide) hrow1 hsz1 (by omega) (KeepsOthers.refl _) (Below.refl _ _) hown' hgrow; have hc2 := hv2.cell; have hf2 := hv2.frozen)
          refine ⟨(hk1.trans hk2).from _, ⟨hx1.trans hx2.1, (hx2.2 _ (by omega) (by omega)).trans hh1⟩, ⟨_, hv3, ?_, by rw [HNX.out]; rfl⟩, (hx2.2 _ (by omega) (by omega)).trans hF1, hB.trans ((hx1.trans hx2.1).mono (by omega))⟩
          rw [HNX.out, Option.getD_some, List.length_append, List.map_append]
          have hmm : m = M.length := by have := HMN.out; simp at this; omega
          subst hmm
          exact hr2
      case done =>
        rintro D k W hD rfl hI hK
        obtain ⟨⟨v0, hv0, hrow, hG⟩, hF, hB⟩ := hI
        obtain ⟨L, hL⟩ : ∃ L, seqW ps vs k = some L := Option.isSome_iff_exists.1 hG
        have hb : blkW id ps vs = some L := by unfold blkW; rw [if_pos ⟨HDF.out, by omega⟩, hl, hL]
        rw [hL] at hrow
        simp only [Option.getD_some] at hrow
        obtain ⟨A9, c9, rfl, hs9⟩ := SlI.of_own hrow
        have hcv := hv0.cell
        have hcf : W.cell? ⟨gO + 1, 0, none⟩ = some (.bool true) := hF.cell 0
        have HBK := Lib.hid hb
        have HS9 := Lib.hid hs9
        have hI2 := fun (q : Nat) => (BlkI.own (w := w) (gO := gO) (ps := ps) (vs := vs) w5.heap.size (by omega)).putObj (W := W.drewN q) (.deferred none) (BlkI.up (X := W) ⟨⟨_, hv0, by rw [hL]; exact hrow, hG⟩, hF, hB⟩ (below_drewN (Below.refl _ _) q)) hD hK rfl
        have HI2 := Lib.hid hI2
        have hvc := fun (q : Nat) => ((World.cell?_of_block (World.putObj_heap_other (w := W.drewN q) (o := .deferred none) (show gO ≠ D by omega))).trans hcv : ((W.drewN q).putObj D (.deferred none)).cell? ⟨gO, 0, none⟩ = some (.slice A9 L.length c9))
        have HVC := Lib.hid hvc
        have HL0 := Lib.hid hL
        clear hI2 hvc hb hs9 hL hG
        gi_wp2
        refine wpIn_wide.2 ?_
        go_quiet (fail)
        gi_wp2
        refine ⟨by simp, .inl ⟨_, _, rfl, run_takeDeferred (w := W.drewN nq) hK, ?_⟩⟩
        obtain ⟨⟨v', hv', hrow', _⟩, _, hB'⟩ := HI2.out nq
        have hvv := hv'.cell
        rw [HVC.out nq] at hvv
        injection hvv with hvv
        subst hvv
        rw [HL0.out] at hrow'
        obtain ⟨A8, c8, he8, hs8⟩ := SlI.of_own hrow'
        injection he8 with h81 h82 h83
        subst h81 h83
        have hfr : ∀ a, A9 = some a → w.heap.size ≤ a.block := fun a e => by
          subst e
          have := (hrow'.lt a.block rfl).1
          omega
        exact ⟨_, results_tmp2 rfl _ _ _, ⟨_, _, _, by rw [HBK.out]; rfl, (fun l hl => by rw [HBK.out] at hl; injection hl with hl; rw [← hl]; exact ⟨hs8, hfr⟩), hB'⟩⟩
      case stop =>
        rintro D cd k W hD hSp ⟨⟨v0, hv0, hrow, rfl, hno⟩, hF, hB⟩ hK
        have hb : blkW id ps vs = none := by
          unfold blkW
          split
          · have := seqW_stop ps vs k hno (ps.length - k)
            rw [show k + (ps.length - k) = ps.length by omega] at this
            exact this
          · rfl
        obtain ⟨L, hL⟩ : ∃ L, (seqW ps vs (k - 1)).getD [] = L := ⟨_, rfl⟩
        have hrow0 := hrow
        rw [hL] at hrow
        obtain ⟨A9, c9, rfl, hs9⟩ := SlI.of_own hrow
        have hcv := hv0.cell
        have hcf : W.cell? ⟨gO + 1, 0, none⟩ = some (.bool false) := hF.cell 0
        have HBK := Lib.hid hb
        have hI2 := fun (q : Nat) => (BlkX.own (w := w) (gO := gO) (ps := ps) (vs := vs) (.exit 0) w5.heap.size (by omega)).putObj (W := W.drewN q) (.deferred none) (BlkX.up (X := W) ⟨⟨_, hv0, hrow0, rfl, hno⟩, hF, hB⟩ (below_drewN (Below.refl _ _) q)) hD hK rfl
        have HI2 := Lib.hid hI2
        have hvc := fun (q : Nat) => ((World.cell?_of_block (World.putObj_heap_other (w := W.drewN q) (o := .deferred none) (show gO ≠ D by omega))).trans hcv : ((W.drewN q).putObj D (.deferred none)).cell? ⟨gO, 0, none⟩ = some (.slice A9 L.length c9))
        have HVC := Lib.hid hvc
        clear hI2 hvc hb hs9 hL hno hrow0 hrow
        gi_wp2
        refine wpIn_wide.2 ?_
        go_quiet (fail)
        gi_wp2
        refine ⟨by simp, .inl ⟨_, _, rfl, run_takeDeferred (w := W.drewN nq) hK, ?_⟩⟩
        obtain ⟨_, _, hB'⟩ := HI2.out nq
        exact ⟨_, results_tmp2 rfl _ _ _, ⟨_, _, _, by rw [HBK.out]; rfl, (fun l hl => by rw [HBK.out] at hl; cases hl), hB'⟩⟩
    · have hb : blkW id ps vs = none := by unfold blkW; rw [if_neg (fun h => hnn (by omega))]
      rw [hb]
      have hne : ((n' : Int) != (n : Int)) = true := by simp; omega
      have hne2 : (n' != n) = true := by simp [hnn]
      gi_wp2_with (gi_at_call 10; refine (callsIn_wide.2 HLEN2.out).mono ?_; rintro e w2 ⟨rfl, hb2⟩; have hD2 := hD1.below hb2 hD1.lt; have f1 : w2.cell? ⟨w.heap.size, 1, none⟩ = some (.slice A n c) := hD2.cell 1; have f2 : w2.cell? ⟨w.heap.size, 2, none⟩ = some (.slice B n' d) := hD2.cell 2)
      refine ⟨_, results_tmp2 rfl _ _ _, ?_⟩
      exact ⟨none, 0, 0, rfl, (fun l h => by cases h), hb1.trans (hb2.mono hb1.size)⟩
end Go.Proofs.YtnnknnaimabehaaDoor
