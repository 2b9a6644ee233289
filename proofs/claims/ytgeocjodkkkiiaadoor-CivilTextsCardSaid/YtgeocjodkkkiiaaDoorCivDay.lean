/- civil.Day. -/
import Derived.Test.YtgeocjodkkkiiaaDoorCivMonths
import Derived.Test.YtgeocjodkkkiiaaDoorOrders
import Derived.Deep.RegionHeld3
import Derived.BigRegion
namespace Go.Proofs.YtgeocjodkkkiiaaDoor
open Go.RowKit Go.Shelf
attribute [local go_sem] Oper.semAt_some

theorem day_no (y m d : Int) (w : World) (T : Lens w) (h : mayB y m d = false) : Calls Tryd.prog 12 #[.agg #[.int .i64 y, .int .i64 m, .int .i64 d]] w fun e w' => e = .returned (.tuple #[.int .i64 0, .int .i64 60]) ∧ Below w.heap.size w w' := by
  have HE := Lib.hid (dayE_no h)
  have HT := Lib.hid T
  clear h T
  go_in
  go_wp2_with (go_at_call 11; refine (check_own y m d _ (HT.out.alloc _)).mono ?_; rintro e w1 ⟨rfl, hb1⟩; rw [HE.out])
  go_ret2
  exact ⟨rfl, below_step ((Below.refl _ _).alloc (Nat.le_refl _) _) hb1⟩

/-- What is added up to a month. -/
def outN (y m : Int) (pre : List (Fin 12)) : Int := (pre.map fun k => if (k.1 : Int) + 1 = m then cumN y k.1 else 0).sum
theorem outN_snoc (y m : Int) (pre : List (Fin 12)) (x : Fin 12) : outN y m (pre ++ [x]) = outN y m pre + if (x.1 : Int) + 1 = m then cumN y x.1 else 0 := by
  simp [outN]
theorem outN_in (y m : Int) (pre : List (Fin 12)) (h : pre.length ≤ 12) : 0 ≤ outN y m pre ∧ outN y m pre ≤ 400 * pre.length := by
  induction pre with
  | nil => simp [outN]
  | cons a l ih =>
    have hc := cumN_in y a.1
    have ha := a.2
    have := ih (by simp at h; omega)
    simp only [outN, List.map_cons, List.sum_cons, List.length_cons] at this ⊢
    split <;> omega
theorem outN_all (y m : Int) (h : 1 ≤ m) (h' : m ≤ 12) : outN y m (List.finRange 12) = cumN y (m.toNat - 1) := by
  have hm : m = 1 ∨ m = 2 ∨ m = 3 ∨ m = 4 ∨ m = 5 ∨ m = 6 ∨ m = 7 ∨ m = 8 ∨ m = 9 ∨ m = 10 ∨ m = 11 ∨ m = 12 := by omega
  have e : List.finRange 12 = [⟨0, by decide⟩, ⟨1, by decide⟩, ⟨2, by decide⟩, ⟨3, by decide⟩, ⟨4, by decide⟩, ⟨5, by decide⟩, ⟨6, by decide⟩, ⟨7, by decide⟩, ⟨8, by decide⟩, ⟨9, by decide⟩, ⟨10, by decide⟩, ⟨11, by decide⟩] := by decide
  rcases hm with rfl | rfl | rfl | rfl | rfl | rfl | rfl | rfl | rfl | rfl | rfl | rfl <;> (simp only [outN, e, List.map_cons, List.map_nil, List.sum_cons, List.sum_nil]; simp)

/-- The frame in a round. -/
def frameD (y m d : Int) (b o : Nat) (k : Fin 12) : Act := { tmps := #[.agg #[.int .i64 y, .int .i64 m, .int .i64 d], .pointer (some ⟨b, 0, none⟩), .int .i64 0, .int .i64 0, .int .i64 0, .pointer (some ⟨o, 0, none⟩), .int .i64 ((k.1 : Int) + 1), .int .i64 (cumN y k.1), .agg #[.int .i64 y, .int .i64 m, .int .i64 d], .int .i64 0, .int .i64 0, .bool false, undef, .pointer (some ⟨b, 0, none⟩), .int .i64 y, .int .i64 (aheadN y), .pointer (some ⟨b, 2, none⟩), .int .i64 d, .int .i64 (aheadN y + d), .int .i64 (aheadN y + d - 1), .pointer (some ⟨b, 0, none⟩), .int .i64 y, .func (.func 42) #[] #[.pointer (some ⟨o + 1, 0, none⟩)], .int .i64 ((k.1 : Int) + 1), .int .i64 (cumN y k.1), undef, undef, undef, undef, undef, undef, undef, undef], defers := [] }

set_option maxRecDepth 100000 in
set_option maxHeartbeats 4000000 in
theorem day_yes (y m d : Int) (w : World) (T : Lens w) (h : mayB y m d = true) : CallsIn Fence.wide 6 Tryd.prog 12 #[.agg #[.int .i64 y, .int .i64 m, .int .i64 d]] w fun e w' => e = .returned (.tuple #[.int .i64 (numN y m d), .int .i64 0]) ∧ Below w.heap.size w w' := by
  have HE := Lib.hid (dayE_yes h)
  have hm := (mayB_iff y m d).1 h
  have HN := Lib.hid (show numN y m d = aheadN y + d - 1 + outN y m (List.finRange 12) by rw [outN_all y m hm.2.2.1 hm.2.2.2.1]; unfold numN; omega)
  have HT := Lib.hid T
  have hdn := daysN_in y m
  have hah := aheadN_hi 1970 y (by omega)
  have hal := aheadN_le 1970 y (by omega)
  rw [aheadN_start] at hah hal
  have hg := T.lt (by decide)
  obtain ⟨h1, h2, h3, h4, h5, h6⟩ := hm
  clear h T
  refine callsIn_of_wp_marks Tryd.func12 rfl trivial ?_ rfl
  simp only [Tryd.ntmps12, List.size_toArray, List.length_cons, List.length_nil, Nat.reduceAdd, Nat.reduceSub, Array.replicate_succ, Array.replicate_zero, List.push_toArray, List.append_toArray, List.nil_append, List.cons_append]
  refine wpIn_wide.2 ?_
  go_wp2_with (go_at_call 11; refine (check_own y m d _ (HT.out.alloc _)).mono ?_; rintro e w1 ⟨rfl, hb1⟩; rw [HE.out])
  have hbA : Held w1 w.heap.size 23 #[.int .i64 y, .int .i64 m, .int .i64 d] := (Held.new w _ _).below hb1 (by simp)
  have hc0 := hbA.cell 0
  have hc2 := hbA.cell 2
  simp only [List.getElem?_toArray, List.getElem?_cons_zero, List.getElem?_cons_succ] at hc0 hc2
  have wr1 : IntKind.i64.wrap (aheadN y + d) = aheadN y + d := IntWalk.i64_in _ (by omega)
  have wr2 : IntKind.i64.wrap (aheadN y + d - 1) = aheadN y + d - 1 := IntWalk.i64_in _ (by omega)
  go_wp2
  go_region_held3 (fun w' => w'.cell? ⟨w.heap.size, 0, none⟩ = some (.int .i64 y) ∧ w'.cell? ⟨w.heap.size, 2, none⟩ = some (.int .i64 d))
    (first
      | go_keep)
    (first
      | (go_at_call 36; (with_reducible refine (ahead_own y h1 (by omega) _).mono ?_); rintro e w' ⟨rfl, rfl⟩))
  all_goals
    clear wr1 wr2
    obtain ⟨W2, hW2⟩ : ∃ W2, W2 = (w1.alloc (Obj.cells #[.int .i64 (aheadN y + d - 1)] 3)).drew := ⟨_, rfl⟩
    have hO : Held W2 w1.heap.size 3 #[.int .i64 (aheadN y + d - 1)] := by rw [hW2]; exact (Held.new w1 _ _).drew
    have hA2 : Held W2 w.heap.size 23 #[.int .i64 y, .int .i64 m, .int .i64 d] := by rw [hW2]; exact (hbA.alloc _).drew
    have hs2 : W2.heap.size = w1.heap.size + 1 := by rw [hW2]; simp
    have hB2 : Below w.heap.size w W2 := by rw [hW2]; exact (below_alloc (below_step ((Below.refl _ _).alloc (Nat.le_refl _) _) hb1) _).drew
    have hw1 : w.heap.size < w1.heap.size := by have := hb1.size; simp at this; omega
    rw [← hW2]
    have hca := hA2.cell 0
    simp only [List.getElem?_toArray, List.getElem?_cons_zero] at hca
    have HS2 := Lib.hid hs2
    clear hW2 hs2
    go_wp2_with (go_at_call 37; refine ((callsIn_wide (n := 5)).1 (months_in y _)).mono ?_; rintro e w' ⟨rfl, rfl⟩)
    rw [HS2.out]
    have hS3 : (W2.alloc (Obj.cells #[.int .i64 y] 3)).heap.size = w1.heap.size + 1 + 1 := by rw [World.size_alloc, HS2.out]
    have hB3 : Below w.heap.size w (W2.alloc (Obj.cells #[.int .i64 y] 3)) := below_alloc hB2 _
    have hY3 : Held (W2.alloc (Obj.cells #[.int .i64 y] 3)) (w1.heap.size + 1) 3 #[.int .i64 y] := by rw [← HS2.out]; exact Held.new _ _ _
    have hO3 := hO.alloc (Obj.cells #[.int .i64 y] 3)
    have hA3 := hA2.alloc (Obj.cells #[.int .i64 y] 3)
    have hT3 : Lens (W2.alloc (Obj.cells #[.int .i64 y] 3)) := HT.out.up hB3
    clear hO hA2 hB2 hca
    generalize W2.alloc (Obj.cells #[.int .i64 y] 3) = W3 at hS3 hB3 hY3 hO3 hA3 hT3 ⊢
    have HS3 := Lib.hid hS3
    clear hS3
    refine wpIn_wide.1 (wpIn_rangeFunc_ownH (n := 6) rfl (by omega) (gf := 42) (lb := #[.pointer (some ⟨w1.heap.size + 1, 0, none⟩)]) rfl trivial (enters_of Tryd.func42 (by kernel_rfl) rfl)
      (months_stops y (w1.heap.size + 1) w1.heap.size (w1.heap.size + 2) (by omega) (by omega) (by omega) W3 (by have := HS3.out; omega) hT3 (hY3.cell 0)) Kx.trans (fun W l o o' hl ho h1 h2 => Kx.of_below (belowK_b (w := W3) (by have := HS3.out; omega) W l o o' hl ho h1 h2) (by omega)) (Below.refl _ _) (fun _ => rfl)
      (fun pre W => (Held W w1.heap.size 3 #[.int .i64 (aheadN y + d - 1 + outN y m pre)] ∧ Held W w.heap.size 23 #[.int .i64 y, .int .i64 m, .int .i64 d]) ∧ Below w.heap.size w W)
      (fun _ _ _ => False)
      ?own (fun _ _ _ _ _ hs _ _ => hs)
      ⟨⟨by simpa [outN] using hO3, hA3⟩, hB3⟩
      (fun x a' _ => a' = frameD y m d w.heap.size w1.heap.size x)
      (fun x a' _ X Y row hs hg hr => hs) ?assign ?body ?done ?stop)
    case own =>
      exact OwnFrom.and (fun pre X Y row hs hg hr => ⟨held_ownFrom () X Y row hs.1 hg hr, held_ownFrom () X Y row hs.2 hg hr⟩) (ownFrom_below (Nat.le_refl _) (by have := HS3.out; omega))
    case assign =>
      rintro l pre x W K ⟨⟨h7, h8⟩, hB⟩ hK
      unfold monthV
      gi_wp2
      exact hK _ _ ((KeepsOthers.refl _).from _) (Kx.refl _ _ _) ⟨⟨h7, h8⟩, hB⟩ rfl
    case body =>
      rintro l pre x a' W hl ⟨r, hr⟩ ⟨⟨h7, h8⟩, hB⟩ rfl hlt
      have hc7 := h7.cell 0
      have hc8 := h8.cell 1
      simp only [List.getElem?_toArray, List.getElem?_cons_zero, List.getElem?_cons_succ] at hc7 hc8
      have hf7 := h7.frozen 0
      have hob := outN_in y m pre (by omega)
      have hcb := cumN_in y x.1
      have hx := x.2
      have HSN := Lib.hid (outN_snoc y m pre x)
      unfold frameD
      by_cases hxm : (x.1 : Int) + 1 = m
      · have g1 : ((x.1 : Int) + 1 == m) = true := by simpa using hxm
        have HXM := Lib.hid hxm
        clear hxm
        gi_wp2
        refine ⟨(KeepsOthers.setCell _ _ _).from _, (Kx.refl _ _ _).set 0 _, ⟨?_, ?_⟩, hB.setCell (p := ⟨w1.heap.size, 0, none⟩) (by show w.heap.size ≤ w1.heap.size; omega) _⟩
        · rw [HSN.out, if_pos HXM.out, ← Int.add_assoc]
          exact h7.set 0 _
        · exact h8.far (p := ⟨w1.heap.size, 0, none⟩) (by show w.heap.size ≠ w1.heap.size; omega) _
      · have g1 : ((x.1 : Int) + 1 == m) = false := by simpa using hxm
        have HXM := Lib.hid hxm
        clear hxm
        gi_wp2
        refine ⟨(KeepsOthers.refl _).from _, Kx.refl _ _ _, ⟨?_, h8⟩, hB⟩
        rw [HSN.out, if_neg HXM.out, Int.add_zero]
        exact h7
    case done =>
      rintro D ys W hD rfl ⟨⟨h7, h8⟩, hB⟩ hK
      have hc7 := h7.cell 0
      simp only [List.getElem?_toArray, List.getElem?_cons_zero] at hc7
      go_wp2
      refine ⟨by simp, .inl ⟨_, _, rfl, run_takeDeferred hK, ?_⟩⟩
      exact ⟨_, results_tmp2 rfl _ _ _, by rw [HN.out]; rfl, hB.trans (belowK_b (w := w) (Nat.le_refl _) W D _ _ (by have := HS3.out; omega) hK rfl rfl)⟩
    case stop =>
      rintro D c pre W _ _ h _
      exact h.elim

/-- civil.Day. -/
theorem day_own (y m d : Int) (w : World) (T : Lens w) : Calls Tryd.prog 12 #[.agg #[.int .i64 y, .int .i64 m, .int .i64 d]] w fun e w' => e = .returned (.tuple #[.int .i64 (dayV y m d), .int .i64 (dayE y m d)]) ∧ Below w.heap.size w w' := by
  cases h : mayB y m d with
  | true => simpa [dayV, dayE, h] using (callsIn_wide (n := 6)).1 (day_yes y m d w T h)
  | false => simpa [dayV, dayE, h] using day_no y m d w T h

theorem day_ref (y m d : Int) (w : World) : Calls Tryd.prog 13 #[.int .i64 y, .int .i64 m, .int .i64 d] w fun e w' => e = .returned (.tuple #[.int .i64 (dayV y m d), .int .i64 (dayE y m d)]) ∧ w = w' := by
  cases h : mayB y m d with
  | false =>
    have HV := Lib.hid (show dayV y m d = 0 ∧ dayE y m d = 60 by simp [dayV, dayE, h])
    have H := Lib.hid h
    clear h
    go_in
    go_wp2_with (go_at_call 10; refine (may_ref y m d _).mono ?_; rintro e w' ⟨rfl, rfl⟩; rw [H.out])
    go_ret2
    exact ⟨ret2i HV.out.1.symm HV.out.2.symm, rfl⟩
  | true =>
    have HV := Lib.hid (show dayV y m d = numN y m d ∧ dayE y m d = 0 by simp [dayV, dayE, h])
    have hm := (mayB_iff y m d).1 h
    have H := Lib.hid h
    have hdn := daysN_in y m
    obtain ⟨h1, h2, h3, h4, h5, h6⟩ := hm
    clear h
    go_in
    go_wp2_with (go_at_call 10; refine (may_ref y m d _).mono ?_; rintro e w' ⟨rfl, rfl⟩; rw [H.out])
    go_loop [9, 10] (fun n i => ∃ k : Nat, (k : Int) + 1970 ≤ y ∧ i = .int .i64 (k + 1970) ∧ n = .int .i64 (d - 1 + aheadN (k + 1970))) (fun _ i => (y - intOf i).toNat)
    case atStart => exact ⟨0, by omega, rfl, by simp [aheadN_start]⟩
    case round =>
      obtain ⟨k, hk, rfl, rfl⟩ := hrel
      have ha := aheadN_hi 1970 (k + 1970) (by omega)
      have hl := aheadN_le 1970 (k + 1970) (by omega)
      rw [aheadN_start] at ha hl
      have HS := Lib.hid (aheadN_succ (k + 1970))
      by_cases hlt : (k : Int) + 1970 < y
      · cases hb : leapB (k + 1970) with
        | true =>
          have HB := Lib.hid hb
          have HI := Lib.hid (leapI_of hb)
          clear hb
          go_wp2_with (go_at_call 17; refine (leap_ref _ _).mono ?_; rintro e w' ⟨rfl, rfl⟩; rw [HB.out])
          go_round
          case rel => exact ⟨k + 1, by omega, by go_num, iv (by rw [show (((k + 1 : Nat) : Int) + 1970) = (k : Int) + 1970 + 1 by omega, HS.out, HI.out]; simp; omega)⟩
          case measure => simp [intOf]; omega
        | false =>
          have HB := Lib.hid hb
          have HI := Lib.hid (leapI_of hb)
          clear hb
          go_wp2_with (go_at_call 17; refine (leap_ref _ _).mono ?_; rintro e w' ⟨rfl, rfl⟩; rw [HB.out])
          go_round
          case rel => exact ⟨k + 1, by omega, by go_num, iv (by rw [show (((k + 1 : Nat) : Int) + 1970) = (k : Int) + 1970 + 1 by omega, HS.out, HI.out]; simp; omega)⟩
          case measure => simp [intOf]; omega
      · obtain rfl : y = k + 1970 := by omega
        clear HS
        go_wp2
        go_loop [9, 11] (fun n i => ∃ j : Nat, (j : Int) + 1 ≤ m ∧ i = .int .i64 (j + 1) ∧ n = .int .i64 (d - 1 + aheadN (k + 1970) + cumN (k + 1970) j)) (fun _ i => (m - intOf i).toNat)
        case atStart => exact ⟨0, by omega, rfl, by simp [cumN]⟩
        case round =>
          obtain ⟨j, hj, rfl, rfl⟩ := hrel
          have hcb := cumN_in (k + 1970) j
          have hdb := daysN_in (k + 1970) (j + 1)
          have HS := Lib.hid (show cumN (k + 1970) (j + 1) = cumN (k + 1970) j + daysN (k + 1970) (j + 1) from rfl)
          by_cases hlm : (j : Int) + 1 < m
          · go_wp2_with (go_at_call 19; refine (days_ref _ _ _).mono ?_; rintro e w' ⟨rfl, rfl⟩)
            go_round
            case rel => exact ⟨j + 1, by omega, by go_num, iv (by rw [HS.out]; omega)⟩
            case measure => simp [intOf]; omega
          · go_wp2
            go_ret2
            exact ⟨ret2i (by rw [HV.out.1]; unfold numN; rw [show m.toNat - 1 = j by omega]; omega) HV.out.2.symm, rfl⟩
end Go.Proofs.YtgeocjodkkkiiaaDoor
