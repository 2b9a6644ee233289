/- pdu.of and pdu.fits: the table of limits. -/
import Derived.Test.YtflbiichdjhaeaaDoorRows
import Derived.Test.YtflbiichdjhaeaaDoorPduCore
import Derived.Test.YtflbiichdjhaeaaDoorRowl
import Derived.WalkSpells
import Derived.WalkLawsBesides
import Derived.BigQuiet
import Derived.Deep.QuietTactic
import Derived.Lib.Hide
namespace Go.Proofs.YtflbiichdjhaeaaDoor
open Go.RowKit

/-- A row of the table. -/
def lrow (i : Nat) : Int × Int × Int × Int := [(1, 2000, 0, 0), (2, 2000, 0, 0), (3, 125, 0, 0), (4, 125, 0, 0), (5, 0, 1, 0), (6, 0, 0, 1), (15, 0, 1968, 0), (16, 0, 0, 123), (23, 125, 0, 121)].getD i (0, 0, 0, 0)
def limL : List Value := [.int .i64 1, .int .i64 2000, .int .i64 0, .int .i64 0, .int .i64 2, .int .i64 2000, .int .i64 0, .int .i64 0, .int .i64 3, .int .i64 125, .int .i64 0, .int .i64 0, .int .i64 4, .int .i64 125, .int .i64 0, .int .i64 0, .int .i64 5, .int .i64 0, .int .i64 1, .int .i64 0, .int .i64 6, .int .i64 0, .int .i64 0, .int .i64 1, .int .i64 15, .int .i64 0, .int .i64 1968, .int .i64 0, .int .i64 16, .int .i64 0, .int .i64 0, .int .i64 123, .int .i64 23, .int .i64 125, .int .i64 0, .int .i64 121]
/-- The table lies where the program has it. -/
def LimT (w : World) : Prop := w.rangeAt 0 0 limL
theorem LimT.up {w w' : World} (h : LimT w) (hb : Below w.heap.size w w') : LimT w' := fun j v hj =>
  (hb.cell (p := ⟨0, 0 + j, none⟩) (World.block_lt_of_cell? w _ (h j v hj))).trans (h j v hj)
theorem lim_index (i : Nat) (hi : i < 9) (w : World) : (Instr.index 93 (.agg limL.toArray) (.int .i64 (i : Int))).run Tryd.prog w = .ok (.agg #[.int .i64 (lrow i).1, .int .i64 (lrow i).2.1, .int .i64 (lrow i).2.2.1, .int .i64 (lrow i).2.2.2]) w := by
  have h : i = 0 ∨ i = 1 ∨ i = 2 ∨ i = 3 ∨ i = 4 ∨ i = 5 ∨ i = 6 ∨ i = 7 ∨ i = 8 := by omega
  rcases h with rfl | rfl | rfl | rfl | rfl | rfl | rfl | rfl | rfl
  all_goals
    change _ = _
    kernel_rfl
theorem lrow_lim (i : Nat) (hi : i < 9) : limP (lrow i).1 = some ((lrow i).2.1, (lrow i).2.2.1, (lrow i).2.2.2) := by
  match i, hi with
  | 0, _ => rfl
  | 1, _ => rfl
  | 2, _ => rfl
  | 3, _ => rfl
  | 4, _ => rfl
  | 5, _ => rfl
  | 6, _ => rfl
  | 7, _ => rfl
  | 8, _ => rfl
theorem lrow_none (fn : Int) (h : ∀ j, j < 9 → (lrow j).1 ≠ fn) : limP fn = none := by
  have h0 := h 0 (by omega)
  have h1 := h 1 (by omega)
  have h2 := h 2 (by omega)
  have h3 := h 3 (by omega)
  have h4 := h 4 (by omega)
  have h5 := h 5 (by omega)
  have h6 := h 6 (by omega)
  have h7 := h 7 (by omega)
  have h8 := h 8 (by omega)
  simp only [lrow, List.getD_cons_zero, List.getD_cons_succ] at h0 h1 h2 h3 h4 h5 h6 h7 h8
  unfold limP
  rw [if_neg (by omega), if_neg (by omega), if_neg (by omega), if_neg (by omega), if_neg (by omega), if_neg (by omega), if_neg (by omega)]

/-- What 'of' answers. -/
def ofV (fn : Int) : Value := match limP fn with
  | some (r, b, g) => .tuple #[.agg #[.int .i64 fn, .int .i64 r, .int .i64 b, .int .i64 g], .bool true]
  | none => .tuple #[.agg #[.int .i64 0, .int .i64 0, .int .i64 0, .int .i64 0], .bool false]
set_option maxRecDepth 100000 in
set_option maxHeartbeats 1000000 in
theorem of_own (fn : Int) (w : World) (hT : LimT w) : Calls Tryd.prog 45 #[.int .i64 fn] w fun e w' => e = .returned (ofV fn) ∧ Below w.heap.size w w' := by
  have hu := Tryd.underlying93
  have hi : (Tryd.prog.info? 93).map (·.size) = some limL.length := by kernel_rfl
  have HT := Lib.hid (fun (X : World) (h : Below w.heap.size w X) => hT.up h)
  clear hT
  go_in
  go_wp2_with (first | (refine wpList_load_mid rfl 93 (.global 0) rfl 0 0 rfl limL _ (HT.out _ ((Below.refl _ w).alloc (Nat.le_refl _) _)) hu rfl hi ?_) | fail)
  go_loopw [5, 7] (fun _ u7 wr => ∃ i : Nat, i ≤ 9 ∧ u7 = .int .i64 i ∧ Hid (∀ j, j < i → (lrow j).1 ≠ fn) ∧ Below w.heap.size w wr ∧ Held wr w.heap.size 71 #[.int .i64 0, .int .i64 0, .int .i64 0, .int .i64 0]) (fun _ u7 _ => 9 - (intOf u7).toNat)
  case atStart => exact ⟨0, by omega, rfl, Lib.hid (fun j hj => by omega), (Below.refl _ w).alloc (Nat.le_refl _) _, Held.new _ _ _⟩
  case round =>
    obtain ⟨i, hi9, rfl, hno, hbr, hH⟩ := hrel
    have hsz := hH.lt
    have c0 : wr.cell? ⟨w.heap.size, 0, none⟩ = some (.int .i64 0) := hH.cell 0
    have c1 : wr.cell? ⟨w.heap.size, 1, none⟩ = some (.int .i64 0) := hH.cell 1
    have c2 : wr.cell? ⟨w.heap.size, 2, none⟩ = some (.int .i64 0) := hH.cell 2
    have c3 : wr.cell? ⟨w.heap.size, 3, none⟩ = some (.int .i64 0) := hH.cell 3
    have fz := hH.frozen
    by_cases hlt : i < 9
    · have hix := lim_index i hlt
      have HL := Lib.hid (lrow_lim i hlt)
      obtain ⟨f, hf⟩ : ∃ f, (lrow i).1 = f := ⟨_, rfl⟩
      obtain ⟨r, hr⟩ : ∃ f, (lrow i).2.1 = f := ⟨_, rfl⟩
      obtain ⟨b, hb⟩ : ∃ f, (lrow i).2.2.1 = f := ⟨_, rfl⟩
      obtain ⟨g, hg⟩ : ∃ f, (lrow i).2.2.2 = f := ⟨_, rfl⟩
      simp only [hf, hr, hb, hg] at hix
      rw [hf, hr, hb, hg] at HL
      have HF := Lib.hid hf
      clear hf hr hb hg
      by_cases he : f = fn
      · subst he
        go_wp2_with fail
        obtain ⟨wz, hwz⟩ : ∃ wz, ((((wr.setCell ⟨w.heap.size, 0, none⟩ (.int .i64 f)).setCell ⟨w.heap.size, 1, none⟩ (.int .i64 r)).setCell ⟨w.heap.size, 2, none⟩ (.int .i64 b)).setCell ⟨w.heap.size, 3, none⟩ (.int .i64 g)).alloc (.cells #[.int .i64 f, .int .i64 r, .int .i64 b, .int .i64 g] 71) = wz := ⟨_, rfl⟩
        have hZ : Held wz w.heap.size 71 #[.int .i64 f, .int .i64 r, .int .i64 b, .int .i64 g] := by rw [← hwz]; exact ((((hH.set 0 _).set 1 _).set 2 _).set 3 _).alloc _
        have hbz : Below w.heap.size w wz := by rw [← hwz]; exact ((((hbr.setCell (p := ⟨w.heap.size, 0, none⟩) (Nat.le_refl _) _).setCell (p := ⟨w.heap.size, 1, none⟩) (Nat.le_refl _) _).setCell (p := ⟨w.heap.size, 2, none⟩) (Nat.le_refl _) _).setCell (p := ⟨w.heap.size, 3, none⟩) (Nat.le_refl _) _).alloc (by simp [World.setCell]; omega) _
        have d0 : wz.cell? ⟨w.heap.size, 0, none⟩ = some (.int .i64 f) := hZ.cell 0
        have d1 : wz.cell? ⟨w.heap.size, 1, none⟩ = some (.int .i64 r) := hZ.cell 1
        have d2 : wz.cell? ⟨w.heap.size, 2, none⟩ = some (.int .i64 b) := hZ.cell 2
        have d3 : wz.cell? ⟨w.heap.size, 3, none⟩ = some (.int .i64 g) := hZ.cell 3
        rw [hwz]
        exact bodyPost_ret (v := .tuple #[.agg #[.int .i64 f, .int .i64 r, .int .i64 b, .int .i64 g], .bool true]) (by simp [results, Tryd.results45, go_sem, d0, d1, d2, d3]) rfl ⟨by unfold ofV; rw [HL.out], hbz⟩
      · have he2 : (f == fn) = false := by simpa using he
        go_wp2_with fail
        go_roundw
        case rel =>
          refine ⟨i + 1, by omega, by go_num, Lib.hid (fun j hj => ?_), hbr.alloc (by omega) _, hH.alloc _⟩
          rcases Nat.lt_or_eq_of_le (Nat.le_of_lt_succ hj) with h | rfl
          · exact hno.out j h
          · rw [HF.out]; exact he
        case measure => simp [intOf]; omega
    · obtain rfl : i = 9 := by omega
      go_wp2_with fail
      obtain ⟨wz, hwz⟩ : ∃ wz, (((wr.setCell ⟨w.heap.size, 0, none⟩ (.int .i64 0)).setCell ⟨w.heap.size, 1, none⟩ (.int .i64 0)).setCell ⟨w.heap.size, 2, none⟩ (.int .i64 0)).setCell ⟨w.heap.size, 3, none⟩ (.int .i64 0) = wz := ⟨_, rfl⟩
      have hZ : Held wz w.heap.size 71 #[.int .i64 0, .int .i64 0, .int .i64 0, .int .i64 0] := by rw [← hwz]; exact (((hH.set 0 _).set 1 _).set 2 _).set 3 _
      have hbz : Below w.heap.size w wz := by rw [← hwz]; exact (((hbr.setCell (p := ⟨w.heap.size, 0, none⟩) (Nat.le_refl _) _).setCell (p := ⟨w.heap.size, 1, none⟩) (Nat.le_refl _) _).setCell (p := ⟨w.heap.size, 2, none⟩) (Nat.le_refl _) _).setCell (p := ⟨w.heap.size, 3, none⟩) (Nat.le_refl _) _
      have d0 : wz.cell? ⟨w.heap.size, 0, none⟩ = some (.int .i64 0) := hZ.cell 0
      have d1 : wz.cell? ⟨w.heap.size, 1, none⟩ = some (.int .i64 0) := hZ.cell 1
      have d2 : wz.cell? ⟨w.heap.size, 2, none⟩ = some (.int .i64 0) := hZ.cell 2
      have d3 : wz.cell? ⟨w.heap.size, 3, none⟩ = some (.int .i64 0) := hZ.cell 3
      rw [hwz]
      exact bodyPost_ret (v := .tuple #[.agg #[.int .i64 0, .int .i64 0, .int .i64 0, .int .i64 0], .bool false]) (by simp [results, Tryd.results45, go_sem, d0, d1, d2, d3]) rfl ⟨by unfold ofV; rw [lrow_none fn hno.out], hbz⟩
set_option maxHeartbeats 1000000 in
theorem fits_own (n m : Int) (w : World) : Calls Tryd.prog 46 #[.int .i64 n, .int .i64 m] w fun e w' => e = .returned (.bool (fitP n m)) ∧ w = w' := by
  by_cases h0 : 1 ≤ m
  · by_cases h1 : 1 ≤ n
    · go_in
      go_wp2
      go_ret
      refine ⟨retb ?_, rfl⟩
      unfold fitP
      rw [decide_eq_true (show min 1 m ≤ n by omega)]
      rfl
    · go_in
      go_wp2
      go_ret
      refine ⟨retb ?_, rfl⟩
      unfold fitP
      rw [decide_eq_false (show ¬ min 1 m ≤ n by omega)]
      rfl
  · by_cases h1 : m ≤ n
    · go_in
      go_wp2
      go_ret
      refine ⟨retb ?_, rfl⟩
      unfold fitP
      rw [decide_eq_true (show min 1 m ≤ n by omega)]
      rfl
    · go_in
      go_wp2
      go_ret
      refine ⟨retb ?_, rfl⟩
      unfold fitP
      rw [decide_eq_false (show ¬ min 1 m ≤ n by omega)]
      rfl
end Go.Proofs.YtflbiichdjhaeaaDoor
