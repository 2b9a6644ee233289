/- sha.Parse. -/
import Derived.Test.YtjkhkgdijnhdmaaDoorShaText
import Derived.Test.YtjkhkgdijnhdmaaDoorShaWords
import Derived.Test.YtjkhkgdijnhdmaaDoorMemB
namespace Go.Proofs.YtjkhkgdijnhdmaaDoor
open Go.RowKit

theorem results_hash (fn : Func) (hres : fn.results = #[.cell 2 35, .tmp 3]) (tmps : Array Value) (w : World) (g : Nat) (xs : List Int) (u : Value) (h2 : tmps.getD 2 undef = .pointer (some ⟨g, 0, none⟩)) (h3 : tmps.getD 3 undef = u)
    (hg : w.heap[g]? = some (.cells (cellsU xs) 35 (0, 0))) (hl : xs.length = 32) : (results fn tmps).run Tryd.prog w = .ok (.tuple #[.agg (cellsU xs), u]) w := by
  rw [results_cell_tmp hres, h2, h3]
  simp only [asAddr, Sem.run_pure, Result.andThen]
  rw [run_loadVar_row w g 35 35 (cellsU xs) (0, 0) _ hg Tryd.underlying35 rfl (by rw [cellsU_size, hl]; exact hashSize)]

theorem index_str (s : ByteArray) (i : Nat) (hi : i < s.size) (w : World) : (Instr.index 9 (.string s) (.int .i64 i)).run Tryd.prog w = .ok (.int .u8 (chr s i)) w := by
  rw [run_index_string w _ _ _ _ Tryd.underlying9, dif_pos (by omega)]
  have e : s.data[i]? = some s[i] := Array.getElem?_eq_getElem hi
  simp [chr, List.getD, e]

/-- All of the first m characters are digits. -/
def allDig (s : ByteArray) (m : Nat) : Prop := ∀ i, i < m → 0 ≤ dig (chr s i)
/-- The hash's bytes, the first m of them read. -/
def fillH (s : ByteArray) (m : Nat) : List Int := pairL (fun i => dig (chr s i)) m ++ List.replicate (32 - m) 0
theorem fillH_len (s : ByteArray) (m : Nat) (h : m ≤ 32) : (fillH s m).length = 32 := by simp [fillH, pairL_len]; omega
theorem fillH_step (s : ByteArray) (m : Nat) (h : m < 32) : (fillH s m).set m (dig (chr s (2 * m)) * 16 + dig (chr s (2 * m + 1))) = fillH s (m + 1) := by
  unfold fillH
  rw [List.set_append_right _ _ (by simp [pairL_len]), pairL_len, Nat.sub_self, pairL_succ, show 32 - m = (32 - (m + 1)) + 1 by omega, List.replicate_succ]
  simp
def zeroH : List Int := List.replicate 32 0
theorem cellsU_set (xs : List Int) (i : Nat) (y : Int) : (cellsU xs).setIfInBounds i (.int .u8 y) = cellsU (xs.set i y) := by
  unfold cellsU; rw [List.map_set]; simp

theorem idx_at (c n : Int) (h : dig c = n) (w : World) : Calls Tryd.prog 47 #[.string ⟨#[48, 49, 50, 51, 52, 53, 54, 55, 56, 57, 97, 98, 99, 100, 101, 102]⟩, .int .u8 c] w fun e w' => e = .returned (.int .i64 n) ∧ w' = w := by
  subst h
  exact Tryd.strings_IndexByte _ c w
theorem zeroH_len : zeroH.length = 32 := rfl

theorem or_pair_all : ∀ a : Nat, a < 16 → ∀ b : Nat, b < 16 → bits BinOp.or IntKind.i64 (wrap64 ((a : Int) * 16)) b = (a : Int) * 16 + b := by decide +kernel
theorem or_pair (a b : Int) (ha : 0 ≤ a) (ha' : a < 16) (hb : 0 ≤ b) (hb' : b < 16) : bits BinOp.or IntKind.i64 (wrap64 (a * 16)) b = a * 16 + b := by
  obtain ⟨a, rfl⟩ := Int.eq_ofNat_of_zero_le ha
  obtain ⟨b, rfl⟩ := Int.eq_ofNat_of_zero_le hb
  exact or_pair_all a (by omega) b (by omega)
theorem cellsU_one (xs : List Int) : (cellsU xs).all (·.oneCell') = true := by
  simp [cellsU, Value.oneCell']
theorem hashCells (xs : List Int) (h : xs.length = 32) : (Tryd.prog.info? 35).map (·.size) = some (cellsU xs).size := by rw [cellsU_size, h]; exact hashSize

theorem parse_any (s : ByteArray) (w : World) :
    Calls Tryd.prog 24 #[.string s] w fun e w' => ((s.size = 64 ∧ allDig s 64 ∧ e = .returned (.tuple #[.agg (cellsU (fillH s 32)), .int .i64 0])) ∨ (¬ (s.size = 64 ∧ allDig s 64) ∧ e = .returned (.tuple #[.agg (cellsU zeroH), .int .i64 40]))) ∧ Below w.heap.size w w' := by
  by_cases hs : s.size = 64
  · go_in
    go_wp2
    go_loopw [12] (fun i wr => ∃ (j : Nat), j ≤ 32 ∧ i = .int .i64 j ∧ allDig s (2 * j) ∧ wr.heap[w.heap.size]? = some (.cells (cellsU zeroH) 35 (0, 0)) ∧ wr.heap[w.heap.size + 1]? = some (.cells (cellsU (fillH s j)) 35 (0, 0)) ∧ Below w.heap.size w wr) (fun i _ => 32 - (intOf i).toNat)
    case atStart => exact ⟨0, by omega, rfl, fun i hi => by omega, heap_alloc2_old w _ _, heap_alloc2_new w _ _, ((Below.refl _ w).alloc (Nat.le_refl _) _).alloc (by simp) _⟩
    case round =>
      obtain ⟨j, hj, rfl, hall, hb1, hb2, hbel⟩ := hrel
      by_cases hlt : j < 32
      · have hx1 := chr_in s (2 * j)
        have hx2 := chr_in s (2 * j + 1)
        have hi1 : ∀ w, (Instr.index 9 (.string s) (.int .i64 (2 * (j : Int)))).run Tryd.prog w = .ok (.int .u8 (chr s (2 * j))) w := fun w => by
          have := index_str s (2 * j) (by omega) w
          simpa using this
        have hi2 : ∀ w, (Instr.index 9 (.string s) (.int .i64 (2 * (j : Int) + 1))).run Tryd.prog w = .ok (.int .u8 (chr s (2 * j + 1))) w := fun w => by
          have := index_str s (2 * j + 1) (by omega) w
          simpa using this
        obtain ⟨n1, hn1⟩ : ∃ n, dig (chr s (2 * j)) = n := ⟨_, rfl⟩
        obtain ⟨n2, hn2⟩ : ∃ n, dig (chr s (2 * j + 1)) = n := ⟨_, rfl⟩
        have c1 := fun W => idx_at (chr s (2 * j)) n1 hn1 W
        have c2 := fun W => idx_at (chr s (2 * j + 1)) n2 hn2 W
        have C1 := Lib.hid c1
        have C2 := Lib.hid c2
        clear c1 c2
        have wr1 : IntKind.i64.wrap (2 * (j : Int)) = 2 * (j : Int) := IntWalk.i64_in _ (by omega)
        have wr2 : IntKind.i64.wrap (2 * (j : Int) + 1) = 2 * (j : Int) + 1 := IntWalk.i64_in _ (by omega)
        go_wp2
        go_quiet (first
          | (go_at_call 47; exact Calls.quiet_of_same (C1.out _))
          | (go_at_call 47; exact Calls.quiet_of_same (C2.out _)))
        have HI := Lib.hid (And.intro hi1 hi2)
        clear hi1 hi2 wr1 wr2
        have HB1 := Lib.hid hb1
        have HB2 := Lib.hid hb2
        have hsz := (Array.getElem?_eq_some_iff.1 hb2).1
        by_cases hn : n1 < 0 ∨ n2 < 0
        · have hno : ¬ allDig s 64 := fun hA => by
            have := hA (2 * j) (by omega)
            have := hA (2 * j + 1) (by omega)
            omega
          have HNO := Lib.hid hno
          clear hno
          by_cases hn1 : n1 < 0
          · go_wp2_with (refine wpList_store_row rfl 35 (.tmp 2) (.tmp 32) rfl w.heap.size (cellsU zeroH) rfl rfl 35 (cellsU zeroH) HB1.out (hashCells zeroH rfl) rfl (cellsU_one _) ?_)
            refine bodyPost_ret (v := .tuple #[.agg (cellsU zeroH), .int .i64 40]) (results_hash _ Tryd.results24 _ _ w.heap.size zeroH _ rfl rfl (setRow_heap _ _ _ _ _ _ HB1.out) rfl) rfl ⟨Or.inr ⟨fun h => by first | exact HNO.out h | exact HNO.out h.2, rfl⟩, below_setRow (below_drewN hbel _) _ _ (Nat.le_refl _)⟩
          · have k2 : decide (n2 < 0) = true := by simp; omega
            go_wp2_with (refine wpList_store_row rfl 35 (.tmp 2) (.tmp 32) rfl w.heap.size (cellsU zeroH) rfl rfl 35 (cellsU zeroH) HB1.out (hashCells zeroH rfl) rfl (cellsU_one _) ?_)
            refine bodyPost_ret (v := .tuple #[.agg (cellsU zeroH), .int .i64 40]) (results_hash _ Tryd.results24 _ _ w.heap.size zeroH _ rfl rfl (setRow_heap _ _ _ _ _ _ HB1.out) rfl) rfl ⟨Or.inr ⟨fun h => by first | exact HNO.out h | exact HNO.out h.2, rfl⟩, below_setRow (below_drewN hbel _) _ _ (Nat.le_refl _)⟩
        · have k1 : decide (n1 < 0) = false := by simp; omega
          have k2 : decide (n2 < 0) = false := by simp; omega
          have hd1 := dig_any _ hx1.1 hx1.2
          have hd2 := dig_any _ hx2.1 hx2.2
          have hor := or_pair n1 n2 (by omega) (by omega) (by omega) (by omega)
          have hfl : j < (fillH s j).length := by rw [fillH_len s j hj]; exact hlt
          obtain ⟨y, hy⟩ : ∃ y, (fillH s j)[j]? = some y := ⟨_, List.getElem?_eq_getElem hfl⟩
          have hcel : wr.cell? ⟨w.heap.size + 1, j, none⟩ = some (.int .u8 y) := by rw [cell_of_row _ _ _ _ _ _ hb2]; simp [cellsU, hy]
          have hfz := frozen_of_row wr (w.heap.size + 1) j _ _ hb2
          have HOR := Lib.hid hor
          generalize hbo : bits BinOp.or IntKind.i64 (wrap64 (n1 * 16)) n2 = bo at HOR
          have HD := Lib.hid (And.intro hd1 hd2)
          clear hor hd1 hd2 hy hb1 hb2
          go_wp2
          go_roundw
          case rel =>
            refine ⟨j + 1, by omega, by go_num, ?_, ?_, ?_, ?_⟩
            · intro i hi
              rcases Nat.lt_or_ge i (2 * j) with h' | h'
              · exact hall i h'
              · rcases Nat.lt_or_ge i (2 * j + 1) with h2 | h2
                · rw [show i = 2 * j by omega]; omega
                · rw [show i = 2 * j + 1 by omega]; omega
            · exact (heap_setCell_other _ _ _ _ (by simp)).trans HB1.out
            · have hv : bo % 256 = dig (chr s (2 * j)) * 16 + dig (chr s (2 * j + 1)) := by have := HOR.out; have := HD.out; omega
              have h1 := heap_setCell_same (wr.drewN nq) (w.heap.size + 1) j _ _ (.int .u8 (dig (chr s (2 * j)) * 16 + dig (chr s (2 * j + 1)))) HB2.out
              rw [cellsU_set, fillH_step s j hlt] at h1
              rw [hv]
              exact h1
            · exact (below_drewN hbel _).setCell (p := ⟨w.heap.size + 1, j, none⟩) (by simp) _
          case measure => simp [intOf]; omega
      · obtain rfl : j = 32 := by omega
        have HB1 := Lib.hid hb1
        have HB2 := Lib.hid hb2
        clear hb1 hb2
        go_wp2_with (first
          | (refine wpList_load_row rfl 35 (.tmp 4) rfl (w.heap.size + 1) rfl 35 (cellsU (fillH s 32)) (0, 0) _ HB2.out Tryd.underlying35 rfl (hashCells _ (fillH_len s 32 (by omega))) ?_)
          | (refine wpList_store_row rfl 35 (.tmp 2) (.tmp 41) rfl w.heap.size (cellsU (fillH s 32)) rfl rfl 35 (cellsU zeroH) HB1.out (hashCells _ (fillH_len s 32 (by omega))) (by rw [cellsU_size, cellsU_size, fillH_len s 32 (by omega)]; rfl) (cellsU_one _) ?_))
        refine bodyPost_ret (v := .tuple #[.agg (cellsU (fillH s 32)), .int .i64 0]) (results_hash _ Tryd.results24 _ _ w.heap.size (fillH s 32) _ rfl rfl (setRow_heap _ _ _ _ _ _ HB1.out) (fillH_len s 32 (by omega))) rfl ⟨by first | exact Or.inl ⟨hs, hall, rfl⟩ | exact Or.inl ⟨hall, rfl⟩, below_setRow hbel _ _ (Nat.le_refl _)⟩
  · have hs' : ((s.size : Int) != 64) = true := by simp; omega
    have HS := Lib.hid hs
    clear hs
    go_in
    go_wp2_with (first
      | (refine wpList_load_row rfl 35 (.tmp 4) rfl (w.heap.size + 1) rfl 35 (cellsU zeroH) (0, 0) _ (heap_alloc2_new w _ _) Tryd.underlying35 rfl (hashCells zeroH rfl) ?_)
      | (refine wpList_store_row rfl 35 (.tmp 2) (.tmp 11) rfl w.heap.size (cellsU zeroH) rfl rfl 35 (cellsU zeroH) (heap_alloc2_old w _ _) (hashCells zeroH rfl) rfl (cellsU_one _) ?_))
    refine bodyPost_ret (v := .tuple #[.agg (cellsU zeroH), .int .i64 40]) (results_hash _ Tryd.results24 _ _ w.heap.size zeroH _ rfl rfl (setRow_heap _ _ _ _ _ _ (heap_alloc2_old w _ _)) rfl) rfl ⟨Or.inr ⟨fun h => HS.out h.1, rfl⟩, below_setRow (((Below.refl _ w).alloc (Nat.le_refl _) _).alloc (by simp) _) _ _ (Nat.le_refl _)⟩

end Go.Proofs.YtjkhkgdijnhdmaaDoor
