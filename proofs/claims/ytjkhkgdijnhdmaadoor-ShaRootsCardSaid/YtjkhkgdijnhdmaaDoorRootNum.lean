/- The document's numbers, as far as ShaRoots asks them: Of, plus, Bare, Times; power. -/
import Derived.Test.YtjkhkgdijnhdmaaDoorShaRefBits
import Derived.Test.YtjkhkgdijnhdmaaDoorShaAlive
import Derived.Deep.WholeRow
import Derived.Laws.Rows
namespace Go.Proofs.YtjkhkgdijnhdmaaDoor
open Go.RowKit

/-- The i-th bit of a number. -/
def bitN (n i : Nat) : Nat := n / 2 ^ i % 2
theorem bitN_lt (n i : Nat) : bitN n i < 2 := Nat.mod_lt _ (by omega)
/-- Its first 200 bits. -/
def bitsL (n : Nat) : List Nat := (List.range 200).map (bitN n)
theorem bitsL_len (n : Nat) : (bitsL n).length = 200 := by simp [bitsL]
theorem bitsL_get (n i : Nat) (h : i < 200) : (bitsL n)[i]? = some (bitN n i) := by simp [bitsL, h]
/-- The cells of a number without sign. -/
def numA (l : List Nat) : Array Value := (Value.bool false :: l.map fun (x : Nat) => Value.int .i64 (x : Int)).toArray
theorem numA_size (l : List Nat) : (numA l).size = l.length + 1 := by simp [numA]
theorem numA_neg (l : List Nat) : (numA l)[0]? = some (.bool false) := rfl
theorem numA_at (l : List Nat) (i x : Nat) (h : l[i]? = some x) : (numA l)[1 + i]? = some (.int .i64 (x : Int)) := by
  rw [Nat.add_comm]; simp [numA, h]
theorem numA_set (l : List Nat) (i y : Nat) : (numA l).setIfInBounds (1 + i) (.int .i64 (y : Int)) = numA (l.set i y) := by
  rw [Nat.add_comm]; simp [numA, List.map_set]
theorem numA_set0 (l : List Nat) : (numA l).setIfInBounds 0 (.bool false) = numA l := by simp [numA]
theorem numA_one (l : List Nat) : (numA l).all (·.oneCell') = true := by simp [numA, Value.oneCell']
def z200 : List Nat := List.replicate 200 0
theorem zero_num : Tryd.zeroCells74 = numA z200 := by kernel_rfl
theorem num_size (l : List Nat) (h : l.length = 200) : (Tryd.prog.info? 74).map (·.size) = some (numA l).size := by
  rw [numA_size, h]; kernel_rfl
/-- The first i are of one list, the others noughts. -/
def fillN (f : Nat → Nat) (i : Nat) : List Nat := (List.range 200).map fun j => if j < i then f j else 0
theorem fillN_len (f : Nat → Nat) (i : Nat) : (fillN f i).length = 200 := by simp [fillN]
theorem fillN_zero (f : Nat → Nat) : fillN f 0 = z200 := by
  unfold fillN z200
  rw [List.eq_replicate_iff]
  exact ⟨by rw [List.length_map, List.length_range], fun b hb => by obtain ⟨j, _, rfl⟩ := List.mem_map.1 hb; rw [if_neg (by omega)]⟩
theorem fillN_get (f : Nat → Nat) (i : Nat) (h : i < 200) : (fillN f i)[i]? = some 0 := by simp [fillN, h]
theorem fillN_set (f : Nat → Nat) (i : Nat) (_h : i < 200) : (fillN f i).set i (f i) = fillN f (i + 1) := by
  apply List.ext_getElem
  · simp [fillN]
  · intro j h1 h2
    rw [List.getElem_set]
    simp only [fillN, List.getElem_map, List.getElem_range]
    split
    · rename_i e; subst e; simp
    · rename_i e
      by_cases hj : j < i
      · rw [if_pos hj, if_pos (by omega)]
      · rw [if_neg hj, if_neg (by omega)]
theorem fillN_end (n : Nat) : fillN (bitN n) 200 = bitsL n := by
  apply List.ext_getElem
  · simp [fillN, bitsL]
  · intro j h1 h2
    simp [fillN] at h1
    simp [fillN, bitsL, h1]
theorem fillN_64 (n : Nat) (h : n < 2 ^ 64) : fillN (bitN n) 64 = bitsL n := by
  apply List.ext_getElem
  · simp [fillN, bitsL]
  · intro j h1 h2
    simp only [fillN, bitsL, List.getElem_map, List.getElem_range]
    split
    · rfl
    · rename_i hj
      unfold bitN
      rw [Nat.div_eq_of_lt (Nat.lt_of_lt_of_le h (Nat.pow_le_pow_right (by omega) (by omega)))]
theorem bit_at (n i : Nat) (hn : n < 2 ^ 64) : bits BinOp.and IntKind.u64 ((n : Int) / 2 ^ i) 1 = ((bitN n i : Nat) : Int) := by
  have h1 : ((n : Int) / 2 ^ i) = ((n / 2 ^ i : Nat) : Int) := by push_cast; rfl
  have h2 : n / 2 ^ i < 2 ^ 64 := Nat.lt_of_le_of_lt (Nat.div_le_self _ _) hn
  rw [h1, show (1 : Int) = ((1 : Nat) : Int) from rfl, u64_and_nat _ _ h2 (by decide), Nat.and_one_is_mod]
  rfl
theorem wrap_bit (b : Nat) (h : b < 2) : wrap64 (b : Int) = (b : Int) := by
  unfold wrap64; omega
set_option maxRecDepth 100000 in
set_option maxHeartbeats 4000000 in
theorem num_of (n : Nat) (hn : n < 2 ^ 64) (w : World) :
    Calls Tryd.prog 43 #[.int .u64 (n : Int)] w fun e w' => e = .returned (.agg (numA (bitsL n))) ∧ Below w.heap.size w w' := by
  have hzz := zero_num
  obtain ⟨w1, hw1⟩ : ∃ w1, (w.alloc (.cells (numA z200) 74)).alloc (.cells (numA z200) 74) = w1 := ⟨_, rfl⟩
  have hb1 : Below w.heap.size w w1 := by rw [← hw1]; exact ((Below.refl _ w).alloc (Nat.le_refl _) _).alloc (by simp) _
  have hO1 : Held w1 w.heap.size 74 (numA z200) := by rw [← hw1]; exact (Held.new w _ _).alloc _
  have hX1 : Held w1 (w.heap.size + 1) 74 (numA z200) := by rw [← hw1]; have := Held.new (w.alloc (.cells (numA z200) 74)) 74 (numA z200); rw [World.size_alloc] at this; exact this
  go_in
  go_wp2_with fail
  go_loopw [4] (fun u4 wx => ∃ i : Nat, i ≤ 64 ∧ u4 = .int .i64 i ∧ Held wx (w.heap.size + 1) 74 (numA (fillN (bitN n) i)) ∧ Held wx w.heap.size 74 (numA z200) ∧ Below w.heap.size w wx) (fun i _ => 64 - (intOf i).toNat)
  case atStart => exact ⟨0, by omega, rfl, by rw [fillN_zero]; exact hX1, hO1, hb1⟩
  case round =>
    clear hX1 hO1 hb1
    obtain ⟨i, hi, rfl, hX, hO, hbx⟩ := hrel
    by_cases hlt : i < 64
    · have hck : wr.cell? ⟨w.heap.size + 1, 1 + i, none⟩ = some (.int .i64 ((0 : Nat) : Int)) := (hX.cell (1 + i)).trans (numA_at _ _ _ (fillN_get _ i (by omega)))
      have hfk := hX.frozen (1 + i)
      have hX2 := hX.set (1 + i) (.int .i64 ((bitN n i : Nat) : Int))
      rw [numA_set, fillN_set _ i (by omega)] at hX2
      have hO2 := hO.far (p := ⟨w.heap.size + 1, 1 + i, none⟩) (by show w.heap.size ≠ w.heap.size + 1; omega) (.int .i64 ((bitN n i : Nat) : Int))
      have hb2 := hbx.setCell (p := ⟨w.heap.size + 1, 1 + i, none⟩) (by show w.heap.size ≤ w.heap.size + 1; omega) (.int .i64 ((bitN n i : Nat) : Int))
      have hbit := bit_at n i hn
      have hwb := wrap_bit (bitN n i) (bitN_lt n i)
      obtain ⟨b, hb⟩ : ∃ b, bitN n i = b := ⟨_, rfl⟩
      rw [hb] at hX2 hO2 hb2 hbit hwb
      clear hX hO hbx hb
      go_wp2_with (first | (rw [hbit, hwb]) | fail)
      exact ⟨⟨i + 1, by omega, by go_num, hX2, hO2, hb2⟩, by simp [intOf]; omega⟩
    · obtain rfl : i = 64 := by omega
      rw [fillN_64 n hn] at hX
      have hs := num_size (bitsL n) (bitsL_len n)
      have hse : (numA z200).size = (numA (bitsL n)).size := by rw [numA_size, numA_size, bitsL_len]; rfl
      have hu := Tryd.underlying74
      go_wp2_with (first
        | (refine wpList_load_row rfl 74 (.tmp 3) rfl (w.heap.size + 1) rfl 74 (numA (bitsL n)) (0, 0) _ hX hu rfl hs ?_)
        | (refine wpList_store_row rfl 74 (.tmp 2) (.tmp 17) rfl w.heap.size (numA (bitsL n)) rfl rfl 74 (numA z200) hO hs hse (numA_one _) ?_)
        | fail)
      refine bodyPost_ret (v := .agg (numA (bitsL n))) (results_cell_row Tryd.results43 _ _ w.heap.size 74 (numA (bitsL n)) (0, 0) _ rfl (setRow_heap _ _ _ _ _ _ hO) hu rfl hs) rfl ⟨rfl, below_setRow hbx _ _ (Nat.le_refl _)⟩
/-- What is carried into the i-th bit of a sum. -/
theorem sum_div (A B m : Nat) (hm : 0 < m) : ∃ c, c ≤ 1 ∧ (A + B) / m = A / m + B / m + c := by
  refine ⟨(A % m + B % m) / m, ?_, ?_⟩
  · have h1 := Nat.mod_lt A hm
    have h2 := Nat.mod_lt B hm
    have : (A % m + B % m) / m < 2 := Nat.div_lt_of_lt_mul (by omega)
    omega
  · have h1 := Nat.div_add_mod A m
    have h2 := Nat.div_add_mod B m
    have e : A + B = (A % m + B % m) + m * (A / m + B / m) := by rw [Nat.mul_add]; omega
    rw [e, Nat.add_mul_div_left _ _ hm]
    omega
theorem div_next (A i : Nat) : A / 2 ^ (i + 1) = A / 2 ^ i / 2 := by rw [Nat.pow_succ, Nat.div_div_eq_div_mul]
def carN (A B i : Nat) : Nat := (A + B) / 2 ^ i - A / 2 ^ i - B / 2 ^ i
theorem car_le (A B i : Nat) : carN A B i ≤ 1 := by
  obtain ⟨c, hc, e⟩ := sum_div A B (2 ^ i) (Nat.two_pow_pos i)
  unfold carN; omega
theorem car_zero (A B : Nat) : carN A B 0 = 0 := by simp [carN]
theorem car_bit (A B i : Nat) : (bitN A i + bitN B i + carN A B i) % 2 = bitN (A + B) i := by
  obtain ⟨c, hc, e⟩ := sum_div A B (2 ^ i) (Nat.two_pow_pos i)
  unfold carN bitN; rw [e]; omega
theorem car_next (A B i : Nat) : (bitN A i + bitN B i + carN A B i) / 2 = carN A B (i + 1) := by
  obtain ⟨c, hc, e⟩ := sum_div A B (2 ^ i) (Nat.two_pow_pos i)
  unfold carN bitN; rw [div_next, div_next, div_next, e]; omega
set_option maxRecDepth 100000 in
set_option maxHeartbeats 4000000 in
theorem num_plus (A B : Nat) (w : World) :
    Calls Tryd.prog 57 #[.agg (numA (bitsL A)), .agg (numA (bitsL B))] w fun e w' => e = .returned (.agg (numA (bitsL (A + B)))) ∧ Below w.heap.size w w' := by
  have hzz := zero_num
  obtain ⟨w1, hw1⟩ : ∃ w1, (((w.alloc (.cells (numA (bitsL A)) 74)).alloc (.cells (numA (bitsL B)) 74)).alloc (.cells (numA z200) 74)).alloc (.cells (numA z200) 74) = w1 := ⟨_, rfl⟩
  have hb1 : Below w.heap.size w w1 := by rw [← hw1]; exact ((((Below.refl _ w).alloc (Nat.le_refl _) _).alloc (by simp) _).alloc (by simp; omega) _).alloc (by simp; omega) _
  have hA1 : Held w1 w.heap.size 74 (numA (bitsL A)) := by rw [← hw1]; exact (((Held.new w _ _).alloc _).alloc _).alloc _
  have hB1 : Held w1 (w.heap.size + 1) 74 (numA (bitsL B)) := by rw [← hw1]; have h := Held.new (w.alloc (.cells (numA (bitsL A)) 74)) 74 (numA (bitsL B)); rw [World.size_alloc] at h; exact (h.alloc _).alloc _
  have hO1 : Held w1 (w.heap.size + 1 + 1) 74 (numA z200) := by rw [← hw1]; have h := Held.new ((w.alloc (.cells (numA (bitsL A)) 74)).alloc (.cells (numA (bitsL B)) 74)) 74 (numA z200); rw [World.size_alloc, World.size_alloc] at h; exact h.alloc _
  have hX1 : Held w1 (w.heap.size + 1 + 1 + 1) 74 (numA z200) := by rw [← hw1]; have h := Held.new (((w.alloc (.cells (numA (bitsL A)) 74)).alloc (.cells (numA (bitsL B)) 74)).alloc (.cells (numA z200) 74)) 74 (numA z200); rw [World.size_alloc, World.size_alloc, World.size_alloc] at h; exact h
  go_in
  go_wp2_with fail
  go_loopw [6, 7] (fun u6 u7 wx => ∃ i : Nat, i ≤ 200 ∧ u6 = .int .i64 (carN A B i : Nat) ∧ u7 = .int .i64 i ∧ Held wx w.heap.size 74 (numA (bitsL A)) ∧ Held wx (w.heap.size + 1) 74 (numA (bitsL B)) ∧ Held wx (w.heap.size + 1 + 1) 74 (numA z200) ∧ Held wx (w.heap.size + 1 + 1 + 1) 74 (numA (fillN (bitN (A + B)) i)) ∧ Below w.heap.size w wx) (fun _ i _ => 200 - (intOf i).toNat)
  case atStart => exact ⟨0, by omega, by rw [car_zero]; rfl, rfl, hA1, hB1, hO1, by rw [fillN_zero]; exact hX1, hb1⟩
  case round =>
    clear hA1 hB1 hX1 hO1 hb1
    obtain ⟨i, hi, rfl, rfl, hA, hB, hO, hX, hbx⟩ := hrel
    by_cases hlt : i < 200
    · have hca : wr.cell? ⟨w.heap.size, 1 + i, none⟩ = some (.int .i64 (bitN A i : Nat)) := (hA.cell (1 + i)).trans (numA_at _ _ _ (bitsL_get A i hlt))
      have hcb : wr.cell? ⟨w.heap.size + 1, 1 + i, none⟩ = some (.int .i64 (bitN B i : Nat)) := (hB.cell (1 + i)).trans (numA_at _ _ _ (bitsL_get B i hlt))
      have h1 := bitN_lt A i
      have h2 := bitN_lt B i
      have h3 := car_le A B i
      have e1 := car_bit A B i
      have e2 := car_next A B i
      obtain ⟨a, ha⟩ : ∃ a, bitN A i = a := ⟨_, rfl⟩
      obtain ⟨b, hb⟩ : ∃ b, bitN B i = b := ⟨_, rfl⟩
      obtain ⟨c, hc⟩ : ∃ c, carN A B i = c := ⟨_, rfl⟩
      rw [ha] at hca h1 e1 e2
      rw [hb] at hcb h2 e1 e2
      rw [hc] at h3 e1 e2 ⊢
      clear ha hb hc
      have m1 : ((a : Int) + b + c).tmod 2 = ((bitN (A + B) i : Nat) : Int) := by rw [Int.tmod_eq_emod_of_nonneg (by omega)]; omega
      have m2 : ((a : Int) + b + c) % 2 = ((bitN (A + B) i : Nat) : Int) := by omega
      have d1 : ((a : Int) + b + c).tdiv 2 = ((carN A B (i + 1) : Nat) : Int) := by rw [Int.tdiv_eq_ediv_of_nonneg (by omega)]; omega
      have d2 : ((a : Int) + b + c) / 2 = ((carN A B (i + 1) : Nat) : Int) := by omega
      have hck : wr.cell? ⟨w.heap.size + 1 + 1 + 1, 1 + i, none⟩ = some (.int .i64 ((0 : Nat) : Int)) := (hX.cell (1 + i)).trans (numA_at _ _ _ (fillN_get _ i (by omega)))
      have hfk := hX.frozen (1 + i)
      have HS := Lib.hid (fillN_set (bitN (A + B)) i hlt)
      obtain ⟨x, hx⟩ : ∃ x, bitN (A + B) i = x := ⟨_, rfl⟩
      obtain ⟨y, hy⟩ : ∃ y, carN A B (i + 1) = y := ⟨_, rfl⟩
      rw [hx] at m1 m2
      rw [hy] at d1 d2
      have HX := Lib.hid hx
      have HY := Lib.hid hy
      clear hx hy e1 e2
      go_wp2_with fail
      go_quiet (fail)
      go_wp2_with (first | (rw [m1]) | (rw [m2]) | (rw [d1]) | (rw [d2]) | fail)
      go_roundw
      case rel =>
        refine ⟨i + 1, by omega, by rw [HY.out], by go_num, hA.far (p := ⟨w.heap.size + 1 + 1 + 1, 1 + i, none⟩) (by show w.heap.size ≠ w.heap.size + 1 + 1 + 1; omega) _, hB.far (p := ⟨w.heap.size + 1 + 1 + 1, 1 + i, none⟩) (by show w.heap.size + 1 ≠ w.heap.size + 1 + 1 + 1; omega) _, hO.far (p := ⟨w.heap.size + 1 + 1 + 1, 1 + i, none⟩) (by show w.heap.size + 1 + 1 ≠ w.heap.size + 1 + 1 + 1; omega) _, ?_, (below_drewN hbx _).setCell (p := ⟨w.heap.size + 1 + 1 + 1, 1 + i, none⟩) (by show w.heap.size ≤ w.heap.size + 1 + 1 + 1; omega) _⟩
        have hX2 := hX.set (1 + i) (.int .i64 (x : Int))
        rw [numA_set, ← HX.out, HS.out, HX.out] at hX2
        exact hX2
      case measure => simp [intOf]; omega
    · obtain rfl : i = 200 := by omega
      rw [fillN_end] at hX
      have hs := num_size (bitsL (A + B)) (bitsL_len _)
      have hse : (numA z200).size = (numA (bitsL (A + B))).size := by rw [numA_size, numA_size, bitsL_len]; rfl
      have hu := Tryd.underlying74
      go_wp2_with (first
        | (refine wpList_load_row rfl 74 (.tmp 5) rfl (w.heap.size + 1 + 1 + 1) rfl 74 (numA (bitsL (A + B))) (0, 0) _ hX hu rfl hs ?_)
        | (refine wpList_store_row rfl 74 (.tmp 4) (.tmp 31) rfl (w.heap.size + 1 + 1) (numA (bitsL (A + B))) rfl rfl 74 (numA z200) hO hs hse (numA_one _) ?_)
        | fail)
      refine bodyPost_ret (v := .agg (numA (bitsL (A + B)))) (results_cell_row Tryd.results57 _ _ (w.heap.size + 1 + 1) 74 (numA (bitsL (A + B))) (0, 0) _ rfl (setRow_heap _ _ _ _ _ _ hO) hu rfl hs) rfl ⟨rfl, below_setRow hbx _ _ (by omega)⟩
end Go.Proofs.YtjkhkgdijnhdmaaDoor
