/- What a point's words say: model's coders' value, kilowattref26.value. -/
import Derived.Test.YtnnknnaimabehaaDoorModAll
import Derived.Test.YtnnknnaimabehaaDoorRegsTextsSl
namespace Go.Proofs.YtnnknnaimabehaaDoor
open Go.RowKit
set_option linter.unusedVariables false
set_option maxRecDepth 100000
/-- The text that registers say. -/
noncomputable def txtS (xs : List Int) : ByteArray := strU (rbytes xs (Classical.choose (first_is (rbyte xs) (2 * xs.length))))
theorem fromtxt_own (xs : List Int) (n : Nat) (hn : xs.length = n) (h1 : n ≤ 1000) (hx : ∀ x ∈ xs, 0 ≤ x ∧ x < 65536) (A : Option Addr) (c : Nat) (w : World) (hS : SlI w w.heap.size .u16 A n c xs) :
    Calls Tryd.prog 71 #[.slice A n c] w (fun e w' => e = .returned (.string (txtS xs)) ∧ Below w.heap.size w w') := by
  unfold txtS
  have hch := Classical.choose_spec (first_is (rbyte xs) (2 * xs.length))
  obtain ⟨k, hk0⟩ : ∃ k, Classical.choose (first_is (rbyte xs) (2 * xs.length)) = k := ⟨_, rfl⟩
  rw [hk0] at hch ⊢
  rw [hn] at hch
  obtain ⟨hk, h2, h3⟩ := hch
  obtain ⟨zs, hzs⟩ : ∃ zs : List Reg, zs.map (·.1) = xs := ⟨xs.attach.map fun x => ⟨x.1, hx x.1 x.2⟩, by simp⟩
  have hzl : zs.length = n := by rw [← hn, ← hzs]; simp
  have hb := bytesOf_rbytes zs
  rw [hzs, hzl] at hb
  have hat : ∀ i, i < 2 * n → (bytesOf zs)[i]? = some (rbyte xs i) := fun i hi => by rw [hb, rbytes, List.getElem?_map, List.getElem?_range hi]; rfl
  have C := (callsIn_wide (n := 5)).1 (fromtext_in A n c zs (by omega) hzl w (by rw [hzs]; exact hS.2.2.2.2))
  refine C.mono ?_
  rintro e w' ⟨⟨k', g1, g2, g3, rfl⟩, hbel⟩
  have : k = k' := by
    refine first_one (rbyte xs) (2 * n) k k' hk g1 h2 h3 (fun i hi h0 => g2 i hi (by rw [hat i (by omega), h0])) ?_
    rcases g3 with g3 | g3
    · exact Or.inl g3
    · rcases Nat.lt_or_ge k' (2 * n) with h | h
      · rw [hat k' h] at g3; exact Or.inr (by simpa using g3)
      · exact Or.inl (by omega)
  subst this
  exact ⟨by rw [hb, rbytes_take _ _ _ hk], hbel⟩
/-- What a point's words say. -/
noncomputable def rdV (p : PtP) (l : List Int) : ValP := if p.kind = 3 then ⟨0, 0, txtS l⟩ else if p.kind = 2 then ⟨0, signedV (valX l 1) p.words, empS⟩ else ⟨valX l 1, 0, empS⟩
theorem msigned_bounds (v m : Int) (h0 : 0 ≤ v) (hv : v ≤ 18446744073709551615) : -9223372036854775808 ≤ signedV v m ∧ signedV v m ≤ 9223372036854775807 := by
  unfold signedV
  cases h : fitsB v m with
  | false => simp
  | true =>
    simp only [fitsB, decide_eq_true_eq] at h
    rcases h with ⟨rfl, h⟩ | ⟨rfl, h⟩ | rfl <;> simp [halfS] <;> split <;> omega
theorem valX_in (l : List Int) (hx : ∀ x ∈ l, 0 ≤ x ∧ x < 65536) : 0 ≤ valX l 1 ∧ valX l 1 ≤ 18446744073709551615 := by
  unfold valX
  cases hb : valB l.length 1 with
  | false => simp
  | true =>
    rw [if_pos rfl]
    have ht : turnL 1 l = l := by simp [turnL]
    rw [ht]
    simp only [valB, Bool.and_eq_true, decide_eq_true_eq] at hb
    match l, hb.1, hx with
    | [a], _, hx =>
      have h1 := hx a (by simp)
      simp [valN]
      omega
    | [a, b], _, hx =>
      have h1 := hx a (by simp)
      have h2 := hx b (by simp)
      simp [valN]
      omega
    | [a, b, c, d], _, hx =>
      have h1 := hx a (by simp)
      have h2 := hx b (by simp)
      have h3 := hx c (by simp)
      have h4 := hx d (by simp)
      simp [valN]
      omega
theorem rdV_in (p : PtP) (l : List Int) (hx : ∀ x ∈ l, 0 ≤ x ∧ x < 65536) : ValIn (rdV p l) := by
  have h := valX_in l hx
  have h2 := msigned_bounds (valX l 1) p.words h.1 h.2
  unfold rdV
  split
  · exact ⟨by simp, by simp⟩
  · split
    · exact ⟨by simp, h2⟩
    · exact ⟨h, by simp⟩
theorem set3 {W : World} {B : Nat} {T : TypeId} {a b c : Value} (h : Held W B T #[a, b, c]) (a' b' c' : Value) : Held (((W.setCell ⟨B, 0, none⟩ a').setCell ⟨B, 1, none⟩ b').setCell ⟨B, 2, none⟩ c') B T #[a', b', c'] := by
  have h3 := ((h.set 0 a').set 1 b').set 2 c'
  simpa using h3
theorem set3_below {n : Nat} {W0 W : World} {B : Nat} (hb : Below n W0 W) (hB : n ≤ B) (a' b' c' : Value) : Below n W0 (((W.setCell ⟨B, 0, none⟩ a').setCell ⟨B, 1, none⟩ b').setCell ⟨B, 2, none⟩ c') :=
  ((hb.setCell (p := ⟨B, 0, none⟩) hB a').setCell (p := ⟨B, 1, none⟩) hB b').setCell (p := ⟨B, 2, none⟩) hB c'
set_option maxHeartbeats 1000000 in
theorem text_value (m : Int) (A : Option Addr) (n c : Nat) (xs : List Int) (hn1 : n ≤ 1000) (hx : ∀ x ∈ xs, 0 ≤ x ∧ x < 65536) (w : World) (hS : SlI w w.heap.size .u16 A n c xs) :
    Calls Tryd.prog 69 #[.int .i64 m, .slice A n c] w fun e w' => e = .returned (valV ⟨0, 0, txtS xs⟩) ∧ Below w.heap.size w w' := by
  obtain ⟨w1, hw1⟩ : ∃ W, w.alloc (.cells #[.int .u64 0, .int .i64 0, .string ⟨#[]⟩] 46) = W := ⟨_, rfl⟩
  have hb1 : Below w.heap.size w w1 := by rw [← hw1]; exact (Below.refl _ w).alloc (Nat.le_refl _) _
  have hK1 : Held w1 w.heap.size 46 #[.int .u64 0, .int .i64 0, .string ⟨#[]⟩] := by rw [← hw1]; exact Held.new w _ _
  have HC := Lib.hid (fromtxt_own xs n hS.1 hn1 hx A c w1 (hS.up hb1))
  clear hS hx
  obtain ⟨S, hSS⟩ : ∃ S, txtS xs = S := ⟨_, rfl⟩
  rw [hSS] at HC ⊢
  clear hSS
  go_in
  go_wp2_with fail
  refine HC.out.mono ?_
  rintro e w2 ⟨rfl, hb2⟩
  have hK2 := hK1.below hb2 hK1.lt
  have hb2w := hb1.trans (hb2.mono hb1.size)
  have k0 := hK2.cell 0
  have k1 := hK2.cell 1
  have k2 := hK2.cell 2
  have hff := hK2.frozen
  have hH := set3 hK2 (.int .u64 0) (.int .i64 0) (.string S)
  have hbF := set3_below hb2w (B := w.heap.size) (Nat.le_refl _) (.int .u64 0) (.int .i64 0) (.string S)
  go_wp2_with fail
  exact bodyPost_ret (results_cell_row Tryd.results69 _ _ (w.heap.size) 46 _ (0, 0) _ rfl hH Tryd.underlying46 rfl (by kernel_rfl)) rfl ⟨rfl, hbF⟩
set_option maxHeartbeats 1000000 in
theorem plain_value (m : Int) (A : Option Addr) (n c : Nat) (xs : List Int) (hx : ∀ x ∈ xs, 0 ≤ x ∧ x < 65536) (w : World) (hS : SlI w w.heap.size .u16 A n c xs) :
    Calls Tryd.prog 94 #[.int .i64 m, .slice A n c] w fun e w' => e = .returned (valV ⟨valX xs 1, 0, empS⟩) ∧ Below w.heap.size w w' := by
  obtain ⟨w1, hw1⟩ : ∃ W, w.alloc (.cells #[.int .u64 0, .int .i64 0, .string ⟨#[]⟩] 46) = W := ⟨_, rfl⟩
  have hb1 : Below w.heap.size w w1 := by rw [← hw1]; exact (Below.refl _ w).alloc (Nat.le_refl _) _
  have hK1 : Held w1 w.heap.size 46 #[.int .u64 0, .int .i64 0, .string ⟨#[]⟩] := by rw [← hw1]; exact Held.new w _ _
  have HC := Lib.hid (value_sl A n c xs 1 w1 (hS.up hb1) hx)
  clear hS hx
  obtain ⟨X, hXX⟩ : ∃ X, valX xs 1 = X := ⟨_, rfl⟩
  obtain ⟨E, hEE⟩ : ∃ E, valE xs 1 = E := ⟨_, rfl⟩
  rw [hXX] at HC ⊢
  rw [hEE] at HC
  clear hXX hEE
  go_in
  go_wp2_with fail
  refine HC.out.mono ?_
  rintro e w2 ⟨rfl, hb2⟩
  have hK2 := hK1.below hb2 hK1.lt
  have hb2w := hb1.trans (hb2.mono hb1.size)
  have k0 := hK2.cell 0
  have k1 := hK2.cell 1
  have k2 := hK2.cell 2
  have hff := hK2.frozen
  have hH := set3 hK2 (.int .u64 X) (.int .i64 0) (.string ⟨#[]⟩)
  have hbF := set3_below hb2w (B := w.heap.size) (Nat.le_refl _) (.int .u64 X) (.int .i64 0) (.string ⟨#[]⟩)
  go_wp2_with fail
  exact bodyPost_ret (results_cell_row Tryd.results94 _ _ (w.heap.size) 46 _ (0, 0) _ rfl hH Tryd.underlying46 rfl (by kernel_rfl)) rfl ⟨rfl, hbF⟩
set_option maxHeartbeats 1000000 in
theorem signed_value (m : Int) (A : Option Addr) (n c : Nat) (xs : List Int) (hx : ∀ x ∈ xs, 0 ≤ x ∧ x < 65536) (w : World) (hS : SlI w w.heap.size .u16 A n c xs) :
    Calls Tryd.prog 83 #[.int .i64 m, .slice A n c] w fun e w' => e = .returned (valV ⟨0, signedV (valX xs 1) m, empS⟩) ∧ Below w.heap.size w w' := by
  obtain ⟨w1, hw1⟩ : ∃ W, w.alloc (.cells #[.int .u64 0, .int .i64 0, .string ⟨#[]⟩] 46) = W := ⟨_, rfl⟩
  have hb1 : Below w.heap.size w w1 := by rw [← hw1]; exact (Below.refl _ w).alloc (Nat.le_refl _) _
  have hK1 : Held w1 w.heap.size 46 #[.int .u64 0, .int .i64 0, .string ⟨#[]⟩] := by rw [← hw1]; exact Held.new w _ _
  have HC := Lib.hid (value_sl A n c xs 1 w1 (hS.up hb1) hx)
  have hvi := valX_in xs hx
  clear hS hx
  obtain ⟨X, hXX⟩ : ∃ X, valX xs 1 = X := ⟨_, rfl⟩
  obtain ⟨E, hEE⟩ : ∃ E, valE xs 1 = E := ⟨_, rfl⟩
  rw [hXX] at HC hvi ⊢
  rw [hEE] at HC
  have HG := Lib.hid (fun (W : World) => signed_own X m hvi.1 hvi.2 W)
  obtain ⟨Y, hYY⟩ : ∃ Y, signedV X m = Y := ⟨_, rfl⟩
  obtain ⟨F, hFF⟩ : ∃ F, signedE X m = F := ⟨_, rfl⟩
  rw [hYY] at HG ⊢
  rw [hFF] at HG
  clear hXX hEE hYY hFF
  go_in
  go_wp2_with fail
  refine HC.out.mono ?_
  rintro e w2 ⟨rfl, hb2⟩
  have hK2 := hK1.below hb2 hK1.lt
  have hb2w := hb1.trans (hb2.mono hb1.size)
  go_wp2_with fail
  refine (HG.out w2).mono ?_
  rintro e w' ⟨rfl, rfl⟩
  have k0 := hK2.cell 0
  have k1 := hK2.cell 1
  have k2 := hK2.cell 2
  have hff := hK2.frozen
  have hH := set3 hK2 (.int .u64 0) (.int .i64 Y) (.string ⟨#[]⟩)
  have hbF := set3_below hb2w (B := w.heap.size) (Nat.le_refl _) (.int .u64 0) (.int .i64 Y) (.string ⟨#[]⟩)
  go_wp2_with fail
  exact bodyPost_ret (results_cell_row Tryd.results83 _ _ (w.heap.size) 46 _ (0, 0) _ rfl hH Tryd.underlying46 rfl (by kernel_rfl)) rfl ⟨rfl, hbF⟩
/-- The method that a coder's value is. -/
theorem coder_value (p : PtP) (f : FuncId) (A : Option Addr) (n c : Nat) (xs : List Int) (hn1 : n ≤ 1000) (hx : ∀ x ∈ xs, 0 ≤ x ∧ x < 65536) (w : World) (hS : SlI w w.heap.size .u16 A n c xs) (h : (p.kind = 3 ∧ f = 69) ∨ (p.kind ≠ 3 ∧ p.kind = 2 ∧ f = 83) ∨ (p.kind ≠ 3 ∧ p.kind ≠ 2 ∧ f = 94)) :
    Calls Tryd.prog f #[.int .i64 p.words, .slice A n c] w fun e w' => e = .returned (valV (rdV p xs)) ∧ Below w.heap.size w w' := by
  rcases h with ⟨h1, rfl⟩ | ⟨h1, h2, rfl⟩ | ⟨h1, h2, rfl⟩
  · have e : rdV p xs = ⟨0, 0, txtS xs⟩ := by unfold rdV; rw [if_pos h1]
    rw [e]
    exact text_value _ _ _ _ _ hn1 hx _ hS
  · have e : rdV p xs = ⟨0, signedV (valX xs 1) p.words, empS⟩ := by unfold rdV; rw [if_neg h1, if_pos h2]
    rw [e]
    exact signed_value _ _ _ _ _ hx _ hS
  · have e : rdV p xs = ⟨valX xs 1, 0, empS⟩ := by unfold rdV; rw [if_neg h1, if_neg h2]
    rw [e]
    exact plain_value _ _ _ _ _ hx _ hS
end Go.Proofs.YtnnknnaimabehaaDoor
