/- pdu.list: how many, how many bytes, and these. -/
import Derived.Test.YtcipleanckeoaaaDoorPduWords
import Derived.Test.YtcipleanckeoaaaDoorPduBase
import Derived.Deep.Cut
namespace Go.Proofs.YtcipleanckeoaaaDoor
open Go.RowKit
set_option linter.unusedVariables false

theorem words2 (b : List Int) (h : 2 ≤ b.length) : wordsP (b.take 2) = [wordP b 0] := by
  have e : (b.take 2).length = 2 := by rw [List.length_take]; omega
  unfold wordsP
  rw [e]
  simp [wordP, List.getD, List.getElem?_take]
theorem head_word (A : Option Addr) (n c : Nat) (b : List Int) (h3 : 2 ≤ n) (w : World) (hB : SlI w w.heap.size .u8 A n c b) (hb8 : Byte8 b) :
    Calls Tryd.prog 142 #[.slice A 2 c] w fun e w' => ∃ g o k, e = .returned (.slice (some ⟨g, o, none⟩) 1 k) ∧ w'.cell? ⟨g, o, none⟩ = some (.int .i64 (wordP b 0)) ∧ Below w.heap.size w w' := by
  have hl := hB.1
  refine (pwords_any A 2 c (b.take 2) (by omega) w (hB.take 2 h3) (fun x hx => hb8 x (List.mem_of_mem_take hx))).mono ?_
  rintro e w' ⟨A', c', rfl, hs, _, hb⟩
  rw [words2 b (by omega)] at hs
  obtain ⟨g, off, rfl, _, hc⟩ := hs.2.2.2.2 (by simp)
  exact ⟨g, off, c', rfl, hc 0 _ rfl, hb⟩
theorem size_two (k : Int) (h0 : 0 ≤ k) (h1 : k < 65536) (w : World) : Calls Tryd.prog 143 #[.int .i64 k] w fun e w' => e = .returned (.int .i64 (2 * k)) ∧ w = w' := by
  have e1 : IntKind.i64.wrap (2 * k) = 2 * k := IntWalk.i64_in _ (by omega)
  go_in
  go_wp2
  go_ret
  exact ⟨rfl, rfl⟩
theorem size_bits (k : Int) (h0 : 0 ≤ k) (h1 : k < 65536) (w : World) : Calls Tryd.prog 145 #[.int .i64 k] w fun e w' => e = .returned (.int .i64 ((k + 7) / 8)) ∧ w = w' := by
  have e1 : IntKind.i64.wrap (k + 7) = k + 7 := IntWalk.i64_in _ (by omega)
  have e2 : (k + 7).tdiv 8 = (k + 7) / 8 := Int.tdiv_eq_ediv_of_nonneg (by omega)
  have e3 : IntKind.i64.wrap ((k + 7) / 8) = (k + 7) / 8 := IntWalk.i64_in _ (by omega)
  go_in
  go_wp2
  go_ret
  exact ⟨rfl, rfl⟩
/-- Do they go together? -/
def listF (z most : Int) (b : List Int) : Bool := fitP (wordP b 0) most && (b.getD 2 0 == z) && ((b.length : Int) == 3 + z)
def ListPost (w : World) (N : Int) (rest : List Int) (fine : Bool) (e : Ending) (w' : World) : Prop := ∃ A m c, e = .returned (.tuple #[.int .i64 N, .slice A m c, .bool fine]) ∧ SlI w' w'.heap.size .u8 A m c rest ∧ Below w.heap.size w w'
theorem list_short (f : Nat) (A : Option Addr) (n c : Nat) (most : Int) (w : World) (hn : n < 3) : Calls Tryd.prog 144 #[.slice A n c, .func (.func f) #[] #[], .int .i64 most] w (ListPost w 0 [] false) := by
  have h : (n : Int) < 3 := by omega
  go_in
  go_wp2
  go_ret3
  exact ⟨none, 0, 0, rfl, SlI.nil _ _ _, Below.refl _ _⟩
theorem wordP_in0 (b : List Int) (hb : Byte8 b) (h : 2 ≤ b.length) : 0 ≤ wordP b 0 ∧ wordP b 0 < 65536 := by
  have a1 := hb _ (List.getElem_mem (show 0 < b.length by omega))
  have a2 := hb _ (List.getElem_mem (show 1 < b.length by omega))
  have b1 : b.getD 0 0 = b[0]'(by omega) := by simp [List.getD, show 0 < b.length by omega]
  have b2 : b.getD (0 + 1) 0 = b[1]'(by omega) := by simp [List.getD, show 1 < b.length by omega]
  unfold wordP
  rw [b1, b2]
  omega
set_option maxRecDepth 100000 in
set_option maxHeartbeats 2000000 in
theorem list_two_n (g off n c : Nat) (b : List Int) (most : Int) (w : World) (hB : SlI w w.heap.size .u8 (some ⟨g, off, none⟩) n c b) (hb8 : Byte8 b) (hn : n ≤ 1000) (hn3 : 3 ≤ n) (z : Int) (hz : z = 2 * wordP b 0) (hf : fitP (wordP b 0) most = false) :
    Calls Tryd.prog 144 #[.slice (some ⟨g, off, none⟩) n c, .func (.func 143) #[] #[], .int .i64 most] w (ListPost w (wordP b 0) (b.drop 3) false) := by
  have HW := Lib.hid (head_word (some ⟨g, off, none⟩) n c b (by omega) w hB hb8)
  have hl := hB.1
  obtain ⟨N0, N1⟩ := wordP_in0 b hb8 (by omega)
  obtain ⟨N, hN⟩ : ∃ N, wordP b 0 = N := ⟨_, rfl⟩
  obtain ⟨x2, hx2⟩ : ∃ x, b[2]? = some x := ⟨_, List.getElem?_eq_getElem (by omega)⟩
  obtain ⟨x20, x21⟩ := hb8 x2 (List.mem_of_getElem? hx2)
  have gx2 : b.getD 2 0 = x2 := by rw [List.getD, hx2]; rfl
  rw [hN] at HW N0 N1 hz hf
  skip
  rw [hN]
  have HSZ : Hid (∀ X, Calls Tryd.prog 143 #[.int .i64 N] X fun e w' => e = .returned (.int .i64 z) ∧ X = w') := Lib.hid (fun X => by rw [hz]; exact size_two N N0 N1 X)
  have hz0 : 0 ≤ z := by omega
  have hz1 : z ≤ 200000 := by omega
  have HF : Hid (∀ X, Calls Tryd.prog 99 #[.int .i64 N, .int .i64 most] X fun e w' => e = .returned (.bool false) ∧ X = w') := Lib.hid (fun X => by rw [← hf]; exact fits_own N most X)
  have HB := Lib.hid (fun (X : World) (h : Below w.heap.size w X) => hB.up h)
  have HC := Lib.hid (fun (X : World) (h : Below w.heap.size w X) => (by
    obtain ⟨g', o', e, hlt, hc⟩ := (hB.up h).2.2.2.2 (by rw [hl]; omega)
    injection e with e
    injection e with e1 e2
    subst e1 e2
    exact hc 2 x2 hx2 : X.cell? ⟨g, off + 2, none⟩ = some (.int .u8 x2)))
  have hcn := hB.2.1
  have hn3' : ¬ (n : Int) < 3 := by omega
  have h2n : 2 < n := by omega
  have h2n' : (2 : Int) < (n : Int) := by omega
  have h2c : 2 ≤ c := by omega
  have h2c' : (2 : Int) ≤ (c : Int) := by omega
  have h3n' : (3 : Int) ≤ (n : Int) := by omega
  have wx : IntKind.i64.wrap x2 = x2 := IntWalk.i64_in _ (by omega)
  have wz : IntKind.i64.wrap (3 + z) = 3 + z := IntWalk.i64_in _ (by omega)
  obtain ⟨AD, hAD⟩ : ∃ X, (if c = 3 then some (⟨g, off, none⟩ : Addr) else some ⟨g, off + 3, none⟩) = X := ⟨_, rfl⟩
  have HD : Hid (∀ X, Below w.heap.size w X → SlI X X.heap.size .u8 AD (n - 3) (c - 3) (b.drop 3)) := Lib.hid (fun X h => by
    rw [← hAD]
    split
    · have e1 : n - 3 = 0 := by omega
      have e2 : c - 3 = 0 := by omega
      rw [List.drop_eq_nil_of_le (by omega), e1, e2]
      exact ⟨rfl, by omega, by omega, (fun e => by cases e), RdI.nil⟩
    · exact (hB.up h).drop 3 (by omega))
  clear hB hz hN hx2 gx2 hb8 hf hl
  go_in
  go_wp2_with (go_at_call 142; (with_reducible refine HW.out.mono ?_); rintro e w1 ⟨g1, o1, k1, rfl, hc1, hb1⟩)
  obtain ⟨w2, hw2⟩ : ∃ W : World, w1.drew = W := ⟨_, rfl⟩
  have hb2 : Below w1.heap.size w1 w2 := by rw [← hw2]; exact (Below.refl _ _).drew
  have hb2w := hb1.trans (hb2.mono hb1.size)
  refine wp_region_held (S := Below w.heap.size w) (by kernel_rfl) ?_
  change wpAnyH _ _ _ _ _ _ _ _ w1.drew
  rw [hw2]
  have hS := hb2w
  refine wpAnyH_take (i := 0) (v := ?v0_1) rfl (by kernel_rfl) (by kernel_rfl) (by kernel_rfl) (fun _ _ _ h => h) (Or.inl ⟨by rfl, ?y0_1⟩) hS ?r0_1
  case y0_1 =>
    rintro W hH
    have hcx := HC.out W hH
    go_simp
    with_reducible rfl
  simp only [Act.put]
  try simp only [List.getElem_toArray, List.getElem_cons_zero]
  try simp only [List.setIfInBounds_toArray, List.set_cons_succ, List.set_cons_zero]
  refine wpAnyH_take (i := 1) (v := ?v1_2) rfl (by kernel_rfl) (by kernel_rfl) (by kernel_rfl) (fun _ _ _ h => h) (Or.inl ⟨by rfl, ?y1_2⟩) hS ?r1_2
  case y1_2 =>
    rintro W hH
    have hcx := HC.out W hH
    go_simp
    with_reducible rfl
  simp only [Act.put]
  try simp only [List.getElem_toArray, List.getElem_cons_succ, List.getElem_cons_zero]
  try simp only [List.setIfInBounds_toArray, List.set_cons_succ, List.set_cons_zero]
  refine wpAnyH_ready (rs := [2]) (by kernel_rfl) (by simp) ?_
  refine AllReadyH.cons rfl (fun K' hK' => ?_) AllReadyH.nil
  go_simp
  refine (HF.out _).mono ?_
  rintro e w' ⟨rfl, rfl⟩
  go_simp
  refine hK'.out _ _ hS (fun hS => ?_)
  clear hK' K'
  refine wpAnyH_take (i := 3) (v := ?v3_3) rfl (by kernel_rfl) (by kernel_rfl) (by kernel_rfl) (fun _ _ _ h => h) (Or.inl ⟨by rfl, ?y3_3⟩) hS ?r3_3
  case y3_3 =>
    rintro W hH
    have hcx := HC.out W hH
    go_simp
    with_reducible rfl
  simp only [Act.put]
  try simp only [List.getElem_toArray, List.getElem_cons_succ, List.getElem_cons_zero]
  try simp only [List.setIfInBounds_toArray, List.set_cons_succ, List.set_cons_zero]
  refine wpAnyH_take (i := 4) (v := undef) rfl (by kernel_rfl) (by kernel_rfl) (by kernel_rfl) (fun _ _ _ h => h) ?y4_4 hS ?r4_4
  case y4_4 => exact Or.inr ⟨by rfl, rfl⟩
  simp only [Act.put]
  try simp only [List.getElem_toArray, List.getElem_cons_succ, List.getElem_cons_zero]
  try simp only [List.setIfInBounds_toArray, List.set_cons_succ, List.set_cons_zero]
  refine wpAnyH_take (i := 5) (v := undef) rfl (by kernel_rfl) (by kernel_rfl) (by kernel_rfl) (fun _ _ _ h => h) ?y5_5 hS ?r5_5
  case y5_5 => exact Or.inr ⟨by rfl, rfl⟩
  simp only [Act.put]
  try simp only [List.getElem_toArray, List.getElem_cons_succ, List.getElem_cons_zero]
  try simp only [List.setIfInBounds_toArray, List.set_cons_succ, List.set_cons_zero]
  refine wpAnyH_take (i := 6) (v := undef) rfl (by kernel_rfl) (by kernel_rfl) (by kernel_rfl) (fun _ _ _ h => h) ?y6_6 hS ?r6_6
  case y6_6 => exact Or.inr ⟨by rfl, rfl⟩
  simp only [Act.put]
  try simp only [List.getElem_toArray, List.getElem_cons_succ, List.getElem_cons_zero]
  try simp only [List.setIfInBounds_toArray, List.set_cons_succ, List.set_cons_zero]
  refine wpAnyH_take (i := 7) (v := undef) rfl (by kernel_rfl) (by kernel_rfl) (by kernel_rfl) (fun _ _ _ h => h) ?y7_7 hS ?r7_7
  case y7_7 => exact Or.inr ⟨by rfl, rfl⟩
  simp only [Act.put]
  try simp only [List.getElem_toArray, List.getElem_cons_succ, List.getElem_cons_zero]
  try simp only [List.setIfInBounds_toArray, List.set_cons_succ, List.set_cons_zero]
  refine wpAnyH_take (i := 8) (v := undef) rfl (by kernel_rfl) (by kernel_rfl) (by kernel_rfl) (fun _ _ _ h => h) ?y8_8 hS ?r8_8
  case y8_8 => exact Or.inr ⟨by rfl, rfl⟩
  simp only [Act.put]
  try simp only [List.getElem_toArray, List.getElem_cons_succ, List.getElem_cons_zero]
  try simp only [List.setIfInBounds_toArray, List.set_cons_succ, List.set_cons_zero]
  refine wpAnyH_take (i := 9) (v := undef) rfl (by kernel_rfl) (by kernel_rfl) (by kernel_rfl) (fun _ _ _ h => h) ?y9_9 hS ?r9_9
  case y9_9 => exact Or.inr ⟨by rfl, rfl⟩
  simp only [Act.put]
  try simp only [List.getElem_toArray, List.getElem_cons_succ, List.getElem_cons_zero]
  try simp only [List.setIfInBounds_toArray, List.set_cons_succ, List.set_cons_zero]
  refine wpAnyH_take (i := 10) (v := undef) rfl (by kernel_rfl) (by kernel_rfl) (by kernel_rfl) (fun _ _ _ h => h) ?y10_10 hS ?r10_10
  case y10_10 => exact Or.inr ⟨by rfl, rfl⟩
  simp only [Act.put]
  try simp only [List.getElem_toArray, List.getElem_cons_succ, List.getElem_cons_zero]
  try simp only [List.setIfInBounds_toArray, List.set_cons_succ, List.set_cons_zero]
  refine wpAnyH_take (i := 11) (v := undef) rfl (by kernel_rfl) (by kernel_rfl) (by kernel_rfl) (fun _ _ _ h => h) ?y11_11 hS ?r11_11
  case y11_11 => exact Or.inr ⟨by rfl, rfl⟩
  simp only [Act.put]
  try simp only [List.getElem_toArray, List.getElem_cons_succ, List.getElem_cons_zero]
  try simp only [List.setIfInBounds_toArray, List.set_cons_succ, List.set_cons_zero]
  refine wpAnyH_take (i := 12) (v := ?v12_12) rfl (by kernel_rfl) (by kernel_rfl) (by kernel_rfl) (fun _ _ _ h => h) (Or.inl ⟨by rfl, ?y12_12⟩) hS ?r12_12
  case y12_12 =>
    rintro W hH
    have hcx := HC.out W hH
    go_simp
    with_reducible rfl
  simp only [Act.put]
  try simp only [List.getElem_toArray, List.getElem_cons_succ, List.getElem_cons_zero]
  try simp only [List.setIfInBounds_toArray, List.set_cons_succ, List.set_cons_zero]
  refine wpAnyH_take (i := 13) (v := ?v13_13) rfl (by kernel_rfl) (by kernel_rfl) (by kernel_rfl) (fun _ _ _ h => h) (Or.inl ⟨by rfl, ?y13_13⟩) hS ?r13_13
  case y13_13 =>
    rintro W hH
    have hcx := HC.out W hH
    go_simp
    with_reducible rfl
  simp only [Act.put]
  try simp only [List.getElem_toArray, List.getElem_cons_succ, List.getElem_cons_zero]
  try simp only [List.setIfInBounds_toArray, List.set_cons_succ, List.set_cons_zero]
  refine wpAnyH_take (i := 14) (v := undef) rfl (by kernel_rfl) (by kernel_rfl) (by kernel_rfl) (fun _ _ _ h => h) ?y14_14 hS ?r14_14
  case y14_14 => exact Or.inr ⟨by rfl, rfl⟩
  simp only [Act.put]
  try simp only [List.getElem_toArray, List.getElem_cons_succ, List.getElem_cons_zero]
  try simp only [List.setIfInBounds_toArray, List.set_cons_succ, List.set_cons_zero]
  refine wpAnyH_take (i := 15) (v := undef) rfl (by kernel_rfl) (by kernel_rfl) (by kernel_rfl) (fun _ _ _ h => h) ?y15_15 hS ?r15_15
  case y15_15 => exact Or.inr ⟨by rfl, rfl⟩
  simp only [Act.put]
  try simp only [List.getElem_toArray, List.getElem_cons_succ, List.getElem_cons_zero]
  try simp only [List.setIfInBounds_toArray, List.set_cons_succ, List.set_cons_zero]
  refine wpAnyH_take (i := 16) (v := undef) rfl (by kernel_rfl) (by kernel_rfl) (by kernel_rfl) (fun _ _ _ h => h) ?y16_16 hS ?r16_16
  case y16_16 => exact Or.inr ⟨by rfl, rfl⟩
  simp only [Act.put]
  try simp only [List.getElem_toArray, List.getElem_cons_succ, List.getElem_cons_zero]
  try simp only [List.setIfInBounds_toArray, List.set_cons_succ, List.set_cons_zero]
  refine wpAnyH_take (i := 17) (v := undef) rfl (by kernel_rfl) (by kernel_rfl) (by kernel_rfl) (fun _ _ _ h => h) ?y17_17 hS ?r17_17
  case y17_17 => exact Or.inr ⟨by rfl, rfl⟩
  simp only [Act.put]
  try simp only [List.getElem_toArray, List.getElem_cons_succ, List.getElem_cons_zero]
  try simp only [List.setIfInBounds_toArray, List.set_cons_succ, List.set_cons_zero]
  refine wpAnyH_take (i := 18) (v := undef) rfl (by kernel_rfl) (by kernel_rfl) (by kernel_rfl) (fun _ _ _ h => h) ?y18_18 hS ?r18_18
  case y18_18 => exact Or.inr ⟨by rfl, rfl⟩
  simp only [Act.put]
  try simp only [List.getElem_toArray, List.getElem_cons_succ, List.getElem_cons_zero]
  try simp only [List.setIfInBounds_toArray, List.set_cons_succ, List.set_cons_zero]
  refine wpAnyH_take (i := 19) (v := undef) rfl (by kernel_rfl) (by kernel_rfl) (by kernel_rfl) (fun _ _ _ h => h) ?y19_19 hS ?r19_19
  case y19_19 => exact Or.inr ⟨by rfl, rfl⟩
  simp only [Act.put]
  try simp only [List.getElem_toArray, List.getElem_cons_succ, List.getElem_cons_zero]
  try simp only [List.setIfInBounds_toArray, List.set_cons_succ, List.set_cons_zero]
  refine wpAnyH_take (i := 20) (v := undef) rfl (by kernel_rfl) (by kernel_rfl) (by kernel_rfl) (fun _ _ _ h => h) ?y20_20 hS ?r20_20
  case y20_20 => exact Or.inr ⟨by rfl, rfl⟩
  simp only [Act.put]
  try simp only [List.getElem_toArray, List.getElem_cons_succ, List.getElem_cons_zero]
  try simp only [List.setIfInBounds_toArray, List.set_cons_succ, List.set_cons_zero]
  refine wpAnyH_take (i := 21) (v := ?v21_21) rfl (by kernel_rfl) (by kernel_rfl) (by kernel_rfl) (fun _ _ _ h => h) (Or.inl ⟨by rfl, ?y21_21⟩) hS ?r21_21
  case y21_21 =>
    rintro W hH
    have hcx := HC.out W hH
    go_simp
    with_reducible rfl
  simp only [Act.put]
  try simp only [List.getElem_toArray, List.getElem_cons_succ, List.getElem_cons_zero]
  try simp only [List.setIfInBounds_toArray, List.set_cons_succ, List.set_cons_zero]
  refine wpAnyH_take (i := 22) (v := ?v22_22) rfl (by kernel_rfl) (by kernel_rfl) (by kernel_rfl) (fun _ _ _ h => h) (Or.inl ⟨by rfl, ?y22_22⟩) hS ?r22_22
  case y22_22 =>
    rintro W hH
    have hcx := HC.out W hH
    go_simp
    with_reducible rfl
  simp only [Act.put]
  try simp only [List.getElem_toArray, List.getElem_cons_succ, List.getElem_cons_zero]
  try simp only [List.setIfInBounds_toArray, List.set_cons_succ, List.set_cons_zero]
  refine wpAnyH_done (by kernel_rfl) ?_ _
  go_wp2_with fail
  refine wp_region_held (S := Below w.heap.size w) (by kernel_rfl) ?_
  obtain ⟨w3, hw3⟩ : ∃ W : World, w2.drew = W := ⟨_, rfl⟩
  have hb3 : Below w2.heap.size w2 w3 := by rw [← hw3]; exact (Below.refl _ _).drew
  have hb3w := hb2w.trans (hb3.mono hb2w.size)
  change wpAnyH _ _ _ _ _ _ _ _ w2.drew
  rw [hw3]
  clear hS
  have hS := hb3w
  refine wpAnyH_take (i := 0) (v := ?v0_101) rfl (by kernel_rfl) (by kernel_rfl) (by kernel_rfl) (fun _ _ _ h => h) (Or.inl ⟨by rfl, ?y0_101⟩) hS ?r0_101
  case y0_101 =>
    rintro W hH
    go_simp
    with_reducible rfl
  simp only [Act.put]
  try simp only [List.getElem_toArray, List.getElem_cons_zero]
  try simp only [List.setIfInBounds_toArray, List.set_cons_succ, List.set_cons_zero]
  refine wpAnyH_take (i := 1) (v := ?v1_102) rfl (by kernel_rfl) (by kernel_rfl) (by kernel_rfl) (fun _ _ _ h => h) (Or.inl ⟨by rfl, ?y1_102⟩) hS ?r1_102
  case y1_102 =>
    rintro W hH
    go_simp
    with_reducible rfl
  simp only [Act.put]
  try simp only [List.getElem_toArray, List.getElem_cons_succ, List.getElem_cons_zero]
  try simp only [List.setIfInBounds_toArray, List.set_cons_succ, List.set_cons_zero]
  refine wpAnyH_take (i := 2) (v := ?v2_103) rfl (by kernel_rfl) (by kernel_rfl) (by kernel_rfl) (fun _ _ _ h => h) (Or.inl ⟨by rfl, ?y2_103⟩) hS ?r2_103
  case y2_103 =>
    rintro W hH
    go_simp
    with_reducible rfl
  simp only [Act.put]
  try simp only [List.getElem_toArray, List.getElem_cons_succ, List.getElem_cons_zero]
  try simp only [List.setIfInBounds_toArray, List.set_cons_succ, List.set_cons_zero]
  refine wpAnyH_take (i := 3) (v := ?v3_104) rfl (by kernel_rfl) (by kernel_rfl) (by kernel_rfl) (fun _ _ _ h => h) (Or.inl ⟨by rfl, ?y3_104⟩) hS ?r3_104
  case y3_104 =>
    rintro W hH
    go_simp
    with_reducible rfl
  simp only [Act.put]
  try simp only [List.getElem_toArray, List.getElem_cons_succ, List.getElem_cons_zero]
  try simp only [List.setIfInBounds_toArray, List.set_cons_succ, List.set_cons_zero]
  refine wpAnyH_take (i := 4) (v := ?v4_105) rfl (by kernel_rfl) (by kernel_rfl) (by kernel_rfl) (fun _ _ _ h => h) (Or.inl ⟨by rfl, ?y4_105⟩) hS ?r4_105
  case y4_105 =>
    rintro W hH
    go_simp
    with_reducible rfl
  simp only [Act.put]
  try simp only [List.getElem_toArray, List.getElem_cons_succ, List.getElem_cons_zero]
  try simp only [List.setIfInBounds_toArray, List.set_cons_succ, List.set_cons_zero]
  refine wpAnyH_take (i := 5) (v := ?v5_106) rfl (by kernel_rfl) (by kernel_rfl) (by kernel_rfl) (fun _ _ _ h => h) (Or.inl ⟨by rfl, ?y5_106⟩) hS ?r5_106
  case y5_106 =>
    rintro W hH
    go_simp
    with_reducible rfl
  simp only [Act.put]
  try simp only [List.getElem_toArray, List.getElem_cons_succ, List.getElem_cons_zero]
  try simp only [List.setIfInBounds_toArray, List.set_cons_succ, List.set_cons_zero]
  refine wpAnyH_take (i := 6) (v := ?v6_107) rfl (by kernel_rfl) (by kernel_rfl) (by kernel_rfl) (fun _ _ _ h => h) (Or.inl ⟨by rfl, ?y6_107⟩) hS ?r6_107
  case y6_107 =>
    rintro W hH
    go_simp
    with_reducible rfl
  simp only [Act.put]
  try simp only [List.getElem_toArray, List.getElem_cons_succ, List.getElem_cons_zero]
  try simp only [List.setIfInBounds_toArray, List.set_cons_succ, List.set_cons_zero]
  refine wpAnyH_done (by kernel_rfl) ?_ _
  go_wp2_with fail
  go_ret3
  exact ⟨_, _, _, rfl, HD.out _ hb3w, hb3w⟩
set_option maxRecDepth 100000 in
set_option maxHeartbeats 2000000 in
theorem list_two_x (g off n c : Nat) (b : List Int) (most : Int) (w : World) (hB : SlI w w.heap.size .u8 (some ⟨g, off, none⟩) n c b) (hb8 : Byte8 b) (hn : n ≤ 1000) (hn3 : 3 ≤ n) (z : Int) (hz : z = 2 * wordP b 0) (hf : fitP (wordP b 0) most = true) (hx : (b.getD 2 0 == z) = false) :
    Calls Tryd.prog 144 #[.slice (some ⟨g, off, none⟩) n c, .func (.func 143) #[] #[], .int .i64 most] w (ListPost w (wordP b 0) (b.drop 3) false) := by
  have HW := Lib.hid (head_word (some ⟨g, off, none⟩) n c b (by omega) w hB hb8)
  have hl := hB.1
  obtain ⟨N0, N1⟩ := wordP_in0 b hb8 (by omega)
  obtain ⟨N, hN⟩ : ∃ N, wordP b 0 = N := ⟨_, rfl⟩
  obtain ⟨x2, hx2⟩ : ∃ x, b[2]? = some x := ⟨_, List.getElem?_eq_getElem (by omega)⟩
  obtain ⟨x20, x21⟩ := hb8 x2 (List.mem_of_getElem? hx2)
  have gx2 : b.getD 2 0 = x2 := by rw [List.getD, hx2]; rfl
  rw [hN] at HW N0 N1 hz hf
  rw [gx2] at hx
  rw [hN]
  have HSZ : Hid (∀ X, Calls Tryd.prog 143 #[.int .i64 N] X fun e w' => e = .returned (.int .i64 z) ∧ X = w') := Lib.hid (fun X => by rw [hz]; exact size_two N N0 N1 X)
  have hz0 : 0 ≤ z := by omega
  have hz1 : z ≤ 200000 := by omega
  have HF : Hid (∀ X, Calls Tryd.prog 99 #[.int .i64 N, .int .i64 most] X fun e w' => e = .returned (.bool true) ∧ X = w') := Lib.hid (fun X => by rw [← hf]; exact fits_own N most X)
  have HB := Lib.hid (fun (X : World) (h : Below w.heap.size w X) => hB.up h)
  have HC := Lib.hid (fun (X : World) (h : Below w.heap.size w X) => (by
    obtain ⟨g', o', e, hlt, hc⟩ := (hB.up h).2.2.2.2 (by rw [hl]; omega)
    injection e with e
    injection e with e1 e2
    subst e1 e2
    exact hc 2 x2 hx2 : X.cell? ⟨g, off + 2, none⟩ = some (.int .u8 x2)))
  have hcn := hB.2.1
  have hn3' : ¬ (n : Int) < 3 := by omega
  have h2n : 2 < n := by omega
  have h2n' : (2 : Int) < (n : Int) := by omega
  have h2c : 2 ≤ c := by omega
  have h2c' : (2 : Int) ≤ (c : Int) := by omega
  have h3n' : (3 : Int) ≤ (n : Int) := by omega
  have wx : IntKind.i64.wrap x2 = x2 := IntWalk.i64_in _ (by omega)
  have wz : IntKind.i64.wrap (3 + z) = 3 + z := IntWalk.i64_in _ (by omega)
  obtain ⟨AD, hAD⟩ : ∃ X, (if c = 3 then some (⟨g, off, none⟩ : Addr) else some ⟨g, off + 3, none⟩) = X := ⟨_, rfl⟩
  have HD : Hid (∀ X, Below w.heap.size w X → SlI X X.heap.size .u8 AD (n - 3) (c - 3) (b.drop 3)) := Lib.hid (fun X h => by
    rw [← hAD]
    split
    · have e1 : n - 3 = 0 := by omega
      have e2 : c - 3 = 0 := by omega
      rw [List.drop_eq_nil_of_le (by omega), e1, e2]
      exact ⟨rfl, by omega, by omega, (fun e => by cases e), RdI.nil⟩
    · exact (hB.up h).drop 3 (by omega))
  clear hB hz hN hx2 gx2 hb8 hf hl
  go_in
  go_wp2_with (go_at_call 142; (with_reducible refine HW.out.mono ?_); rintro e w1 ⟨g1, o1, k1, rfl, hc1, hb1⟩)
  obtain ⟨w2, hw2⟩ : ∃ W : World, w1.drew = W := ⟨_, rfl⟩
  have hb2 : Below w1.heap.size w1 w2 := by rw [← hw2]; exact (Below.refl _ _).drew
  have hb2w := hb1.trans (hb2.mono hb1.size)
  refine wp_region_held (S := Below w.heap.size w) (by kernel_rfl) ?_
  change wpAnyH _ _ _ _ _ _ _ _ w1.drew
  rw [hw2]
  have hS := hb2w
  refine wpAnyH_take (i := 0) (v := ?v0_1) rfl (by kernel_rfl) (by kernel_rfl) (by kernel_rfl) (fun _ _ _ h => h) (Or.inl ⟨by rfl, ?y0_1⟩) hS ?r0_1
  case y0_1 =>
    rintro W hH
    have hcx := HC.out W hH
    go_simp
    with_reducible rfl
  simp only [Act.put]
  try simp only [List.getElem_toArray, List.getElem_cons_zero]
  try simp only [List.setIfInBounds_toArray, List.set_cons_succ, List.set_cons_zero]
  refine wpAnyH_take (i := 1) (v := ?v1_2) rfl (by kernel_rfl) (by kernel_rfl) (by kernel_rfl) (fun _ _ _ h => h) (Or.inl ⟨by rfl, ?y1_2⟩) hS ?r1_2
  case y1_2 =>
    rintro W hH
    have hcx := HC.out W hH
    go_simp
    with_reducible rfl
  simp only [Act.put]
  try simp only [List.getElem_toArray, List.getElem_cons_succ, List.getElem_cons_zero]
  try simp only [List.setIfInBounds_toArray, List.set_cons_succ, List.set_cons_zero]
  refine wpAnyH_ready (rs := [2]) (by kernel_rfl) (by simp) ?_
  refine AllReadyH.cons rfl (fun K' hK' => ?_) AllReadyH.nil
  go_simp
  refine (HF.out _).mono ?_
  rintro e w' ⟨rfl, rfl⟩
  go_simp
  refine hK'.out _ _ hS (fun hS => ?_)
  clear hK' K'
  refine wpAnyH_take (i := 3) (v := ?v3_3) rfl (by kernel_rfl) (by kernel_rfl) (by kernel_rfl) (fun _ _ _ h => h) (Or.inl ⟨by rfl, ?y3_3⟩) hS ?r3_3
  case y3_3 =>
    rintro W hH
    have hcx := HC.out W hH
    go_simp
    with_reducible rfl
  simp only [Act.put]
  try simp only [List.getElem_toArray, List.getElem_cons_succ, List.getElem_cons_zero]
  try simp only [List.setIfInBounds_toArray, List.set_cons_succ, List.set_cons_zero]
  refine wpAnyH_take (i := 4) (v := ?v4_4) rfl (by kernel_rfl) (by kernel_rfl) (by kernel_rfl) (fun _ _ _ h => h) (Or.inl ⟨by rfl, ?y4_4⟩) hS ?r4_4
  case y4_4 =>
    rintro W hH
    have hcx := HC.out W hH
    go_simp
    with_reducible rfl
  simp only [Act.put]
  try simp only [List.getElem_toArray, List.getElem_cons_succ, List.getElem_cons_zero]
  try simp only [List.setIfInBounds_toArray, List.set_cons_succ, List.set_cons_zero]
  refine wpAnyH_take (i := 5) (v := ?v5_5) rfl (by kernel_rfl) (by kernel_rfl) (by kernel_rfl) (fun _ _ _ h => h) (Or.inl ⟨by rfl, ?y5_5⟩) hS ?r5_5
  case y5_5 =>
    rintro W hH
    have hcx := HC.out W hH
    go_simp
    with_reducible rfl
  simp only [Act.put]
  try simp only [List.getElem_toArray, List.getElem_cons_succ, List.getElem_cons_zero]
  try simp only [List.setIfInBounds_toArray, List.set_cons_succ, List.set_cons_zero]
  refine wpAnyH_take (i := 6) (v := ?v6_6) rfl (by kernel_rfl) (by kernel_rfl) (by kernel_rfl) (fun _ _ _ h => h) (Or.inl ⟨by rfl, ?y6_6⟩) hS ?r6_6
  case y6_6 =>
    rintro W hH
    have hcx := HC.out W hH
    go_simp
    with_reducible rfl
  simp only [Act.put]
  try simp only [List.getElem_toArray, List.getElem_cons_succ, List.getElem_cons_zero]
  try simp only [List.setIfInBounds_toArray, List.set_cons_succ, List.set_cons_zero]
  refine wpAnyH_take (i := 7) (v := ?v7_7) rfl (by kernel_rfl) (by kernel_rfl) (by kernel_rfl) (fun _ _ _ h => h) (Or.inl ⟨by rfl, ?y7_7⟩) hS ?r7_7
  case y7_7 =>
    rintro W hH
    have hcx := HC.out W hH
    go_simp
    with_reducible rfl
  simp only [Act.put]
  try simp only [List.getElem_toArray, List.getElem_cons_succ, List.getElem_cons_zero]
  try simp only [List.setIfInBounds_toArray, List.set_cons_succ, List.set_cons_zero]
  refine wpAnyH_take (i := 8) (v := ?v8_8) rfl (by kernel_rfl) (by kernel_rfl) (by kernel_rfl) (fun _ _ _ h => h) (Or.inl ⟨by rfl, ?y8_8⟩) hS ?r8_8
  case y8_8 =>
    rintro W hH
    have hcx := HC.out W hH
    go_simp
    with_reducible rfl
  simp only [Act.put]
  try simp only [List.getElem_toArray, List.getElem_cons_succ, List.getElem_cons_zero]
  try simp only [List.setIfInBounds_toArray, List.set_cons_succ, List.set_cons_zero]
  refine wpAnyH_take (i := 9) (v := ?v9_9) rfl (by kernel_rfl) (by kernel_rfl) (by kernel_rfl) (fun _ _ _ h => h) (Or.inl ⟨by rfl, ?y9_9⟩) hS ?r9_9
  case y9_9 =>
    rintro W hH
    have hcx := HC.out W hH
    go_simp
    with_reducible rfl
  simp only [Act.put]
  try simp only [List.getElem_toArray, List.getElem_cons_succ, List.getElem_cons_zero]
  try simp only [List.setIfInBounds_toArray, List.set_cons_succ, List.set_cons_zero]
  refine wpAnyH_ready (rs := [10]) (by kernel_rfl) (by simp) ?_
  refine AllReadyH.cons rfl (fun K' hK' => ?_) AllReadyH.nil
  go_simp
  refine (HSZ.out _).mono ?_
  rintro e w' ⟨rfl, rfl⟩
  go_simp
  refine hK'.out _ _ hS (fun hS => ?_)
  clear hK' K'
  refine wpAnyH_take (i := 11) (v := ?v11_10) rfl (by kernel_rfl) (by kernel_rfl) (by kernel_rfl) (fun _ _ _ h => h) (Or.inl ⟨by rfl, ?y11_10⟩) hS ?r11_10
  case y11_10 =>
    rintro W hH
    have hcx := HC.out W hH
    go_simp
    with_reducible rfl
  simp only [Act.put]
  try simp only [List.getElem_toArray, List.getElem_cons_succ, List.getElem_cons_zero]
  try simp only [List.setIfInBounds_toArray, List.set_cons_succ, List.set_cons_zero]
  refine wpAnyH_take (i := 12) (v := ?v12_11) rfl (by kernel_rfl) (by kernel_rfl) (by kernel_rfl) (fun _ _ _ h => h) (Or.inl ⟨by rfl, ?y12_11⟩) hS ?r12_11
  case y12_11 =>
    rintro W hH
    have hcx := HC.out W hH
    go_simp
    with_reducible rfl
  simp only [Act.put]
  try simp only [List.getElem_toArray, List.getElem_cons_succ, List.getElem_cons_zero]
  try simp only [List.setIfInBounds_toArray, List.set_cons_succ, List.set_cons_zero]
  refine wpAnyH_take (i := 13) (v := ?v13_12) rfl (by kernel_rfl) (by kernel_rfl) (by kernel_rfl) (fun _ _ _ h => h) (Or.inl ⟨by rfl, ?y13_12⟩) hS ?r13_12
  case y13_12 =>
    rintro W hH
    have hcx := HC.out W hH
    go_simp
    with_reducible rfl
  simp only [Act.put]
  try simp only [List.getElem_toArray, List.getElem_cons_succ, List.getElem_cons_zero]
  try simp only [List.setIfInBounds_toArray, List.set_cons_succ, List.set_cons_zero]
  refine wpAnyH_take (i := 14) (v := undef) rfl (by kernel_rfl) (by kernel_rfl) (by kernel_rfl) (fun _ _ _ h => h) ?y14_13 hS ?r14_13
  case y14_13 => exact Or.inr ⟨by rfl, rfl⟩
  simp only [Act.put]
  try simp only [List.getElem_toArray, List.getElem_cons_succ, List.getElem_cons_zero]
  try simp only [List.setIfInBounds_toArray, List.set_cons_succ, List.set_cons_zero]
  refine wpAnyH_take (i := 15) (v := undef) rfl (by kernel_rfl) (by kernel_rfl) (by kernel_rfl) (fun _ _ _ h => h) ?y15_14 hS ?r15_14
  case y15_14 => exact Or.inr ⟨by rfl, rfl⟩
  simp only [Act.put]
  try simp only [List.getElem_toArray, List.getElem_cons_succ, List.getElem_cons_zero]
  try simp only [List.setIfInBounds_toArray, List.set_cons_succ, List.set_cons_zero]
  refine wpAnyH_take (i := 16) (v := undef) rfl (by kernel_rfl) (by kernel_rfl) (by kernel_rfl) (fun _ _ _ h => h) ?y16_15 hS ?r16_15
  case y16_15 => exact Or.inr ⟨by rfl, rfl⟩
  simp only [Act.put]
  try simp only [List.getElem_toArray, List.getElem_cons_succ, List.getElem_cons_zero]
  try simp only [List.setIfInBounds_toArray, List.set_cons_succ, List.set_cons_zero]
  refine wpAnyH_take (i := 17) (v := undef) rfl (by kernel_rfl) (by kernel_rfl) (by kernel_rfl) (fun _ _ _ h => h) ?y17_16 hS ?r17_16
  case y17_16 => exact Or.inr ⟨by rfl, rfl⟩
  simp only [Act.put]
  try simp only [List.getElem_toArray, List.getElem_cons_succ, List.getElem_cons_zero]
  try simp only [List.setIfInBounds_toArray, List.set_cons_succ, List.set_cons_zero]
  refine wpAnyH_take (i := 18) (v := undef) rfl (by kernel_rfl) (by kernel_rfl) (by kernel_rfl) (fun _ _ _ h => h) ?y18_17 hS ?r18_17
  case y18_17 => exact Or.inr ⟨by rfl, rfl⟩
  simp only [Act.put]
  try simp only [List.getElem_toArray, List.getElem_cons_succ, List.getElem_cons_zero]
  try simp only [List.setIfInBounds_toArray, List.set_cons_succ, List.set_cons_zero]
  refine wpAnyH_take (i := 19) (v := undef) rfl (by kernel_rfl) (by kernel_rfl) (by kernel_rfl) (fun _ _ _ h => h) ?y19_18 hS ?r19_18
  case y19_18 => exact Or.inr ⟨by rfl, rfl⟩
  simp only [Act.put]
  try simp only [List.getElem_toArray, List.getElem_cons_succ, List.getElem_cons_zero]
  try simp only [List.setIfInBounds_toArray, List.set_cons_succ, List.set_cons_zero]
  refine wpAnyH_take (i := 20) (v := undef) rfl (by kernel_rfl) (by kernel_rfl) (by kernel_rfl) (fun _ _ _ h => h) ?y20_19 hS ?r20_19
  case y20_19 => exact Or.inr ⟨by rfl, rfl⟩
  simp only [Act.put]
  try simp only [List.getElem_toArray, List.getElem_cons_succ, List.getElem_cons_zero]
  try simp only [List.setIfInBounds_toArray, List.set_cons_succ, List.set_cons_zero]
  refine wpAnyH_take (i := 21) (v := ?v21_20) rfl (by kernel_rfl) (by kernel_rfl) (by kernel_rfl) (fun _ _ _ h => h) (Or.inl ⟨by rfl, ?y21_20⟩) hS ?r21_20
  case y21_20 =>
    rintro W hH
    have hcx := HC.out W hH
    go_simp
    with_reducible rfl
  simp only [Act.put]
  try simp only [List.getElem_toArray, List.getElem_cons_succ, List.getElem_cons_zero]
  try simp only [List.setIfInBounds_toArray, List.set_cons_succ, List.set_cons_zero]
  refine wpAnyH_take (i := 22) (v := ?v22_21) rfl (by kernel_rfl) (by kernel_rfl) (by kernel_rfl) (fun _ _ _ h => h) (Or.inl ⟨by rfl, ?y22_21⟩) hS ?r22_21
  case y22_21 =>
    rintro W hH
    have hcx := HC.out W hH
    go_simp
    with_reducible rfl
  simp only [Act.put]
  try simp only [List.getElem_toArray, List.getElem_cons_succ, List.getElem_cons_zero]
  try simp only [List.setIfInBounds_toArray, List.set_cons_succ, List.set_cons_zero]
  refine wpAnyH_done (by kernel_rfl) ?_ _
  go_wp2_with fail
  refine wp_region_held (S := Below w.heap.size w) (by kernel_rfl) ?_
  obtain ⟨w3, hw3⟩ : ∃ W : World, w2.drew = W := ⟨_, rfl⟩
  have hb3 : Below w2.heap.size w2 w3 := by rw [← hw3]; exact (Below.refl _ _).drew
  have hb3w := hb2w.trans (hb3.mono hb2w.size)
  change wpAnyH _ _ _ _ _ _ _ _ w2.drew
  rw [hw3]
  clear hS
  have hS := hb3w
  refine wpAnyH_take (i := 0) (v := ?v0_101) rfl (by kernel_rfl) (by kernel_rfl) (by kernel_rfl) (fun _ _ _ h => h) (Or.inl ⟨by rfl, ?y0_101⟩) hS ?r0_101
  case y0_101 =>
    rintro W hH
    go_simp
    with_reducible rfl
  simp only [Act.put]
  try simp only [List.getElem_toArray, List.getElem_cons_zero]
  try simp only [List.setIfInBounds_toArray, List.set_cons_succ, List.set_cons_zero]
  refine wpAnyH_take (i := 1) (v := ?v1_102) rfl (by kernel_rfl) (by kernel_rfl) (by kernel_rfl) (fun _ _ _ h => h) (Or.inl ⟨by rfl, ?y1_102⟩) hS ?r1_102
  case y1_102 =>
    rintro W hH
    go_simp
    with_reducible rfl
  simp only [Act.put]
  try simp only [List.getElem_toArray, List.getElem_cons_succ, List.getElem_cons_zero]
  try simp only [List.setIfInBounds_toArray, List.set_cons_succ, List.set_cons_zero]
  refine wpAnyH_take (i := 2) (v := ?v2_103) rfl (by kernel_rfl) (by kernel_rfl) (by kernel_rfl) (fun _ _ _ h => h) (Or.inl ⟨by rfl, ?y2_103⟩) hS ?r2_103
  case y2_103 =>
    rintro W hH
    go_simp
    with_reducible rfl
  simp only [Act.put]
  try simp only [List.getElem_toArray, List.getElem_cons_succ, List.getElem_cons_zero]
  try simp only [List.setIfInBounds_toArray, List.set_cons_succ, List.set_cons_zero]
  refine wpAnyH_take (i := 3) (v := ?v3_104) rfl (by kernel_rfl) (by kernel_rfl) (by kernel_rfl) (fun _ _ _ h => h) (Or.inl ⟨by rfl, ?y3_104⟩) hS ?r3_104
  case y3_104 =>
    rintro W hH
    go_simp
    with_reducible rfl
  simp only [Act.put]
  try simp only [List.getElem_toArray, List.getElem_cons_succ, List.getElem_cons_zero]
  try simp only [List.setIfInBounds_toArray, List.set_cons_succ, List.set_cons_zero]
  refine wpAnyH_take (i := 4) (v := ?v4_105) rfl (by kernel_rfl) (by kernel_rfl) (by kernel_rfl) (fun _ _ _ h => h) (Or.inl ⟨by rfl, ?y4_105⟩) hS ?r4_105
  case y4_105 =>
    rintro W hH
    go_simp
    with_reducible rfl
  simp only [Act.put]
  try simp only [List.getElem_toArray, List.getElem_cons_succ, List.getElem_cons_zero]
  try simp only [List.setIfInBounds_toArray, List.set_cons_succ, List.set_cons_zero]
  refine wpAnyH_take (i := 5) (v := ?v5_106) rfl (by kernel_rfl) (by kernel_rfl) (by kernel_rfl) (fun _ _ _ h => h) (Or.inl ⟨by rfl, ?y5_106⟩) hS ?r5_106
  case y5_106 =>
    rintro W hH
    go_simp
    with_reducible rfl
  simp only [Act.put]
  try simp only [List.getElem_toArray, List.getElem_cons_succ, List.getElem_cons_zero]
  try simp only [List.setIfInBounds_toArray, List.set_cons_succ, List.set_cons_zero]
  refine wpAnyH_take (i := 6) (v := ?v6_107) rfl (by kernel_rfl) (by kernel_rfl) (by kernel_rfl) (fun _ _ _ h => h) (Or.inl ⟨by rfl, ?y6_107⟩) hS ?r6_107
  case y6_107 =>
    rintro W hH
    go_simp
    with_reducible rfl
  simp only [Act.put]
  try simp only [List.getElem_toArray, List.getElem_cons_succ, List.getElem_cons_zero]
  try simp only [List.setIfInBounds_toArray, List.set_cons_succ, List.set_cons_zero]
  refine wpAnyH_done (by kernel_rfl) ?_ _
  go_wp2_with fail
  go_ret3
  exact ⟨_, _, _, rfl, HD.out _ hb3w, hb3w⟩
set_option maxRecDepth 100000 in
set_option maxHeartbeats 2000000 in
theorem list_two_y (g off n c : Nat) (b : List Int) (most : Int) (w : World) (hB : SlI w w.heap.size .u8 (some ⟨g, off, none⟩) n c b) (hb8 : Byte8 b) (hn : n ≤ 1000) (hn3 : 3 ≤ n) (z : Int) (hz : z = 2 * wordP b 0) (hf : fitP (wordP b 0) most = true) (hx : (b.getD 2 0 == z) = true) :
    Calls Tryd.prog 144 #[.slice (some ⟨g, off, none⟩) n c, .func (.func 143) #[] #[], .int .i64 most] w (ListPost w (wordP b 0) (b.drop 3) ((n : Int) == 3 + z)) := by
  have HW := Lib.hid (head_word (some ⟨g, off, none⟩) n c b (by omega) w hB hb8)
  have hl := hB.1
  obtain ⟨N0, N1⟩ := wordP_in0 b hb8 (by omega)
  obtain ⟨N, hN⟩ : ∃ N, wordP b 0 = N := ⟨_, rfl⟩
  obtain ⟨x2, hx2⟩ : ∃ x, b[2]? = some x := ⟨_, List.getElem?_eq_getElem (by omega)⟩
  obtain ⟨x20, x21⟩ := hb8 x2 (List.mem_of_getElem? hx2)
  have gx2 : b.getD 2 0 = x2 := by rw [List.getD, hx2]; rfl
  rw [hN] at HW N0 N1 hz hf
  rw [gx2] at hx
  rw [hN]
  have HSZ : Hid (∀ X, Calls Tryd.prog 143 #[.int .i64 N] X fun e w' => e = .returned (.int .i64 z) ∧ X = w') := Lib.hid (fun X => by rw [hz]; exact size_two N N0 N1 X)
  have hz0 : 0 ≤ z := by omega
  have hz1 : z ≤ 200000 := by omega
  have HF : Hid (∀ X, Calls Tryd.prog 99 #[.int .i64 N, .int .i64 most] X fun e w' => e = .returned (.bool true) ∧ X = w') := Lib.hid (fun X => by rw [← hf]; exact fits_own N most X)
  have HB := Lib.hid (fun (X : World) (h : Below w.heap.size w X) => hB.up h)
  have HC := Lib.hid (fun (X : World) (h : Below w.heap.size w X) => (by
    obtain ⟨g', o', e, hlt, hc⟩ := (hB.up h).2.2.2.2 (by rw [hl]; omega)
    injection e with e
    injection e with e1 e2
    subst e1 e2
    exact hc 2 x2 hx2 : X.cell? ⟨g, off + 2, none⟩ = some (.int .u8 x2)))
  have hcn := hB.2.1
  have hn3' : ¬ (n : Int) < 3 := by omega
  have h2n : 2 < n := by omega
  have h2n' : (2 : Int) < (n : Int) := by omega
  have h2c : 2 ≤ c := by omega
  have h2c' : (2 : Int) ≤ (c : Int) := by omega
  have h3n' : (3 : Int) ≤ (n : Int) := by omega
  have wx : IntKind.i64.wrap x2 = x2 := IntWalk.i64_in _ (by omega)
  have wz : IntKind.i64.wrap (3 + z) = 3 + z := IntWalk.i64_in _ (by omega)
  obtain ⟨AD, hAD⟩ : ∃ X, (if c = 3 then some (⟨g, off, none⟩ : Addr) else some ⟨g, off + 3, none⟩) = X := ⟨_, rfl⟩
  have HD : Hid (∀ X, Below w.heap.size w X → SlI X X.heap.size .u8 AD (n - 3) (c - 3) (b.drop 3)) := Lib.hid (fun X h => by
    rw [← hAD]
    split
    · have e1 : n - 3 = 0 := by omega
      have e2 : c - 3 = 0 := by omega
      rw [List.drop_eq_nil_of_le (by omega), e1, e2]
      exact ⟨rfl, by omega, by omega, (fun e => by cases e), RdI.nil⟩
    · exact (hB.up h).drop 3 (by omega))
  clear hB hz hN hx2 gx2 hb8 hf hl
  go_in
  go_wp2_with (go_at_call 142; (with_reducible refine HW.out.mono ?_); rintro e w1 ⟨g1, o1, k1, rfl, hc1, hb1⟩)
  obtain ⟨w2, hw2⟩ : ∃ W : World, w1.drew = W := ⟨_, rfl⟩
  have hb2 : Below w1.heap.size w1 w2 := by rw [← hw2]; exact (Below.refl _ _).drew
  have hb2w := hb1.trans (hb2.mono hb1.size)
  refine wp_region_held (S := Below w.heap.size w) (by kernel_rfl) ?_
  change wpAnyH _ _ _ _ _ _ _ _ w1.drew
  rw [hw2]
  have hS := hb2w
  refine wpAnyH_take (i := 0) (v := ?v0_1) rfl (by kernel_rfl) (by kernel_rfl) (by kernel_rfl) (fun _ _ _ h => h) (Or.inl ⟨by rfl, ?y0_1⟩) hS ?r0_1
  case y0_1 =>
    rintro W hH
    have hcx := HC.out W hH
    go_simp
    with_reducible rfl
  simp only [Act.put]
  try simp only [List.getElem_toArray, List.getElem_cons_zero]
  try simp only [List.setIfInBounds_toArray, List.set_cons_succ, List.set_cons_zero]
  refine wpAnyH_take (i := 1) (v := ?v1_2) rfl (by kernel_rfl) (by kernel_rfl) (by kernel_rfl) (fun _ _ _ h => h) (Or.inl ⟨by rfl, ?y1_2⟩) hS ?r1_2
  case y1_2 =>
    rintro W hH
    have hcx := HC.out W hH
    go_simp
    with_reducible rfl
  simp only [Act.put]
  try simp only [List.getElem_toArray, List.getElem_cons_succ, List.getElem_cons_zero]
  try simp only [List.setIfInBounds_toArray, List.set_cons_succ, List.set_cons_zero]
  refine wpAnyH_ready (rs := [2]) (by kernel_rfl) (by simp) ?_
  refine AllReadyH.cons rfl (fun K' hK' => ?_) AllReadyH.nil
  go_simp
  refine (HF.out _).mono ?_
  rintro e w' ⟨rfl, rfl⟩
  go_simp
  refine hK'.out _ _ hS (fun hS => ?_)
  clear hK' K'
  refine wpAnyH_take (i := 3) (v := ?v3_3) rfl (by kernel_rfl) (by kernel_rfl) (by kernel_rfl) (fun _ _ _ h => h) (Or.inl ⟨by rfl, ?y3_3⟩) hS ?r3_3
  case y3_3 =>
    rintro W hH
    have hcx := HC.out W hH
    go_simp
    with_reducible rfl
  simp only [Act.put]
  try simp only [List.getElem_toArray, List.getElem_cons_succ, List.getElem_cons_zero]
  try simp only [List.setIfInBounds_toArray, List.set_cons_succ, List.set_cons_zero]
  refine wpAnyH_take (i := 4) (v := ?v4_4) rfl (by kernel_rfl) (by kernel_rfl) (by kernel_rfl) (fun _ _ _ h => h) (Or.inl ⟨by rfl, ?y4_4⟩) hS ?r4_4
  case y4_4 =>
    rintro W hH
    have hcx := HC.out W hH
    go_simp
    with_reducible rfl
  simp only [Act.put]
  try simp only [List.getElem_toArray, List.getElem_cons_succ, List.getElem_cons_zero]
  try simp only [List.setIfInBounds_toArray, List.set_cons_succ, List.set_cons_zero]
  refine wpAnyH_take (i := 5) (v := ?v5_5) rfl (by kernel_rfl) (by kernel_rfl) (by kernel_rfl) (fun _ _ _ h => h) (Or.inl ⟨by rfl, ?y5_5⟩) hS ?r5_5
  case y5_5 =>
    rintro W hH
    have hcx := HC.out W hH
    go_simp
    with_reducible rfl
  simp only [Act.put]
  try simp only [List.getElem_toArray, List.getElem_cons_succ, List.getElem_cons_zero]
  try simp only [List.setIfInBounds_toArray, List.set_cons_succ, List.set_cons_zero]
  refine wpAnyH_take (i := 6) (v := ?v6_6) rfl (by kernel_rfl) (by kernel_rfl) (by kernel_rfl) (fun _ _ _ h => h) (Or.inl ⟨by rfl, ?y6_6⟩) hS ?r6_6
  case y6_6 =>
    rintro W hH
    have hcx := HC.out W hH
    go_simp
    with_reducible rfl
  simp only [Act.put]
  try simp only [List.getElem_toArray, List.getElem_cons_succ, List.getElem_cons_zero]
  try simp only [List.setIfInBounds_toArray, List.set_cons_succ, List.set_cons_zero]
  refine wpAnyH_take (i := 7) (v := ?v7_7) rfl (by kernel_rfl) (by kernel_rfl) (by kernel_rfl) (fun _ _ _ h => h) (Or.inl ⟨by rfl, ?y7_7⟩) hS ?r7_7
  case y7_7 =>
    rintro W hH
    have hcx := HC.out W hH
    go_simp
    with_reducible rfl
  simp only [Act.put]
  try simp only [List.getElem_toArray, List.getElem_cons_succ, List.getElem_cons_zero]
  try simp only [List.setIfInBounds_toArray, List.set_cons_succ, List.set_cons_zero]
  refine wpAnyH_take (i := 8) (v := ?v8_8) rfl (by kernel_rfl) (by kernel_rfl) (by kernel_rfl) (fun _ _ _ h => h) (Or.inl ⟨by rfl, ?y8_8⟩) hS ?r8_8
  case y8_8 =>
    rintro W hH
    have hcx := HC.out W hH
    go_simp
    with_reducible rfl
  simp only [Act.put]
  try simp only [List.getElem_toArray, List.getElem_cons_succ, List.getElem_cons_zero]
  try simp only [List.setIfInBounds_toArray, List.set_cons_succ, List.set_cons_zero]
  refine wpAnyH_take (i := 9) (v := ?v9_9) rfl (by kernel_rfl) (by kernel_rfl) (by kernel_rfl) (fun _ _ _ h => h) (Or.inl ⟨by rfl, ?y9_9⟩) hS ?r9_9
  case y9_9 =>
    rintro W hH
    have hcx := HC.out W hH
    go_simp
    with_reducible rfl
  simp only [Act.put]
  try simp only [List.getElem_toArray, List.getElem_cons_succ, List.getElem_cons_zero]
  try simp only [List.setIfInBounds_toArray, List.set_cons_succ, List.set_cons_zero]
  refine wpAnyH_ready (rs := [10]) (by kernel_rfl) (by simp) ?_
  refine AllReadyH.cons rfl (fun K' hK' => ?_) AllReadyH.nil
  go_simp
  refine (HSZ.out _).mono ?_
  rintro e w' ⟨rfl, rfl⟩
  go_simp
  refine hK'.out _ _ hS (fun hS => ?_)
  clear hK' K'
  refine wpAnyH_take (i := 11) (v := ?v11_10) rfl (by kernel_rfl) (by kernel_rfl) (by kernel_rfl) (fun _ _ _ h => h) (Or.inl ⟨by rfl, ?y11_10⟩) hS ?r11_10
  case y11_10 =>
    rintro W hH
    have hcx := HC.out W hH
    go_simp
    with_reducible rfl
  simp only [Act.put]
  try simp only [List.getElem_toArray, List.getElem_cons_succ, List.getElem_cons_zero]
  try simp only [List.setIfInBounds_toArray, List.set_cons_succ, List.set_cons_zero]
  refine wpAnyH_take (i := 12) (v := ?v12_11) rfl (by kernel_rfl) (by kernel_rfl) (by kernel_rfl) (fun _ _ _ h => h) (Or.inl ⟨by rfl, ?y12_11⟩) hS ?r12_11
  case y12_11 =>
    rintro W hH
    have hcx := HC.out W hH
    go_simp
    with_reducible rfl
  simp only [Act.put]
  try simp only [List.getElem_toArray, List.getElem_cons_succ, List.getElem_cons_zero]
  try simp only [List.setIfInBounds_toArray, List.set_cons_succ, List.set_cons_zero]
  refine wpAnyH_take (i := 13) (v := ?v13_12) rfl (by kernel_rfl) (by kernel_rfl) (by kernel_rfl) (fun _ _ _ h => h) (Or.inl ⟨by rfl, ?y13_12⟩) hS ?r13_12
  case y13_12 =>
    rintro W hH
    have hcx := HC.out W hH
    go_simp
    with_reducible rfl
  simp only [Act.put]
  try simp only [List.getElem_toArray, List.getElem_cons_succ, List.getElem_cons_zero]
  try simp only [List.setIfInBounds_toArray, List.set_cons_succ, List.set_cons_zero]
  refine wpAnyH_take (i := 14) (v := ?v14_13) rfl (by kernel_rfl) (by kernel_rfl) (by kernel_rfl) (fun _ _ _ h => h) (Or.inl ⟨by rfl, ?y14_13⟩) hS ?r14_13
  case y14_13 =>
    rintro W hH
    have hcx := HC.out W hH
    go_simp
    with_reducible rfl
  simp only [Act.put]
  try simp only [List.getElem_toArray, List.getElem_cons_succ, List.getElem_cons_zero]
  try simp only [List.setIfInBounds_toArray, List.set_cons_succ, List.set_cons_zero]
  refine wpAnyH_take (i := 15) (v := ?v15_14) rfl (by kernel_rfl) (by kernel_rfl) (by kernel_rfl) (fun _ _ _ h => h) (Or.inl ⟨by rfl, ?y15_14⟩) hS ?r15_14
  case y15_14 =>
    rintro W hH
    have hcx := HC.out W hH
    go_simp
    with_reducible rfl
  simp only [Act.put]
  try simp only [List.getElem_toArray, List.getElem_cons_succ, List.getElem_cons_zero]
  try simp only [List.setIfInBounds_toArray, List.set_cons_succ, List.set_cons_zero]
  refine wpAnyH_take (i := 16) (v := ?v16_15) rfl (by kernel_rfl) (by kernel_rfl) (by kernel_rfl) (fun _ _ _ h => h) (Or.inl ⟨by rfl, ?y16_15⟩) hS ?r16_15
  case y16_15 =>
    rintro W hH
    have hcx := HC.out W hH
    go_simp
    with_reducible rfl
  simp only [Act.put]
  try simp only [List.getElem_toArray, List.getElem_cons_succ, List.getElem_cons_zero]
  try simp only [List.setIfInBounds_toArray, List.set_cons_succ, List.set_cons_zero]
  refine wpAnyH_take (i := 17) (v := ?v17_16) rfl (by kernel_rfl) (by kernel_rfl) (by kernel_rfl) (fun _ _ _ h => h) (Or.inl ⟨by rfl, ?y17_16⟩) hS ?r17_16
  case y17_16 =>
    rintro W hH
    have hcx := HC.out W hH
    go_simp
    with_reducible rfl
  simp only [Act.put]
  try simp only [List.getElem_toArray, List.getElem_cons_succ, List.getElem_cons_zero]
  try simp only [List.setIfInBounds_toArray, List.set_cons_succ, List.set_cons_zero]
  refine wpAnyH_ready (rs := [18]) (by kernel_rfl) (by simp) ?_
  refine AllReadyH.cons rfl (fun K' hK' => ?_) AllReadyH.nil
  go_simp
  refine (HSZ.out _).mono ?_
  rintro e w' ⟨rfl, rfl⟩
  go_simp
  refine hK'.out _ _ hS (fun hS => ?_)
  clear hK' K'
  refine wpAnyH_take (i := 19) (v := ?v19_17) rfl (by kernel_rfl) (by kernel_rfl) (by kernel_rfl) (fun _ _ _ h => h) (Or.inl ⟨by rfl, ?y19_17⟩) hS ?r19_17
  case y19_17 =>
    rintro W hH
    have hcx := HC.out W hH
    go_simp
    with_reducible rfl
  simp only [Act.put]
  try simp only [List.getElem_toArray, List.getElem_cons_succ, List.getElem_cons_zero]
  try simp only [List.setIfInBounds_toArray, List.set_cons_succ, List.set_cons_zero]
  refine wpAnyH_take (i := 20) (v := ?v20_18) rfl (by kernel_rfl) (by kernel_rfl) (by kernel_rfl) (fun _ _ _ h => h) (Or.inl ⟨by rfl, ?y20_18⟩) hS ?r20_18
  case y20_18 =>
    rintro W hH
    have hcx := HC.out W hH
    go_simp
    with_reducible rfl
  simp only [Act.put]
  try simp only [List.getElem_toArray, List.getElem_cons_succ, List.getElem_cons_zero]
  try simp only [List.setIfInBounds_toArray, List.set_cons_succ, List.set_cons_zero]
  refine wpAnyH_take (i := 21) (v := ?v21_19) rfl (by kernel_rfl) (by kernel_rfl) (by kernel_rfl) (fun _ _ _ h => h) (Or.inl ⟨by rfl, ?y21_19⟩) hS ?r21_19
  case y21_19 =>
    rintro W hH
    have hcx := HC.out W hH
    go_simp
    with_reducible rfl
  simp only [Act.put]
  try simp only [List.getElem_toArray, List.getElem_cons_succ, List.getElem_cons_zero]
  try simp only [List.setIfInBounds_toArray, List.set_cons_succ, List.set_cons_zero]
  refine wpAnyH_take (i := 22) (v := ?v22_20) rfl (by kernel_rfl) (by kernel_rfl) (by kernel_rfl) (fun _ _ _ h => h) (Or.inl ⟨by rfl, ?y22_20⟩) hS ?r22_20
  case y22_20 =>
    rintro W hH
    have hcx := HC.out W hH
    go_simp
    with_reducible rfl
  simp only [Act.put]
  try simp only [List.getElem_toArray, List.getElem_cons_succ, List.getElem_cons_zero]
  try simp only [List.setIfInBounds_toArray, List.set_cons_succ, List.set_cons_zero]
  refine wpAnyH_done (by kernel_rfl) ?_ _
  go_wp2_with fail
  refine wp_region_held (S := Below w.heap.size w) (by kernel_rfl) ?_
  obtain ⟨w3, hw3⟩ : ∃ W : World, w2.drew = W := ⟨_, rfl⟩
  have hb3 : Below w2.heap.size w2 w3 := by rw [← hw3]; exact (Below.refl _ _).drew
  have hb3w := hb2w.trans (hb3.mono hb2w.size)
  change wpAnyH _ _ _ _ _ _ _ _ w2.drew
  rw [hw3]
  clear hS
  have hS := hb3w
  refine wpAnyH_take (i := 0) (v := ?v0_101) rfl (by kernel_rfl) (by kernel_rfl) (by kernel_rfl) (fun _ _ _ h => h) (Or.inl ⟨by rfl, ?y0_101⟩) hS ?r0_101
  case y0_101 =>
    rintro W hH
    go_simp
    with_reducible rfl
  simp only [Act.put]
  try simp only [List.getElem_toArray, List.getElem_cons_zero]
  try simp only [List.setIfInBounds_toArray, List.set_cons_succ, List.set_cons_zero]
  refine wpAnyH_take (i := 1) (v := ?v1_102) rfl (by kernel_rfl) (by kernel_rfl) (by kernel_rfl) (fun _ _ _ h => h) (Or.inl ⟨by rfl, ?y1_102⟩) hS ?r1_102
  case y1_102 =>
    rintro W hH
    go_simp
    with_reducible rfl
  simp only [Act.put]
  try simp only [List.getElem_toArray, List.getElem_cons_succ, List.getElem_cons_zero]
  try simp only [List.setIfInBounds_toArray, List.set_cons_succ, List.set_cons_zero]
  refine wpAnyH_take (i := 2) (v := ?v2_103) rfl (by kernel_rfl) (by kernel_rfl) (by kernel_rfl) (fun _ _ _ h => h) (Or.inl ⟨by rfl, ?y2_103⟩) hS ?r2_103
  case y2_103 =>
    rintro W hH
    go_simp
    with_reducible rfl
  simp only [Act.put]
  try simp only [List.getElem_toArray, List.getElem_cons_succ, List.getElem_cons_zero]
  try simp only [List.setIfInBounds_toArray, List.set_cons_succ, List.set_cons_zero]
  refine wpAnyH_take (i := 3) (v := ?v3_104) rfl (by kernel_rfl) (by kernel_rfl) (by kernel_rfl) (fun _ _ _ h => h) (Or.inl ⟨by rfl, ?y3_104⟩) hS ?r3_104
  case y3_104 =>
    rintro W hH
    go_simp
    with_reducible rfl
  simp only [Act.put]
  try simp only [List.getElem_toArray, List.getElem_cons_succ, List.getElem_cons_zero]
  try simp only [List.setIfInBounds_toArray, List.set_cons_succ, List.set_cons_zero]
  refine wpAnyH_take (i := 4) (v := ?v4_105) rfl (by kernel_rfl) (by kernel_rfl) (by kernel_rfl) (fun _ _ _ h => h) (Or.inl ⟨by rfl, ?y4_105⟩) hS ?r4_105
  case y4_105 =>
    rintro W hH
    go_simp
    with_reducible rfl
  simp only [Act.put]
  try simp only [List.getElem_toArray, List.getElem_cons_succ, List.getElem_cons_zero]
  try simp only [List.setIfInBounds_toArray, List.set_cons_succ, List.set_cons_zero]
  refine wpAnyH_take (i := 5) (v := ?v5_106) rfl (by kernel_rfl) (by kernel_rfl) (by kernel_rfl) (fun _ _ _ h => h) (Or.inl ⟨by rfl, ?y5_106⟩) hS ?r5_106
  case y5_106 =>
    rintro W hH
    go_simp
    with_reducible rfl
  simp only [Act.put]
  try simp only [List.getElem_toArray, List.getElem_cons_succ, List.getElem_cons_zero]
  try simp only [List.setIfInBounds_toArray, List.set_cons_succ, List.set_cons_zero]
  refine wpAnyH_take (i := 6) (v := ?v6_107) rfl (by kernel_rfl) (by kernel_rfl) (by kernel_rfl) (fun _ _ _ h => h) (Or.inl ⟨by rfl, ?y6_107⟩) hS ?r6_107
  case y6_107 =>
    rintro W hH
    go_simp
    with_reducible rfl
  simp only [Act.put]
  try simp only [List.getElem_toArray, List.getElem_cons_succ, List.getElem_cons_zero]
  try simp only [List.setIfInBounds_toArray, List.set_cons_succ, List.set_cons_zero]
  refine wpAnyH_done (by kernel_rfl) ?_ _
  go_wp2_with fail
  go_ret3
  exact ⟨_, _, _, rfl, HD.out _ hb3w, hb3w⟩
set_option maxRecDepth 100000 in
set_option maxHeartbeats 2000000 in
theorem list_bits_n (g off n c : Nat) (b : List Int) (most : Int) (w : World) (hB : SlI w w.heap.size .u8 (some ⟨g, off, none⟩) n c b) (hb8 : Byte8 b) (hn : n ≤ 1000) (hn3 : 3 ≤ n) (z : Int) (hz : z = (wordP b 0 + 7) / 8) (hf : fitP (wordP b 0) most = false) :
    Calls Tryd.prog 144 #[.slice (some ⟨g, off, none⟩) n c, .func (.func 145) #[] #[], .int .i64 most] w (ListPost w (wordP b 0) (b.drop 3) false) := by
  have HW := Lib.hid (head_word (some ⟨g, off, none⟩) n c b (by omega) w hB hb8)
  have hl := hB.1
  obtain ⟨N0, N1⟩ := wordP_in0 b hb8 (by omega)
  obtain ⟨N, hN⟩ : ∃ N, wordP b 0 = N := ⟨_, rfl⟩
  obtain ⟨x2, hx2⟩ : ∃ x, b[2]? = some x := ⟨_, List.getElem?_eq_getElem (by omega)⟩
  obtain ⟨x20, x21⟩ := hb8 x2 (List.mem_of_getElem? hx2)
  have gx2 : b.getD 2 0 = x2 := by rw [List.getD, hx2]; rfl
  rw [hN] at HW N0 N1 hz hf
  skip
  rw [hN]
  have HSZ : Hid (∀ X, Calls Tryd.prog 145 #[.int .i64 N] X fun e w' => e = .returned (.int .i64 z) ∧ X = w') := Lib.hid (fun X => by rw [hz]; exact size_bits N N0 N1 X)
  have hz0 : 0 ≤ z := by omega
  have hz1 : z ≤ 200000 := by omega
  have HF : Hid (∀ X, Calls Tryd.prog 99 #[.int .i64 N, .int .i64 most] X fun e w' => e = .returned (.bool false) ∧ X = w') := Lib.hid (fun X => by rw [← hf]; exact fits_own N most X)
  have HB := Lib.hid (fun (X : World) (h : Below w.heap.size w X) => hB.up h)
  have HC := Lib.hid (fun (X : World) (h : Below w.heap.size w X) => (by
    obtain ⟨g', o', e, hlt, hc⟩ := (hB.up h).2.2.2.2 (by rw [hl]; omega)
    injection e with e
    injection e with e1 e2
    subst e1 e2
    exact hc 2 x2 hx2 : X.cell? ⟨g, off + 2, none⟩ = some (.int .u8 x2)))
  have hcn := hB.2.1
  have hn3' : ¬ (n : Int) < 3 := by omega
  have h2n : 2 < n := by omega
  have h2n' : (2 : Int) < (n : Int) := by omega
  have h2c : 2 ≤ c := by omega
  have h2c' : (2 : Int) ≤ (c : Int) := by omega
  have h3n' : (3 : Int) ≤ (n : Int) := by omega
  have wx : IntKind.i64.wrap x2 = x2 := IntWalk.i64_in _ (by omega)
  have wz : IntKind.i64.wrap (3 + z) = 3 + z := IntWalk.i64_in _ (by omega)
  obtain ⟨AD, hAD⟩ : ∃ X, (if c = 3 then some (⟨g, off, none⟩ : Addr) else some ⟨g, off + 3, none⟩) = X := ⟨_, rfl⟩
  have HD : Hid (∀ X, Below w.heap.size w X → SlI X X.heap.size .u8 AD (n - 3) (c - 3) (b.drop 3)) := Lib.hid (fun X h => by
    rw [← hAD]
    split
    · have e1 : n - 3 = 0 := by omega
      have e2 : c - 3 = 0 := by omega
      rw [List.drop_eq_nil_of_le (by omega), e1, e2]
      exact ⟨rfl, by omega, by omega, (fun e => by cases e), RdI.nil⟩
    · exact (hB.up h).drop 3 (by omega))
  clear hB hz hN hx2 gx2 hb8 hf hl
  go_in
  go_wp2_with (go_at_call 142; (with_reducible refine HW.out.mono ?_); rintro e w1 ⟨g1, o1, k1, rfl, hc1, hb1⟩)
  obtain ⟨w2, hw2⟩ : ∃ W : World, w1.drew = W := ⟨_, rfl⟩
  have hb2 : Below w1.heap.size w1 w2 := by rw [← hw2]; exact (Below.refl _ _).drew
  have hb2w := hb1.trans (hb2.mono hb1.size)
  refine wp_region_held (S := Below w.heap.size w) (by kernel_rfl) ?_
  change wpAnyH _ _ _ _ _ _ _ _ w1.drew
  rw [hw2]
  have hS := hb2w
  refine wpAnyH_take (i := 0) (v := ?v0_1) rfl (by kernel_rfl) (by kernel_rfl) (by kernel_rfl) (fun _ _ _ h => h) (Or.inl ⟨by rfl, ?y0_1⟩) hS ?r0_1
  case y0_1 =>
    rintro W hH
    have hcx := HC.out W hH
    go_simp
    with_reducible rfl
  simp only [Act.put]
  try simp only [List.getElem_toArray, List.getElem_cons_zero]
  try simp only [List.setIfInBounds_toArray, List.set_cons_succ, List.set_cons_zero]
  refine wpAnyH_take (i := 1) (v := ?v1_2) rfl (by kernel_rfl) (by kernel_rfl) (by kernel_rfl) (fun _ _ _ h => h) (Or.inl ⟨by rfl, ?y1_2⟩) hS ?r1_2
  case y1_2 =>
    rintro W hH
    have hcx := HC.out W hH
    go_simp
    with_reducible rfl
  simp only [Act.put]
  try simp only [List.getElem_toArray, List.getElem_cons_succ, List.getElem_cons_zero]
  try simp only [List.setIfInBounds_toArray, List.set_cons_succ, List.set_cons_zero]
  refine wpAnyH_ready (rs := [2]) (by kernel_rfl) (by simp) ?_
  refine AllReadyH.cons rfl (fun K' hK' => ?_) AllReadyH.nil
  go_simp
  refine (HF.out _).mono ?_
  rintro e w' ⟨rfl, rfl⟩
  go_simp
  refine hK'.out _ _ hS (fun hS => ?_)
  clear hK' K'
  refine wpAnyH_take (i := 3) (v := ?v3_3) rfl (by kernel_rfl) (by kernel_rfl) (by kernel_rfl) (fun _ _ _ h => h) (Or.inl ⟨by rfl, ?y3_3⟩) hS ?r3_3
  case y3_3 =>
    rintro W hH
    have hcx := HC.out W hH
    go_simp
    with_reducible rfl
  simp only [Act.put]
  try simp only [List.getElem_toArray, List.getElem_cons_succ, List.getElem_cons_zero]
  try simp only [List.setIfInBounds_toArray, List.set_cons_succ, List.set_cons_zero]
  refine wpAnyH_take (i := 4) (v := undef) rfl (by kernel_rfl) (by kernel_rfl) (by kernel_rfl) (fun _ _ _ h => h) ?y4_4 hS ?r4_4
  case y4_4 => exact Or.inr ⟨by rfl, rfl⟩
  simp only [Act.put]
  try simp only [List.getElem_toArray, List.getElem_cons_succ, List.getElem_cons_zero]
  try simp only [List.setIfInBounds_toArray, List.set_cons_succ, List.set_cons_zero]
  refine wpAnyH_take (i := 5) (v := undef) rfl (by kernel_rfl) (by kernel_rfl) (by kernel_rfl) (fun _ _ _ h => h) ?y5_5 hS ?r5_5
  case y5_5 => exact Or.inr ⟨by rfl, rfl⟩
  simp only [Act.put]
  try simp only [List.getElem_toArray, List.getElem_cons_succ, List.getElem_cons_zero]
  try simp only [List.setIfInBounds_toArray, List.set_cons_succ, List.set_cons_zero]
  refine wpAnyH_take (i := 6) (v := undef) rfl (by kernel_rfl) (by kernel_rfl) (by kernel_rfl) (fun _ _ _ h => h) ?y6_6 hS ?r6_6
  case y6_6 => exact Or.inr ⟨by rfl, rfl⟩
  simp only [Act.put]
  try simp only [List.getElem_toArray, List.getElem_cons_succ, List.getElem_cons_zero]
  try simp only [List.setIfInBounds_toArray, List.set_cons_succ, List.set_cons_zero]
  refine wpAnyH_take (i := 7) (v := undef) rfl (by kernel_rfl) (by kernel_rfl) (by kernel_rfl) (fun _ _ _ h => h) ?y7_7 hS ?r7_7
  case y7_7 => exact Or.inr ⟨by rfl, rfl⟩
  simp only [Act.put]
  try simp only [List.getElem_toArray, List.getElem_cons_succ, List.getElem_cons_zero]
  try simp only [List.setIfInBounds_toArray, List.set_cons_succ, List.set_cons_zero]
  refine wpAnyH_take (i := 8) (v := undef) rfl (by kernel_rfl) (by kernel_rfl) (by kernel_rfl) (fun _ _ _ h => h) ?y8_8 hS ?r8_8
  case y8_8 => exact Or.inr ⟨by rfl, rfl⟩
  simp only [Act.put]
  try simp only [List.getElem_toArray, List.getElem_cons_succ, List.getElem_cons_zero]
  try simp only [List.setIfInBounds_toArray, List.set_cons_succ, List.set_cons_zero]
  refine wpAnyH_take (i := 9) (v := undef) rfl (by kernel_rfl) (by kernel_rfl) (by kernel_rfl) (fun _ _ _ h => h) ?y9_9 hS ?r9_9
  case y9_9 => exact Or.inr ⟨by rfl, rfl⟩
  simp only [Act.put]
  try simp only [List.getElem_toArray, List.getElem_cons_succ, List.getElem_cons_zero]
  try simp only [List.setIfInBounds_toArray, List.set_cons_succ, List.set_cons_zero]
  refine wpAnyH_take (i := 10) (v := undef) rfl (by kernel_rfl) (by kernel_rfl) (by kernel_rfl) (fun _ _ _ h => h) ?y10_10 hS ?r10_10
  case y10_10 => exact Or.inr ⟨by rfl, rfl⟩
  simp only [Act.put]
  try simp only [List.getElem_toArray, List.getElem_cons_succ, List.getElem_cons_zero]
  try simp only [List.setIfInBounds_toArray, List.set_cons_succ, List.set_cons_zero]
  refine wpAnyH_take (i := 11) (v := undef) rfl (by kernel_rfl) (by kernel_rfl) (by kernel_rfl) (fun _ _ _ h => h) ?y11_11 hS ?r11_11
  case y11_11 => exact Or.inr ⟨by rfl, rfl⟩
  simp only [Act.put]
  try simp only [List.getElem_toArray, List.getElem_cons_succ, List.getElem_cons_zero]
  try simp only [List.setIfInBounds_toArray, List.set_cons_succ, List.set_cons_zero]
  refine wpAnyH_take (i := 12) (v := ?v12_12) rfl (by kernel_rfl) (by kernel_rfl) (by kernel_rfl) (fun _ _ _ h => h) (Or.inl ⟨by rfl, ?y12_12⟩) hS ?r12_12
  case y12_12 =>
    rintro W hH
    have hcx := HC.out W hH
    go_simp
    with_reducible rfl
  simp only [Act.put]
  try simp only [List.getElem_toArray, List.getElem_cons_succ, List.getElem_cons_zero]
  try simp only [List.setIfInBounds_toArray, List.set_cons_succ, List.set_cons_zero]
  refine wpAnyH_take (i := 13) (v := ?v13_13) rfl (by kernel_rfl) (by kernel_rfl) (by kernel_rfl) (fun _ _ _ h => h) (Or.inl ⟨by rfl, ?y13_13⟩) hS ?r13_13
  case y13_13 =>
    rintro W hH
    have hcx := HC.out W hH
    go_simp
    with_reducible rfl
  simp only [Act.put]
  try simp only [List.getElem_toArray, List.getElem_cons_succ, List.getElem_cons_zero]
  try simp only [List.setIfInBounds_toArray, List.set_cons_succ, List.set_cons_zero]
  refine wpAnyH_take (i := 14) (v := undef) rfl (by kernel_rfl) (by kernel_rfl) (by kernel_rfl) (fun _ _ _ h => h) ?y14_14 hS ?r14_14
  case y14_14 => exact Or.inr ⟨by rfl, rfl⟩
  simp only [Act.put]
  try simp only [List.getElem_toArray, List.getElem_cons_succ, List.getElem_cons_zero]
  try simp only [List.setIfInBounds_toArray, List.set_cons_succ, List.set_cons_zero]
  refine wpAnyH_take (i := 15) (v := undef) rfl (by kernel_rfl) (by kernel_rfl) (by kernel_rfl) (fun _ _ _ h => h) ?y15_15 hS ?r15_15
  case y15_15 => exact Or.inr ⟨by rfl, rfl⟩
  simp only [Act.put]
  try simp only [List.getElem_toArray, List.getElem_cons_succ, List.getElem_cons_zero]
  try simp only [List.setIfInBounds_toArray, List.set_cons_succ, List.set_cons_zero]
  refine wpAnyH_take (i := 16) (v := undef) rfl (by kernel_rfl) (by kernel_rfl) (by kernel_rfl) (fun _ _ _ h => h) ?y16_16 hS ?r16_16
  case y16_16 => exact Or.inr ⟨by rfl, rfl⟩
  simp only [Act.put]
  try simp only [List.getElem_toArray, List.getElem_cons_succ, List.getElem_cons_zero]
  try simp only [List.setIfInBounds_toArray, List.set_cons_succ, List.set_cons_zero]
  refine wpAnyH_take (i := 17) (v := undef) rfl (by kernel_rfl) (by kernel_rfl) (by kernel_rfl) (fun _ _ _ h => h) ?y17_17 hS ?r17_17
  case y17_17 => exact Or.inr ⟨by rfl, rfl⟩
  simp only [Act.put]
  try simp only [List.getElem_toArray, List.getElem_cons_succ, List.getElem_cons_zero]
  try simp only [List.setIfInBounds_toArray, List.set_cons_succ, List.set_cons_zero]
  refine wpAnyH_take (i := 18) (v := undef) rfl (by kernel_rfl) (by kernel_rfl) (by kernel_rfl) (fun _ _ _ h => h) ?y18_18 hS ?r18_18
  case y18_18 => exact Or.inr ⟨by rfl, rfl⟩
  simp only [Act.put]
  try simp only [List.getElem_toArray, List.getElem_cons_succ, List.getElem_cons_zero]
  try simp only [List.setIfInBounds_toArray, List.set_cons_succ, List.set_cons_zero]
  refine wpAnyH_take (i := 19) (v := undef) rfl (by kernel_rfl) (by kernel_rfl) (by kernel_rfl) (fun _ _ _ h => h) ?y19_19 hS ?r19_19
  case y19_19 => exact Or.inr ⟨by rfl, rfl⟩
  simp only [Act.put]
  try simp only [List.getElem_toArray, List.getElem_cons_succ, List.getElem_cons_zero]
  try simp only [List.setIfInBounds_toArray, List.set_cons_succ, List.set_cons_zero]
  refine wpAnyH_take (i := 20) (v := undef) rfl (by kernel_rfl) (by kernel_rfl) (by kernel_rfl) (fun _ _ _ h => h) ?y20_20 hS ?r20_20
  case y20_20 => exact Or.inr ⟨by rfl, rfl⟩
  simp only [Act.put]
  try simp only [List.getElem_toArray, List.getElem_cons_succ, List.getElem_cons_zero]
  try simp only [List.setIfInBounds_toArray, List.set_cons_succ, List.set_cons_zero]
  refine wpAnyH_take (i := 21) (v := ?v21_21) rfl (by kernel_rfl) (by kernel_rfl) (by kernel_rfl) (fun _ _ _ h => h) (Or.inl ⟨by rfl, ?y21_21⟩) hS ?r21_21
  case y21_21 =>
    rintro W hH
    have hcx := HC.out W hH
    go_simp
    with_reducible rfl
  simp only [Act.put]
  try simp only [List.getElem_toArray, List.getElem_cons_succ, List.getElem_cons_zero]
  try simp only [List.setIfInBounds_toArray, List.set_cons_succ, List.set_cons_zero]
  refine wpAnyH_take (i := 22) (v := ?v22_22) rfl (by kernel_rfl) (by kernel_rfl) (by kernel_rfl) (fun _ _ _ h => h) (Or.inl ⟨by rfl, ?y22_22⟩) hS ?r22_22
  case y22_22 =>
    rintro W hH
    have hcx := HC.out W hH
    go_simp
    with_reducible rfl
  simp only [Act.put]
  try simp only [List.getElem_toArray, List.getElem_cons_succ, List.getElem_cons_zero]
  try simp only [List.setIfInBounds_toArray, List.set_cons_succ, List.set_cons_zero]
  refine wpAnyH_done (by kernel_rfl) ?_ _
  go_wp2_with fail
  refine wp_region_held (S := Below w.heap.size w) (by kernel_rfl) ?_
  obtain ⟨w3, hw3⟩ : ∃ W : World, w2.drew = W := ⟨_, rfl⟩
  have hb3 : Below w2.heap.size w2 w3 := by rw [← hw3]; exact (Below.refl _ _).drew
  have hb3w := hb2w.trans (hb3.mono hb2w.size)
  change wpAnyH _ _ _ _ _ _ _ _ w2.drew
  rw [hw3]
  clear hS
  have hS := hb3w
  refine wpAnyH_take (i := 0) (v := ?v0_101) rfl (by kernel_rfl) (by kernel_rfl) (by kernel_rfl) (fun _ _ _ h => h) (Or.inl ⟨by rfl, ?y0_101⟩) hS ?r0_101
  case y0_101 =>
    rintro W hH
    go_simp
    with_reducible rfl
  simp only [Act.put]
  try simp only [List.getElem_toArray, List.getElem_cons_zero]
  try simp only [List.setIfInBounds_toArray, List.set_cons_succ, List.set_cons_zero]
  refine wpAnyH_take (i := 1) (v := ?v1_102) rfl (by kernel_rfl) (by kernel_rfl) (by kernel_rfl) (fun _ _ _ h => h) (Or.inl ⟨by rfl, ?y1_102⟩) hS ?r1_102
  case y1_102 =>
    rintro W hH
    go_simp
    with_reducible rfl
  simp only [Act.put]
  try simp only [List.getElem_toArray, List.getElem_cons_succ, List.getElem_cons_zero]
  try simp only [List.setIfInBounds_toArray, List.set_cons_succ, List.set_cons_zero]
  refine wpAnyH_take (i := 2) (v := ?v2_103) rfl (by kernel_rfl) (by kernel_rfl) (by kernel_rfl) (fun _ _ _ h => h) (Or.inl ⟨by rfl, ?y2_103⟩) hS ?r2_103
  case y2_103 =>
    rintro W hH
    go_simp
    with_reducible rfl
  simp only [Act.put]
  try simp only [List.getElem_toArray, List.getElem_cons_succ, List.getElem_cons_zero]
  try simp only [List.setIfInBounds_toArray, List.set_cons_succ, List.set_cons_zero]
  refine wpAnyH_take (i := 3) (v := ?v3_104) rfl (by kernel_rfl) (by kernel_rfl) (by kernel_rfl) (fun _ _ _ h => h) (Or.inl ⟨by rfl, ?y3_104⟩) hS ?r3_104
  case y3_104 =>
    rintro W hH
    go_simp
    with_reducible rfl
  simp only [Act.put]
  try simp only [List.getElem_toArray, List.getElem_cons_succ, List.getElem_cons_zero]
  try simp only [List.setIfInBounds_toArray, List.set_cons_succ, List.set_cons_zero]
  refine wpAnyH_take (i := 4) (v := ?v4_105) rfl (by kernel_rfl) (by kernel_rfl) (by kernel_rfl) (fun _ _ _ h => h) (Or.inl ⟨by rfl, ?y4_105⟩) hS ?r4_105
  case y4_105 =>
    rintro W hH
    go_simp
    with_reducible rfl
  simp only [Act.put]
  try simp only [List.getElem_toArray, List.getElem_cons_succ, List.getElem_cons_zero]
  try simp only [List.setIfInBounds_toArray, List.set_cons_succ, List.set_cons_zero]
  refine wpAnyH_take (i := 5) (v := ?v5_106) rfl (by kernel_rfl) (by kernel_rfl) (by kernel_rfl) (fun _ _ _ h => h) (Or.inl ⟨by rfl, ?y5_106⟩) hS ?r5_106
  case y5_106 =>
    rintro W hH
    go_simp
    with_reducible rfl
  simp only [Act.put]
  try simp only [List.getElem_toArray, List.getElem_cons_succ, List.getElem_cons_zero]
  try simp only [List.setIfInBounds_toArray, List.set_cons_succ, List.set_cons_zero]
  refine wpAnyH_take (i := 6) (v := ?v6_107) rfl (by kernel_rfl) (by kernel_rfl) (by kernel_rfl) (fun _ _ _ h => h) (Or.inl ⟨by rfl, ?y6_107⟩) hS ?r6_107
  case y6_107 =>
    rintro W hH
    go_simp
    with_reducible rfl
  simp only [Act.put]
  try simp only [List.getElem_toArray, List.getElem_cons_succ, List.getElem_cons_zero]
  try simp only [List.setIfInBounds_toArray, List.set_cons_succ, List.set_cons_zero]
  refine wpAnyH_done (by kernel_rfl) ?_ _
  go_wp2_with fail
  go_ret3
  exact ⟨_, _, _, rfl, HD.out _ hb3w, hb3w⟩
set_option maxRecDepth 100000 in
set_option maxHeartbeats 2000000 in
theorem list_bits_x (g off n c : Nat) (b : List Int) (most : Int) (w : World) (hB : SlI w w.heap.size .u8 (some ⟨g, off, none⟩) n c b) (hb8 : Byte8 b) (hn : n ≤ 1000) (hn3 : 3 ≤ n) (z : Int) (hz : z = (wordP b 0 + 7) / 8) (hf : fitP (wordP b 0) most = true) (hx : (b.getD 2 0 == z) = false) :
    Calls Tryd.prog 144 #[.slice (some ⟨g, off, none⟩) n c, .func (.func 145) #[] #[], .int .i64 most] w (ListPost w (wordP b 0) (b.drop 3) false) := by
  have HW := Lib.hid (head_word (some ⟨g, off, none⟩) n c b (by omega) w hB hb8)
  have hl := hB.1
  obtain ⟨N0, N1⟩ := wordP_in0 b hb8 (by omega)
  obtain ⟨N, hN⟩ : ∃ N, wordP b 0 = N := ⟨_, rfl⟩
  obtain ⟨x2, hx2⟩ : ∃ x, b[2]? = some x := ⟨_, List.getElem?_eq_getElem (by omega)⟩
  obtain ⟨x20, x21⟩ := hb8 x2 (List.mem_of_getElem? hx2)
  have gx2 : b.getD 2 0 = x2 := by rw [List.getD, hx2]; rfl
  rw [hN] at HW N0 N1 hz hf
  rw [gx2] at hx
  rw [hN]
  have HSZ : Hid (∀ X, Calls Tryd.prog 145 #[.int .i64 N] X fun e w' => e = .returned (.int .i64 z) ∧ X = w') := Lib.hid (fun X => by rw [hz]; exact size_bits N N0 N1 X)
  have hz0 : 0 ≤ z := by omega
  have hz1 : z ≤ 200000 := by omega
  have HF : Hid (∀ X, Calls Tryd.prog 99 #[.int .i64 N, .int .i64 most] X fun e w' => e = .returned (.bool true) ∧ X = w') := Lib.hid (fun X => by rw [← hf]; exact fits_own N most X)
  have HB := Lib.hid (fun (X : World) (h : Below w.heap.size w X) => hB.up h)
  have HC := Lib.hid (fun (X : World) (h : Below w.heap.size w X) => (by
    obtain ⟨g', o', e, hlt, hc⟩ := (hB.up h).2.2.2.2 (by rw [hl]; omega)
    injection e with e
    injection e with e1 e2
    subst e1 e2
    exact hc 2 x2 hx2 : X.cell? ⟨g, off + 2, none⟩ = some (.int .u8 x2)))
  have hcn := hB.2.1
  have hn3' : ¬ (n : Int) < 3 := by omega
  have h2n : 2 < n := by omega
  have h2n' : (2 : Int) < (n : Int) := by omega
  have h2c : 2 ≤ c := by omega
  have h2c' : (2 : Int) ≤ (c : Int) := by omega
  have h3n' : (3 : Int) ≤ (n : Int) := by omega
  have wx : IntKind.i64.wrap x2 = x2 := IntWalk.i64_in _ (by omega)
  have wz : IntKind.i64.wrap (3 + z) = 3 + z := IntWalk.i64_in _ (by omega)
  obtain ⟨AD, hAD⟩ : ∃ X, (if c = 3 then some (⟨g, off, none⟩ : Addr) else some ⟨g, off + 3, none⟩) = X := ⟨_, rfl⟩
  have HD : Hid (∀ X, Below w.heap.size w X → SlI X X.heap.size .u8 AD (n - 3) (c - 3) (b.drop 3)) := Lib.hid (fun X h => by
    rw [← hAD]
    split
    · have e1 : n - 3 = 0 := by omega
      have e2 : c - 3 = 0 := by omega
      rw [List.drop_eq_nil_of_le (by omega), e1, e2]
      exact ⟨rfl, by omega, by omega, (fun e => by cases e), RdI.nil⟩
    · exact (hB.up h).drop 3 (by omega))
  clear hB hz hN hx2 gx2 hb8 hf hl
  go_in
  go_wp2_with (go_at_call 142; (with_reducible refine HW.out.mono ?_); rintro e w1 ⟨g1, o1, k1, rfl, hc1, hb1⟩)
  obtain ⟨w2, hw2⟩ : ∃ W : World, w1.drew = W := ⟨_, rfl⟩
  have hb2 : Below w1.heap.size w1 w2 := by rw [← hw2]; exact (Below.refl _ _).drew
  have hb2w := hb1.trans (hb2.mono hb1.size)
  refine wp_region_held (S := Below w.heap.size w) (by kernel_rfl) ?_
  change wpAnyH _ _ _ _ _ _ _ _ w1.drew
  rw [hw2]
  have hS := hb2w
  refine wpAnyH_take (i := 0) (v := ?v0_1) rfl (by kernel_rfl) (by kernel_rfl) (by kernel_rfl) (fun _ _ _ h => h) (Or.inl ⟨by rfl, ?y0_1⟩) hS ?r0_1
  case y0_1 =>
    rintro W hH
    have hcx := HC.out W hH
    go_simp
    with_reducible rfl
  simp only [Act.put]
  try simp only [List.getElem_toArray, List.getElem_cons_zero]
  try simp only [List.setIfInBounds_toArray, List.set_cons_succ, List.set_cons_zero]
  refine wpAnyH_take (i := 1) (v := ?v1_2) rfl (by kernel_rfl) (by kernel_rfl) (by kernel_rfl) (fun _ _ _ h => h) (Or.inl ⟨by rfl, ?y1_2⟩) hS ?r1_2
  case y1_2 =>
    rintro W hH
    have hcx := HC.out W hH
    go_simp
    with_reducible rfl
  simp only [Act.put]
  try simp only [List.getElem_toArray, List.getElem_cons_succ, List.getElem_cons_zero]
  try simp only [List.setIfInBounds_toArray, List.set_cons_succ, List.set_cons_zero]
  refine wpAnyH_ready (rs := [2]) (by kernel_rfl) (by simp) ?_
  refine AllReadyH.cons rfl (fun K' hK' => ?_) AllReadyH.nil
  go_simp
  refine (HF.out _).mono ?_
  rintro e w' ⟨rfl, rfl⟩
  go_simp
  refine hK'.out _ _ hS (fun hS => ?_)
  clear hK' K'
  refine wpAnyH_take (i := 3) (v := ?v3_3) rfl (by kernel_rfl) (by kernel_rfl) (by kernel_rfl) (fun _ _ _ h => h) (Or.inl ⟨by rfl, ?y3_3⟩) hS ?r3_3
  case y3_3 =>
    rintro W hH
    have hcx := HC.out W hH
    go_simp
    with_reducible rfl
  simp only [Act.put]
  try simp only [List.getElem_toArray, List.getElem_cons_succ, List.getElem_cons_zero]
  try simp only [List.setIfInBounds_toArray, List.set_cons_succ, List.set_cons_zero]
  refine wpAnyH_take (i := 4) (v := ?v4_4) rfl (by kernel_rfl) (by kernel_rfl) (by kernel_rfl) (fun _ _ _ h => h) (Or.inl ⟨by rfl, ?y4_4⟩) hS ?r4_4
  case y4_4 =>
    rintro W hH
    have hcx := HC.out W hH
    go_simp
    with_reducible rfl
  simp only [Act.put]
  try simp only [List.getElem_toArray, List.getElem_cons_succ, List.getElem_cons_zero]
  try simp only [List.setIfInBounds_toArray, List.set_cons_succ, List.set_cons_zero]
  refine wpAnyH_take (i := 5) (v := ?v5_5) rfl (by kernel_rfl) (by kernel_rfl) (by kernel_rfl) (fun _ _ _ h => h) (Or.inl ⟨by rfl, ?y5_5⟩) hS ?r5_5
  case y5_5 =>
    rintro W hH
    have hcx := HC.out W hH
    go_simp
    with_reducible rfl
  simp only [Act.put]
  try simp only [List.getElem_toArray, List.getElem_cons_succ, List.getElem_cons_zero]
  try simp only [List.setIfInBounds_toArray, List.set_cons_succ, List.set_cons_zero]
  refine wpAnyH_take (i := 6) (v := ?v6_6) rfl (by kernel_rfl) (by kernel_rfl) (by kernel_rfl) (fun _ _ _ h => h) (Or.inl ⟨by rfl, ?y6_6⟩) hS ?r6_6
  case y6_6 =>
    rintro W hH
    have hcx := HC.out W hH
    go_simp
    with_reducible rfl
  simp only [Act.put]
  try simp only [List.getElem_toArray, List.getElem_cons_succ, List.getElem_cons_zero]
  try simp only [List.setIfInBounds_toArray, List.set_cons_succ, List.set_cons_zero]
  refine wpAnyH_take (i := 7) (v := ?v7_7) rfl (by kernel_rfl) (by kernel_rfl) (by kernel_rfl) (fun _ _ _ h => h) (Or.inl ⟨by rfl, ?y7_7⟩) hS ?r7_7
  case y7_7 =>
    rintro W hH
    have hcx := HC.out W hH
    go_simp
    with_reducible rfl
  simp only [Act.put]
  try simp only [List.getElem_toArray, List.getElem_cons_succ, List.getElem_cons_zero]
  try simp only [List.setIfInBounds_toArray, List.set_cons_succ, List.set_cons_zero]
  refine wpAnyH_take (i := 8) (v := ?v8_8) rfl (by kernel_rfl) (by kernel_rfl) (by kernel_rfl) (fun _ _ _ h => h) (Or.inl ⟨by rfl, ?y8_8⟩) hS ?r8_8
  case y8_8 =>
    rintro W hH
    have hcx := HC.out W hH
    go_simp
    with_reducible rfl
  simp only [Act.put]
  try simp only [List.getElem_toArray, List.getElem_cons_succ, List.getElem_cons_zero]
  try simp only [List.setIfInBounds_toArray, List.set_cons_succ, List.set_cons_zero]
  refine wpAnyH_take (i := 9) (v := ?v9_9) rfl (by kernel_rfl) (by kernel_rfl) (by kernel_rfl) (fun _ _ _ h => h) (Or.inl ⟨by rfl, ?y9_9⟩) hS ?r9_9
  case y9_9 =>
    rintro W hH
    have hcx := HC.out W hH
    go_simp
    with_reducible rfl
  simp only [Act.put]
  try simp only [List.getElem_toArray, List.getElem_cons_succ, List.getElem_cons_zero]
  try simp only [List.setIfInBounds_toArray, List.set_cons_succ, List.set_cons_zero]
  refine wpAnyH_ready (rs := [10]) (by kernel_rfl) (by simp) ?_
  refine AllReadyH.cons rfl (fun K' hK' => ?_) AllReadyH.nil
  go_simp
  refine (HSZ.out _).mono ?_
  rintro e w' ⟨rfl, rfl⟩
  go_simp
  refine hK'.out _ _ hS (fun hS => ?_)
  clear hK' K'
  refine wpAnyH_take (i := 11) (v := ?v11_10) rfl (by kernel_rfl) (by kernel_rfl) (by kernel_rfl) (fun _ _ _ h => h) (Or.inl ⟨by rfl, ?y11_10⟩) hS ?r11_10
  case y11_10 =>
    rintro W hH
    have hcx := HC.out W hH
    go_simp
    with_reducible rfl
  simp only [Act.put]
  try simp only [List.getElem_toArray, List.getElem_cons_succ, List.getElem_cons_zero]
  try simp only [List.setIfInBounds_toArray, List.set_cons_succ, List.set_cons_zero]
  refine wpAnyH_take (i := 12) (v := ?v12_11) rfl (by kernel_rfl) (by kernel_rfl) (by kernel_rfl) (fun _ _ _ h => h) (Or.inl ⟨by rfl, ?y12_11⟩) hS ?r12_11
  case y12_11 =>
    rintro W hH
    have hcx := HC.out W hH
    go_simp
    with_reducible rfl
  simp only [Act.put]
  try simp only [List.getElem_toArray, List.getElem_cons_succ, List.getElem_cons_zero]
  try simp only [List.setIfInBounds_toArray, List.set_cons_succ, List.set_cons_zero]
  refine wpAnyH_take (i := 13) (v := ?v13_12) rfl (by kernel_rfl) (by kernel_rfl) (by kernel_rfl) (fun _ _ _ h => h) (Or.inl ⟨by rfl, ?y13_12⟩) hS ?r13_12
  case y13_12 =>
    rintro W hH
    have hcx := HC.out W hH
    go_simp
    with_reducible rfl
  simp only [Act.put]
  try simp only [List.getElem_toArray, List.getElem_cons_succ, List.getElem_cons_zero]
  try simp only [List.setIfInBounds_toArray, List.set_cons_succ, List.set_cons_zero]
  refine wpAnyH_take (i := 14) (v := undef) rfl (by kernel_rfl) (by kernel_rfl) (by kernel_rfl) (fun _ _ _ h => h) ?y14_13 hS ?r14_13
  case y14_13 => exact Or.inr ⟨by rfl, rfl⟩
  simp only [Act.put]
  try simp only [List.getElem_toArray, List.getElem_cons_succ, List.getElem_cons_zero]
  try simp only [List.setIfInBounds_toArray, List.set_cons_succ, List.set_cons_zero]
  refine wpAnyH_take (i := 15) (v := undef) rfl (by kernel_rfl) (by kernel_rfl) (by kernel_rfl) (fun _ _ _ h => h) ?y15_14 hS ?r15_14
  case y15_14 => exact Or.inr ⟨by rfl, rfl⟩
  simp only [Act.put]
  try simp only [List.getElem_toArray, List.getElem_cons_succ, List.getElem_cons_zero]
  try simp only [List.setIfInBounds_toArray, List.set_cons_succ, List.set_cons_zero]
  refine wpAnyH_take (i := 16) (v := undef) rfl (by kernel_rfl) (by kernel_rfl) (by kernel_rfl) (fun _ _ _ h => h) ?y16_15 hS ?r16_15
  case y16_15 => exact Or.inr ⟨by rfl, rfl⟩
  simp only [Act.put]
  try simp only [List.getElem_toArray, List.getElem_cons_succ, List.getElem_cons_zero]
  try simp only [List.setIfInBounds_toArray, List.set_cons_succ, List.set_cons_zero]
  refine wpAnyH_take (i := 17) (v := undef) rfl (by kernel_rfl) (by kernel_rfl) (by kernel_rfl) (fun _ _ _ h => h) ?y17_16 hS ?r17_16
  case y17_16 => exact Or.inr ⟨by rfl, rfl⟩
  simp only [Act.put]
  try simp only [List.getElem_toArray, List.getElem_cons_succ, List.getElem_cons_zero]
  try simp only [List.setIfInBounds_toArray, List.set_cons_succ, List.set_cons_zero]
  refine wpAnyH_take (i := 18) (v := undef) rfl (by kernel_rfl) (by kernel_rfl) (by kernel_rfl) (fun _ _ _ h => h) ?y18_17 hS ?r18_17
  case y18_17 => exact Or.inr ⟨by rfl, rfl⟩
  simp only [Act.put]
  try simp only [List.getElem_toArray, List.getElem_cons_succ, List.getElem_cons_zero]
  try simp only [List.setIfInBounds_toArray, List.set_cons_succ, List.set_cons_zero]
  refine wpAnyH_take (i := 19) (v := undef) rfl (by kernel_rfl) (by kernel_rfl) (by kernel_rfl) (fun _ _ _ h => h) ?y19_18 hS ?r19_18
  case y19_18 => exact Or.inr ⟨by rfl, rfl⟩
  simp only [Act.put]
  try simp only [List.getElem_toArray, List.getElem_cons_succ, List.getElem_cons_zero]
  try simp only [List.setIfInBounds_toArray, List.set_cons_succ, List.set_cons_zero]
  refine wpAnyH_take (i := 20) (v := undef) rfl (by kernel_rfl) (by kernel_rfl) (by kernel_rfl) (fun _ _ _ h => h) ?y20_19 hS ?r20_19
  case y20_19 => exact Or.inr ⟨by rfl, rfl⟩
  simp only [Act.put]
  try simp only [List.getElem_toArray, List.getElem_cons_succ, List.getElem_cons_zero]
  try simp only [List.setIfInBounds_toArray, List.set_cons_succ, List.set_cons_zero]
  refine wpAnyH_take (i := 21) (v := ?v21_20) rfl (by kernel_rfl) (by kernel_rfl) (by kernel_rfl) (fun _ _ _ h => h) (Or.inl ⟨by rfl, ?y21_20⟩) hS ?r21_20
  case y21_20 =>
    rintro W hH
    have hcx := HC.out W hH
    go_simp
    with_reducible rfl
  simp only [Act.put]
  try simp only [List.getElem_toArray, List.getElem_cons_succ, List.getElem_cons_zero]
  try simp only [List.setIfInBounds_toArray, List.set_cons_succ, List.set_cons_zero]
  refine wpAnyH_take (i := 22) (v := ?v22_21) rfl (by kernel_rfl) (by kernel_rfl) (by kernel_rfl) (fun _ _ _ h => h) (Or.inl ⟨by rfl, ?y22_21⟩) hS ?r22_21
  case y22_21 =>
    rintro W hH
    have hcx := HC.out W hH
    go_simp
    with_reducible rfl
  simp only [Act.put]
  try simp only [List.getElem_toArray, List.getElem_cons_succ, List.getElem_cons_zero]
  try simp only [List.setIfInBounds_toArray, List.set_cons_succ, List.set_cons_zero]
  refine wpAnyH_done (by kernel_rfl) ?_ _
  go_wp2_with fail
  refine wp_region_held (S := Below w.heap.size w) (by kernel_rfl) ?_
  obtain ⟨w3, hw3⟩ : ∃ W : World, w2.drew = W := ⟨_, rfl⟩
  have hb3 : Below w2.heap.size w2 w3 := by rw [← hw3]; exact (Below.refl _ _).drew
  have hb3w := hb2w.trans (hb3.mono hb2w.size)
  change wpAnyH _ _ _ _ _ _ _ _ w2.drew
  rw [hw3]
  clear hS
  have hS := hb3w
  refine wpAnyH_take (i := 0) (v := ?v0_101) rfl (by kernel_rfl) (by kernel_rfl) (by kernel_rfl) (fun _ _ _ h => h) (Or.inl ⟨by rfl, ?y0_101⟩) hS ?r0_101
  case y0_101 =>
    rintro W hH
    go_simp
    with_reducible rfl
  simp only [Act.put]
  try simp only [List.getElem_toArray, List.getElem_cons_zero]
  try simp only [List.setIfInBounds_toArray, List.set_cons_succ, List.set_cons_zero]
  refine wpAnyH_take (i := 1) (v := ?v1_102) rfl (by kernel_rfl) (by kernel_rfl) (by kernel_rfl) (fun _ _ _ h => h) (Or.inl ⟨by rfl, ?y1_102⟩) hS ?r1_102
  case y1_102 =>
    rintro W hH
    go_simp
    with_reducible rfl
  simp only [Act.put]
  try simp only [List.getElem_toArray, List.getElem_cons_succ, List.getElem_cons_zero]
  try simp only [List.setIfInBounds_toArray, List.set_cons_succ, List.set_cons_zero]
  refine wpAnyH_take (i := 2) (v := ?v2_103) rfl (by kernel_rfl) (by kernel_rfl) (by kernel_rfl) (fun _ _ _ h => h) (Or.inl ⟨by rfl, ?y2_103⟩) hS ?r2_103
  case y2_103 =>
    rintro W hH
    go_simp
    with_reducible rfl
  simp only [Act.put]
  try simp only [List.getElem_toArray, List.getElem_cons_succ, List.getElem_cons_zero]
  try simp only [List.setIfInBounds_toArray, List.set_cons_succ, List.set_cons_zero]
  refine wpAnyH_take (i := 3) (v := ?v3_104) rfl (by kernel_rfl) (by kernel_rfl) (by kernel_rfl) (fun _ _ _ h => h) (Or.inl ⟨by rfl, ?y3_104⟩) hS ?r3_104
  case y3_104 =>
    rintro W hH
    go_simp
    with_reducible rfl
  simp only [Act.put]
  try simp only [List.getElem_toArray, List.getElem_cons_succ, List.getElem_cons_zero]
  try simp only [List.setIfInBounds_toArray, List.set_cons_succ, List.set_cons_zero]
  refine wpAnyH_take (i := 4) (v := ?v4_105) rfl (by kernel_rfl) (by kernel_rfl) (by kernel_rfl) (fun _ _ _ h => h) (Or.inl ⟨by rfl, ?y4_105⟩) hS ?r4_105
  case y4_105 =>
    rintro W hH
    go_simp
    with_reducible rfl
  simp only [Act.put]
  try simp only [List.getElem_toArray, List.getElem_cons_succ, List.getElem_cons_zero]
  try simp only [List.setIfInBounds_toArray, List.set_cons_succ, List.set_cons_zero]
  refine wpAnyH_take (i := 5) (v := ?v5_106) rfl (by kernel_rfl) (by kernel_rfl) (by kernel_rfl) (fun _ _ _ h => h) (Or.inl ⟨by rfl, ?y5_106⟩) hS ?r5_106
  case y5_106 =>
    rintro W hH
    go_simp
    with_reducible rfl
  simp only [Act.put]
  try simp only [List.getElem_toArray, List.getElem_cons_succ, List.getElem_cons_zero]
  try simp only [List.setIfInBounds_toArray, List.set_cons_succ, List.set_cons_zero]
  refine wpAnyH_take (i := 6) (v := ?v6_107) rfl (by kernel_rfl) (by kernel_rfl) (by kernel_rfl) (fun _ _ _ h => h) (Or.inl ⟨by rfl, ?y6_107⟩) hS ?r6_107
  case y6_107 =>
    rintro W hH
    go_simp
    with_reducible rfl
  simp only [Act.put]
  try simp only [List.getElem_toArray, List.getElem_cons_succ, List.getElem_cons_zero]
  try simp only [List.setIfInBounds_toArray, List.set_cons_succ, List.set_cons_zero]
  refine wpAnyH_done (by kernel_rfl) ?_ _
  go_wp2_with fail
  go_ret3
  exact ⟨_, _, _, rfl, HD.out _ hb3w, hb3w⟩
set_option maxRecDepth 100000 in
set_option maxHeartbeats 2000000 in
theorem list_bits_y (g off n c : Nat) (b : List Int) (most : Int) (w : World) (hB : SlI w w.heap.size .u8 (some ⟨g, off, none⟩) n c b) (hb8 : Byte8 b) (hn : n ≤ 1000) (hn3 : 3 ≤ n) (z : Int) (hz : z = (wordP b 0 + 7) / 8) (hf : fitP (wordP b 0) most = true) (hx : (b.getD 2 0 == z) = true) :
    Calls Tryd.prog 144 #[.slice (some ⟨g, off, none⟩) n c, .func (.func 145) #[] #[], .int .i64 most] w (ListPost w (wordP b 0) (b.drop 3) ((n : Int) == 3 + z)) := by
  have HW := Lib.hid (head_word (some ⟨g, off, none⟩) n c b (by omega) w hB hb8)
  have hl := hB.1
  obtain ⟨N0, N1⟩ := wordP_in0 b hb8 (by omega)
  obtain ⟨N, hN⟩ : ∃ N, wordP b 0 = N := ⟨_, rfl⟩
  obtain ⟨x2, hx2⟩ : ∃ x, b[2]? = some x := ⟨_, List.getElem?_eq_getElem (by omega)⟩
  obtain ⟨x20, x21⟩ := hb8 x2 (List.mem_of_getElem? hx2)
  have gx2 : b.getD 2 0 = x2 := by rw [List.getD, hx2]; rfl
  rw [hN] at HW N0 N1 hz hf
  rw [gx2] at hx
  rw [hN]
  have HSZ : Hid (∀ X, Calls Tryd.prog 145 #[.int .i64 N] X fun e w' => e = .returned (.int .i64 z) ∧ X = w') := Lib.hid (fun X => by rw [hz]; exact size_bits N N0 N1 X)
  have hz0 : 0 ≤ z := by omega
  have hz1 : z ≤ 200000 := by omega
  have HF : Hid (∀ X, Calls Tryd.prog 99 #[.int .i64 N, .int .i64 most] X fun e w' => e = .returned (.bool true) ∧ X = w') := Lib.hid (fun X => by rw [← hf]; exact fits_own N most X)
  have HB := Lib.hid (fun (X : World) (h : Below w.heap.size w X) => hB.up h)
  have HC := Lib.hid (fun (X : World) (h : Below w.heap.size w X) => (by
    obtain ⟨g', o', e, hlt, hc⟩ := (hB.up h).2.2.2.2 (by rw [hl]; omega)
    injection e with e
    injection e with e1 e2
    subst e1 e2
    exact hc 2 x2 hx2 : X.cell? ⟨g, off + 2, none⟩ = some (.int .u8 x2)))
  have hcn := hB.2.1
  have hn3' : ¬ (n : Int) < 3 := by omega
  have h2n : 2 < n := by omega
  have h2n' : (2 : Int) < (n : Int) := by omega
  have h2c : 2 ≤ c := by omega
  have h2c' : (2 : Int) ≤ (c : Int) := by omega
  have h3n' : (3 : Int) ≤ (n : Int) := by omega
  have wx : IntKind.i64.wrap x2 = x2 := IntWalk.i64_in _ (by omega)
  have wz : IntKind.i64.wrap (3 + z) = 3 + z := IntWalk.i64_in _ (by omega)
  obtain ⟨AD, hAD⟩ : ∃ X, (if c = 3 then some (⟨g, off, none⟩ : Addr) else some ⟨g, off + 3, none⟩) = X := ⟨_, rfl⟩
  have HD : Hid (∀ X, Below w.heap.size w X → SlI X X.heap.size .u8 AD (n - 3) (c - 3) (b.drop 3)) := Lib.hid (fun X h => by
    rw [← hAD]
    split
    · have e1 : n - 3 = 0 := by omega
      have e2 : c - 3 = 0 := by omega
      rw [List.drop_eq_nil_of_le (by omega), e1, e2]
      exact ⟨rfl, by omega, by omega, (fun e => by cases e), RdI.nil⟩
    · exact (hB.up h).drop 3 (by omega))
  clear hB hz hN hx2 gx2 hb8 hf hl
  go_in
  go_wp2_with (go_at_call 142; (with_reducible refine HW.out.mono ?_); rintro e w1 ⟨g1, o1, k1, rfl, hc1, hb1⟩)
  obtain ⟨w2, hw2⟩ : ∃ W : World, w1.drew = W := ⟨_, rfl⟩
  have hb2 : Below w1.heap.size w1 w2 := by rw [← hw2]; exact (Below.refl _ _).drew
  have hb2w := hb1.trans (hb2.mono hb1.size)
  refine wp_region_held (S := Below w.heap.size w) (by kernel_rfl) ?_
  change wpAnyH _ _ _ _ _ _ _ _ w1.drew
  rw [hw2]
  have hS := hb2w
  refine wpAnyH_take (i := 0) (v := ?v0_1) rfl (by kernel_rfl) (by kernel_rfl) (by kernel_rfl) (fun _ _ _ h => h) (Or.inl ⟨by rfl, ?y0_1⟩) hS ?r0_1
  case y0_1 =>
    rintro W hH
    have hcx := HC.out W hH
    go_simp
    with_reducible rfl
  simp only [Act.put]
  try simp only [List.getElem_toArray, List.getElem_cons_zero]
  try simp only [List.setIfInBounds_toArray, List.set_cons_succ, List.set_cons_zero]
  refine wpAnyH_take (i := 1) (v := ?v1_2) rfl (by kernel_rfl) (by kernel_rfl) (by kernel_rfl) (fun _ _ _ h => h) (Or.inl ⟨by rfl, ?y1_2⟩) hS ?r1_2
  case y1_2 =>
    rintro W hH
    have hcx := HC.out W hH
    go_simp
    with_reducible rfl
  simp only [Act.put]
  try simp only [List.getElem_toArray, List.getElem_cons_succ, List.getElem_cons_zero]
  try simp only [List.setIfInBounds_toArray, List.set_cons_succ, List.set_cons_zero]
  refine wpAnyH_ready (rs := [2]) (by kernel_rfl) (by simp) ?_
  refine AllReadyH.cons rfl (fun K' hK' => ?_) AllReadyH.nil
  go_simp
  refine (HF.out _).mono ?_
  rintro e w' ⟨rfl, rfl⟩
  go_simp
  refine hK'.out _ _ hS (fun hS => ?_)
  clear hK' K'
  refine wpAnyH_take (i := 3) (v := ?v3_3) rfl (by kernel_rfl) (by kernel_rfl) (by kernel_rfl) (fun _ _ _ h => h) (Or.inl ⟨by rfl, ?y3_3⟩) hS ?r3_3
  case y3_3 =>
    rintro W hH
    have hcx := HC.out W hH
    go_simp
    with_reducible rfl
  simp only [Act.put]
  try simp only [List.getElem_toArray, List.getElem_cons_succ, List.getElem_cons_zero]
  try simp only [List.setIfInBounds_toArray, List.set_cons_succ, List.set_cons_zero]
  refine wpAnyH_take (i := 4) (v := ?v4_4) rfl (by kernel_rfl) (by kernel_rfl) (by kernel_rfl) (fun _ _ _ h => h) (Or.inl ⟨by rfl, ?y4_4⟩) hS ?r4_4
  case y4_4 =>
    rintro W hH
    have hcx := HC.out W hH
    go_simp
    with_reducible rfl
  simp only [Act.put]
  try simp only [List.getElem_toArray, List.getElem_cons_succ, List.getElem_cons_zero]
  try simp only [List.setIfInBounds_toArray, List.set_cons_succ, List.set_cons_zero]
  refine wpAnyH_take (i := 5) (v := ?v5_5) rfl (by kernel_rfl) (by kernel_rfl) (by kernel_rfl) (fun _ _ _ h => h) (Or.inl ⟨by rfl, ?y5_5⟩) hS ?r5_5
  case y5_5 =>
    rintro W hH
    have hcx := HC.out W hH
    go_simp
    with_reducible rfl
  simp only [Act.put]
  try simp only [List.getElem_toArray, List.getElem_cons_succ, List.getElem_cons_zero]
  try simp only [List.setIfInBounds_toArray, List.set_cons_succ, List.set_cons_zero]
  refine wpAnyH_take (i := 6) (v := ?v6_6) rfl (by kernel_rfl) (by kernel_rfl) (by kernel_rfl) (fun _ _ _ h => h) (Or.inl ⟨by rfl, ?y6_6⟩) hS ?r6_6
  case y6_6 =>
    rintro W hH
    have hcx := HC.out W hH
    go_simp
    with_reducible rfl
  simp only [Act.put]
  try simp only [List.getElem_toArray, List.getElem_cons_succ, List.getElem_cons_zero]
  try simp only [List.setIfInBounds_toArray, List.set_cons_succ, List.set_cons_zero]
  refine wpAnyH_take (i := 7) (v := ?v7_7) rfl (by kernel_rfl) (by kernel_rfl) (by kernel_rfl) (fun _ _ _ h => h) (Or.inl ⟨by rfl, ?y7_7⟩) hS ?r7_7
  case y7_7 =>
    rintro W hH
    have hcx := HC.out W hH
    go_simp
    with_reducible rfl
  simp only [Act.put]
  try simp only [List.getElem_toArray, List.getElem_cons_succ, List.getElem_cons_zero]
  try simp only [List.setIfInBounds_toArray, List.set_cons_succ, List.set_cons_zero]
  refine wpAnyH_take (i := 8) (v := ?v8_8) rfl (by kernel_rfl) (by kernel_rfl) (by kernel_rfl) (fun _ _ _ h => h) (Or.inl ⟨by rfl, ?y8_8⟩) hS ?r8_8
  case y8_8 =>
    rintro W hH
    have hcx := HC.out W hH
    go_simp
    with_reducible rfl
  simp only [Act.put]
  try simp only [List.getElem_toArray, List.getElem_cons_succ, List.getElem_cons_zero]
  try simp only [List.setIfInBounds_toArray, List.set_cons_succ, List.set_cons_zero]
  refine wpAnyH_take (i := 9) (v := ?v9_9) rfl (by kernel_rfl) (by kernel_rfl) (by kernel_rfl) (fun _ _ _ h => h) (Or.inl ⟨by rfl, ?y9_9⟩) hS ?r9_9
  case y9_9 =>
    rintro W hH
    have hcx := HC.out W hH
    go_simp
    with_reducible rfl
  simp only [Act.put]
  try simp only [List.getElem_toArray, List.getElem_cons_succ, List.getElem_cons_zero]
  try simp only [List.setIfInBounds_toArray, List.set_cons_succ, List.set_cons_zero]
  refine wpAnyH_ready (rs := [10]) (by kernel_rfl) (by simp) ?_
  refine AllReadyH.cons rfl (fun K' hK' => ?_) AllReadyH.nil
  go_simp
  refine (HSZ.out _).mono ?_
  rintro e w' ⟨rfl, rfl⟩
  go_simp
  refine hK'.out _ _ hS (fun hS => ?_)
  clear hK' K'
  refine wpAnyH_take (i := 11) (v := ?v11_10) rfl (by kernel_rfl) (by kernel_rfl) (by kernel_rfl) (fun _ _ _ h => h) (Or.inl ⟨by rfl, ?y11_10⟩) hS ?r11_10
  case y11_10 =>
    rintro W hH
    have hcx := HC.out W hH
    go_simp
    with_reducible rfl
  simp only [Act.put]
  try simp only [List.getElem_toArray, List.getElem_cons_succ, List.getElem_cons_zero]
  try simp only [List.setIfInBounds_toArray, List.set_cons_succ, List.set_cons_zero]
  refine wpAnyH_take (i := 12) (v := ?v12_11) rfl (by kernel_rfl) (by kernel_rfl) (by kernel_rfl) (fun _ _ _ h => h) (Or.inl ⟨by rfl, ?y12_11⟩) hS ?r12_11
  case y12_11 =>
    rintro W hH
    have hcx := HC.out W hH
    go_simp
    with_reducible rfl
  simp only [Act.put]
  try simp only [List.getElem_toArray, List.getElem_cons_succ, List.getElem_cons_zero]
  try simp only [List.setIfInBounds_toArray, List.set_cons_succ, List.set_cons_zero]
  refine wpAnyH_take (i := 13) (v := ?v13_12) rfl (by kernel_rfl) (by kernel_rfl) (by kernel_rfl) (fun _ _ _ h => h) (Or.inl ⟨by rfl, ?y13_12⟩) hS ?r13_12
  case y13_12 =>
    rintro W hH
    have hcx := HC.out W hH
    go_simp
    with_reducible rfl
  simp only [Act.put]
  try simp only [List.getElem_toArray, List.getElem_cons_succ, List.getElem_cons_zero]
  try simp only [List.setIfInBounds_toArray, List.set_cons_succ, List.set_cons_zero]
  refine wpAnyH_take (i := 14) (v := ?v14_13) rfl (by kernel_rfl) (by kernel_rfl) (by kernel_rfl) (fun _ _ _ h => h) (Or.inl ⟨by rfl, ?y14_13⟩) hS ?r14_13
  case y14_13 =>
    rintro W hH
    have hcx := HC.out W hH
    go_simp
    with_reducible rfl
  simp only [Act.put]
  try simp only [List.getElem_toArray, List.getElem_cons_succ, List.getElem_cons_zero]
  try simp only [List.setIfInBounds_toArray, List.set_cons_succ, List.set_cons_zero]
  refine wpAnyH_take (i := 15) (v := ?v15_14) rfl (by kernel_rfl) (by kernel_rfl) (by kernel_rfl) (fun _ _ _ h => h) (Or.inl ⟨by rfl, ?y15_14⟩) hS ?r15_14
  case y15_14 =>
    rintro W hH
    have hcx := HC.out W hH
    go_simp
    with_reducible rfl
  simp only [Act.put]
  try simp only [List.getElem_toArray, List.getElem_cons_succ, List.getElem_cons_zero]
  try simp only [List.setIfInBounds_toArray, List.set_cons_succ, List.set_cons_zero]
  refine wpAnyH_take (i := 16) (v := ?v16_15) rfl (by kernel_rfl) (by kernel_rfl) (by kernel_rfl) (fun _ _ _ h => h) (Or.inl ⟨by rfl, ?y16_15⟩) hS ?r16_15
  case y16_15 =>
    rintro W hH
    have hcx := HC.out W hH
    go_simp
    with_reducible rfl
  simp only [Act.put]
  try simp only [List.getElem_toArray, List.getElem_cons_succ, List.getElem_cons_zero]
  try simp only [List.setIfInBounds_toArray, List.set_cons_succ, List.set_cons_zero]
  refine wpAnyH_take (i := 17) (v := ?v17_16) rfl (by kernel_rfl) (by kernel_rfl) (by kernel_rfl) (fun _ _ _ h => h) (Or.inl ⟨by rfl, ?y17_16⟩) hS ?r17_16
  case y17_16 =>
    rintro W hH
    have hcx := HC.out W hH
    go_simp
    with_reducible rfl
  simp only [Act.put]
  try simp only [List.getElem_toArray, List.getElem_cons_succ, List.getElem_cons_zero]
  try simp only [List.setIfInBounds_toArray, List.set_cons_succ, List.set_cons_zero]
  refine wpAnyH_ready (rs := [18]) (by kernel_rfl) (by simp) ?_
  refine AllReadyH.cons rfl (fun K' hK' => ?_) AllReadyH.nil
  go_simp
  refine (HSZ.out _).mono ?_
  rintro e w' ⟨rfl, rfl⟩
  go_simp
  refine hK'.out _ _ hS (fun hS => ?_)
  clear hK' K'
  refine wpAnyH_take (i := 19) (v := ?v19_17) rfl (by kernel_rfl) (by kernel_rfl) (by kernel_rfl) (fun _ _ _ h => h) (Or.inl ⟨by rfl, ?y19_17⟩) hS ?r19_17
  case y19_17 =>
    rintro W hH
    have hcx := HC.out W hH
    go_simp
    with_reducible rfl
  simp only [Act.put]
  try simp only [List.getElem_toArray, List.getElem_cons_succ, List.getElem_cons_zero]
  try simp only [List.setIfInBounds_toArray, List.set_cons_succ, List.set_cons_zero]
  refine wpAnyH_take (i := 20) (v := ?v20_18) rfl (by kernel_rfl) (by kernel_rfl) (by kernel_rfl) (fun _ _ _ h => h) (Or.inl ⟨by rfl, ?y20_18⟩) hS ?r20_18
  case y20_18 =>
    rintro W hH
    have hcx := HC.out W hH
    go_simp
    with_reducible rfl
  simp only [Act.put]
  try simp only [List.getElem_toArray, List.getElem_cons_succ, List.getElem_cons_zero]
  try simp only [List.setIfInBounds_toArray, List.set_cons_succ, List.set_cons_zero]
  refine wpAnyH_take (i := 21) (v := ?v21_19) rfl (by kernel_rfl) (by kernel_rfl) (by kernel_rfl) (fun _ _ _ h => h) (Or.inl ⟨by rfl, ?y21_19⟩) hS ?r21_19
  case y21_19 =>
    rintro W hH
    have hcx := HC.out W hH
    go_simp
    with_reducible rfl
  simp only [Act.put]
  try simp only [List.getElem_toArray, List.getElem_cons_succ, List.getElem_cons_zero]
  try simp only [List.setIfInBounds_toArray, List.set_cons_succ, List.set_cons_zero]
  refine wpAnyH_take (i := 22) (v := ?v22_20) rfl (by kernel_rfl) (by kernel_rfl) (by kernel_rfl) (fun _ _ _ h => h) (Or.inl ⟨by rfl, ?y22_20⟩) hS ?r22_20
  case y22_20 =>
    rintro W hH
    have hcx := HC.out W hH
    go_simp
    with_reducible rfl
  simp only [Act.put]
  try simp only [List.getElem_toArray, List.getElem_cons_succ, List.getElem_cons_zero]
  try simp only [List.setIfInBounds_toArray, List.set_cons_succ, List.set_cons_zero]
  refine wpAnyH_done (by kernel_rfl) ?_ _
  go_wp2_with fail
  refine wp_region_held (S := Below w.heap.size w) (by kernel_rfl) ?_
  obtain ⟨w3, hw3⟩ : ∃ W : World, w2.drew = W := ⟨_, rfl⟩
  have hb3 : Below w2.heap.size w2 w3 := by rw [← hw3]; exact (Below.refl _ _).drew
  have hb3w := hb2w.trans (hb3.mono hb2w.size)
  change wpAnyH _ _ _ _ _ _ _ _ w2.drew
  rw [hw3]
  clear hS
  have hS := hb3w
  refine wpAnyH_take (i := 0) (v := ?v0_101) rfl (by kernel_rfl) (by kernel_rfl) (by kernel_rfl) (fun _ _ _ h => h) (Or.inl ⟨by rfl, ?y0_101⟩) hS ?r0_101
  case y0_101 =>
    rintro W hH
    go_simp
    with_reducible rfl
  simp only [Act.put]
  try simp only [List.getElem_toArray, List.getElem_cons_zero]
  try simp only [List.setIfInBounds_toArray, List.set_cons_succ, List.set_cons_zero]
  refine wpAnyH_take (i := 1) (v := ?v1_102) rfl (by kernel_rfl) (by kernel_rfl) (by kernel_rfl) (fun _ _ _ h => h) (Or.inl ⟨by rfl, ?y1_102⟩) hS ?r1_102
  case y1_102 =>
    rintro W hH
    go_simp
    with_reducible rfl
  simp only [Act.put]
  try simp only [List.getElem_toArray, List.getElem_cons_succ, List.getElem_cons_zero]
  try simp only [List.setIfInBounds_toArray, List.set_cons_succ, List.set_cons_zero]
  refine wpAnyH_take (i := 2) (v := ?v2_103) rfl (by kernel_rfl) (by kernel_rfl) (by kernel_rfl) (fun _ _ _ h => h) (Or.inl ⟨by rfl, ?y2_103⟩) hS ?r2_103
  case y2_103 =>
    rintro W hH
    go_simp
    with_reducible rfl
  simp only [Act.put]
  try simp only [List.getElem_toArray, List.getElem_cons_succ, List.getElem_cons_zero]
  try simp only [List.setIfInBounds_toArray, List.set_cons_succ, List.set_cons_zero]
  refine wpAnyH_take (i := 3) (v := ?v3_104) rfl (by kernel_rfl) (by kernel_rfl) (by kernel_rfl) (fun _ _ _ h => h) (Or.inl ⟨by rfl, ?y3_104⟩) hS ?r3_104
  case y3_104 =>
    rintro W hH
    go_simp
    with_reducible rfl
  simp only [Act.put]
  try simp only [List.getElem_toArray, List.getElem_cons_succ, List.getElem_cons_zero]
  try simp only [List.setIfInBounds_toArray, List.set_cons_succ, List.set_cons_zero]
  refine wpAnyH_take (i := 4) (v := ?v4_105) rfl (by kernel_rfl) (by kernel_rfl) (by kernel_rfl) (fun _ _ _ h => h) (Or.inl ⟨by rfl, ?y4_105⟩) hS ?r4_105
  case y4_105 =>
    rintro W hH
    go_simp
    with_reducible rfl
  simp only [Act.put]
  try simp only [List.getElem_toArray, List.getElem_cons_succ, List.getElem_cons_zero]
  try simp only [List.setIfInBounds_toArray, List.set_cons_succ, List.set_cons_zero]
  refine wpAnyH_take (i := 5) (v := ?v5_106) rfl (by kernel_rfl) (by kernel_rfl) (by kernel_rfl) (fun _ _ _ h => h) (Or.inl ⟨by rfl, ?y5_106⟩) hS ?r5_106
  case y5_106 =>
    rintro W hH
    go_simp
    with_reducible rfl
  simp only [Act.put]
  try simp only [List.getElem_toArray, List.getElem_cons_succ, List.getElem_cons_zero]
  try simp only [List.setIfInBounds_toArray, List.set_cons_succ, List.set_cons_zero]
  refine wpAnyH_take (i := 6) (v := ?v6_107) rfl (by kernel_rfl) (by kernel_rfl) (by kernel_rfl) (fun _ _ _ h => h) (Or.inl ⟨by rfl, ?y6_107⟩) hS ?r6_107
  case y6_107 =>
    rintro W hH
    go_simp
    with_reducible rfl
  simp only [Act.put]
  try simp only [List.getElem_toArray, List.getElem_cons_succ, List.getElem_cons_zero]
  try simp only [List.setIfInBounds_toArray, List.set_cons_succ, List.set_cons_zero]
  refine wpAnyH_done (by kernel_rfl) ?_ _
  go_wp2_with fail
  go_ret3
  exact ⟨_, _, _, rfl, HD.out _ hb3w, hb3w⟩
theorem list_two (A : Option Addr) (n c : Nat) (b : List Int) (most : Int) (w : World) (hB : SlI w w.heap.size .u8 A n c b) (hb8 : Byte8 b) (hn : n ≤ 1000) :
    Calls Tryd.prog 144 #[.slice A n c, .func (.func 143) #[] #[], .int .i64 most] w (ListPost w (if b.length < 3 then 0 else wordP b 0) (b.drop 3) (decide (3 ≤ b.length) && listF (2 * wordP b 0) most b)) := by
  have hl := hB.1
  by_cases h3 : n < 3
  · have h := list_short 143 A n c most w h3
    rw [if_pos (by omega), List.drop_eq_nil_of_le (by omega), decide_eq_false (show ¬ 3 ≤ b.length by omega)]
    exact h
  obtain ⟨g, off, rfl, _⟩ := hB.some_ (by omega)
  rw [if_neg (by omega), decide_eq_true (show 3 ≤ b.length by omega), Bool.true_and]
  unfold listF
  cases hf : fitP (wordP b 0) most with
  | false => exact list_two_n g off n c b most w hB hb8 hn (by omega) _ rfl hf
  | true =>
    cases hx : (b.getD 2 0 == (2 * wordP b 0)) with
    | false => exact list_two_x g off n c b most w hB hb8 hn (by omega) _ rfl hf hx
    | true => rw [hl]; exact list_two_y g off n c b most w hB hb8 hn (by omega) _ rfl hf hx
theorem list_bits (A : Option Addr) (n c : Nat) (b : List Int) (most : Int) (w : World) (hB : SlI w w.heap.size .u8 A n c b) (hb8 : Byte8 b) (hn : n ≤ 1000) :
    Calls Tryd.prog 144 #[.slice A n c, .func (.func 145) #[] #[], .int .i64 most] w (ListPost w (if b.length < 3 then 0 else wordP b 0) (b.drop 3) (decide (3 ≤ b.length) && listF ((wordP b 0 + 7) / 8) most b)) := by
  have hl := hB.1
  by_cases h3 : n < 3
  · have h := list_short 145 A n c most w h3
    rw [if_pos (by omega), List.drop_eq_nil_of_le (by omega), decide_eq_false (show ¬ 3 ≤ b.length by omega)]
    exact h
  obtain ⟨g, off, rfl, _⟩ := hB.some_ (by omega)
  rw [if_neg (by omega), decide_eq_true (show 3 ≤ b.length by omega), Bool.true_and]
  unfold listF
  cases hf : fitP (wordP b 0) most with
  | false => exact list_bits_n g off n c b most w hB hb8 hn (by omega) _ rfl hf
  | true =>
    cases hx : (b.getD 2 0 == ((wordP b 0 + 7) / 8)) with
    | false => exact list_bits_x g off n c b most w hB hb8 hn (by omega) _ rfl hf hx
    | true => rw [hl]; exact list_bits_y g off n c b most w hB hb8 hn (by omega) _ rfl hf hx
end Go.Proofs.YtcipleanckeoaaaDoor
