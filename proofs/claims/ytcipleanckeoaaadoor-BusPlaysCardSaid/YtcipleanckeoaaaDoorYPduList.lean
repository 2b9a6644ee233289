/- pdu.list: how many, how many bytes, and these. -/
import Derived.Test.YtcipleanckeoaaaDoorYTk
import Derived.Test.YtcipleanckeoaaaDoorYPduWords
import Derived.Test.YtcipleanckeoaaaDoorYPduBase
import Derived.Deep.Cut
open List renaming getElem_toArray → zA, getElem_cons_zero → zB, setIfInBounds_toArray → zC, set_cons_succ → zD, set_cons_zero → zE, getElem_cons_succ → zF
set_option maxRecDepth 100000
set_option maxHeartbeats 40000000
namespace Go.Proofs.YtcipleanckeoaaaDoor
open Go.RowKit
set_option linter.unusedVariables false
theorem words2 (b : List Int) (h : 2 ≤ b.length) : wordsP (b.take 2) = [wordP b 0] := by
 have e : (b.take 2).length = 2 := by rw [List.length_take]; omega
 unfold wordsP
 rw [e]
 simp [wordP, List.getD, List.getElem?_take]
theorem head_word (A : Option Addr) (n c : Nat) (b : List Int) (h3 : 2 ≤ n) (w : World) (hB : SlI w w.heap.size .u8 A n c b) (hb8 : Byte8 b) :
  Calls Tryd.prog 142 #[.slice A 2 c] w fun e w' => ∃ g o k, e = .returned (.slice (some ⟨g, o, none⟩) 1 k) ∧ w'.cell? ⟨g, o, none⟩ = some (.int .i64 (wordP b 0)) ∧ Below w.heap.size w w' := by
 have hl := hB.1
 refine (pwords_any A 2 c (b.take 2) (by omega) w (hB.take 2 h3) (fun x hx => hb8 x (List.mem_of_mem_take hx))).mono ?_
 rintro e w' ⟨A', c', rfl, hs, _, hb⟩
 rw [words2 b (by omega)] at hs
 obtain ⟨g, off, rfl, _, hc⟩ := hs.2.2.2.2 (by simp)
 exact ⟨g, off, c', rfl, hc 0 _ rfl, hb⟩
theorem size_two (k : Int) (h0 : 0 ≤ k) (h1 : k < 65536) (w : World) : Calls Tryd.prog 143 #[.int .i64 k] w fun e w' => e = .returned (.int .i64 (2 * k)) ∧ w = w' := by
 have e1 : IntKind.i64.wrap (2 * k) = 2 * k := IntWalk.i64_in _ (by omega)
 go_in
 go_wp2
 go_ret
 exact ⟨rfl, rfl⟩
theorem size_bits (k : Int) (h0 : 0 ≤ k) (h1 : k < 65536) (w : World) : Calls Tryd.prog 145 #[.int .i64 k] w fun e w' => e = .returned (.int .i64 ((k + 7) / 8)) ∧ w = w' := by
 have e1 : IntKind.i64.wrap (k + 7) = k + 7 := IntWalk.i64_in _ (by omega)
 have e2 : (k + 7).tdiv 8 = (k + 7) / 8 := Int.tdiv_eq_ediv_of_nonneg (by omega)
 have e3 : IntKind.i64.wrap ((k + 7) / 8) = (k + 7) / 8 := IntWalk.i64_in _ (by omega)
 go_in
 go_wp2
 go_ret
 exact ⟨rfl, rfl⟩
def listF (z most : Int) (b : List Int) : Bool := fitP (wordP b 0) most && (b.getD 2 0 == z) && ((b.length : Int) == 3 + z)
def ListPost (w : World) (N : Int) (rest : List Int) (fine : Bool) (e : Ending) (w' : World) : Prop := ∃ A m c, e = .returned (.tuple #[.int .i64 N, .slice A m c, .bool fine]) ∧ SlI w' w'.heap.size .u8 A m c rest ∧ Below w.heap.size w w'
theorem list_short (f : Nat) (A : Option Addr) (n c : Nat) (most : Int) (w : World) (hn : n < 3) : Calls Tryd.prog 144 #[.slice A n c, .func (.func f) #[] #[], .int .i64 most] w (ListPost w 0 [] false) := by
 have h : (n : Int) < 3 := by omega
 go_in
 go_wp2
 go_ret3
 exact ⟨none, 0, 0, rfl, SlI.nil _ _ _, Below.refl _ _⟩
theorem wordP_in0 (b : List Int) (hb : Byte8 b) (h : 2 ≤ b.length) : 0 ≤ wordP b 0 ∧ wordP b 0 < 65536 := by
 have a1 := hb _ (List.getElem_mem (show 0 < b.length by omega))
 have a2 := hb _ (List.getElem_mem (show 1 < b.length by omega))
 have b1 : b.getD 0 0 = b[0]'(by omega) := by simp [List.getD, show 0 < b.length by omega]
 have b2 : b.getD (0 + 1) 0 = b[1]'(by omega) := by simp [List.getD, show 1 < b.length by omega]
 unfold wordP
 rw [b1, b2]
 omega
theorem list_two_n (g off n c : Nat) (b : List Int) (most : Int) (w : World) (hB : SlI w w.heap.size .u8 (some ⟨g, off, none⟩) n c b) (hb8 : Byte8 b) (hn : n ≤ 1000) (hn3 : 3 ≤ n) (z : Int) (hz : z = 2 * wordP b 0) (hf : fitP (wordP b 0) most = false) :
  Calls Tryd.prog 144 #[.slice (some ⟨g, off, none⟩) n c, .func (.func 143) #[] #[], .int .i64 most] w (ListPost w (wordP b 0) (b.drop 3) false) := by
 have HW := Lib.hid (head_word (some ⟨g, off, none⟩) n c b (by omega) w hB hb8)
 have hl := hB.1
 obtain ⟨N0, N1⟩ := wordP_in0 b hb8 (by omega)
 obtain ⟨N, hN⟩ : ∃ N, wordP b 0 = N := ⟨_, rfl⟩
 obtain ⟨x2, hx2⟩ : ∃ x, b[2]? = some x := ⟨_, List.getElem?_eq_getElem (by omega)⟩
 obtain ⟨x20, x21⟩ := hb8 x2 (List.mem_of_getElem? hx2)
 have gx2 : b.getD 2 0 = x2 := by rw [List.getD, hx2]; rfl
 rw [hN] at HW N0 N1 hz hf
 skip
 rw [hN]
 have HSZ : Hid (∀ X, Calls Tryd.prog 143 #[.int .i64 N] X fun e w' => e = .returned (.int .i64 z) ∧ X = w') := Lib.hid (fun X => by rw [hz]; exact size_two N N0 N1 X)
 have hz0 : 0 ≤ z := by omega
 have hz1 : z ≤ 200000 := by omega
 have HF : Hid (∀ X, Calls Tryd.prog 99 #[.int .i64 N, .int .i64 most] X fun e w' => e = .returned (.bool false) ∧ X = w') := Lib.hid (fun X => by rw [← hf]; exact fits_own N most X)
 have HB := Lib.hid (fun (X : World) (h : Below w.heap.size w X) => hB.up h)
 have HC := Lib.hid (fun (X : World) (h : Below w.heap.size w X) => (by
  obtain ⟨g', o', e, hlt, hc⟩ := (hB.up h).2.2.2.2 (by rw [hl]; omega)
  injection e with e
  injection e with e1 e2
  subst e1 e2
  exact hc 2 x2 hx2 : X.cell? ⟨g, off + 2, none⟩ = some (.int .u8 x2)))
 have hcn := hB.2.1
 have hn3' : ¬ (n : Int) < 3 := by omega
 have h2n : 2 < n := by omega
 have h2n' : (2 : Int) < (n : Int) := by omega
 have h2c : 2 ≤ c := by omega
 have h2c' : (2 : Int) ≤ (c : Int) := by omega
 have h3n' : (3 : Int) ≤ (n : Int) := by omega
 have wx : IntKind.i64.wrap x2 = x2 := IntWalk.i64_in _ (by omega)
 have wz : IntKind.i64.wrap (3 + z) = 3 + z := IntWalk.i64_in _ (by omega)
 obtain ⟨AD, hAD⟩ : ∃ X, (if c = 3 then some (⟨g, off, none⟩ : Addr) else some ⟨g, off + 3, none⟩) = X := ⟨_, rfl⟩
 have HD : Hid (∀ X, Below w.heap.size w X → SlI X X.heap.size .u8 AD (n - 3) (c - 3) (b.drop 3)) := Lib.hid (fun X h => by
  rw [← hAD]
  split
  ·have e1 : n - 3 = 0 := by omega
   have e2 : c - 3 = 0 := by omega
   rw [List.drop_eq_nil_of_le (by omega), e1, e2]
   exact ⟨rfl, by omega, by omega, (fun e => by cases e), RdI.nil⟩
  ·exact (hB.up h).drop 3 (by omega))
 clear hB hz hN hx2 gx2 hb8 hf hl
 go_in
 go_wp2_with (go_at_call 142; (with_reducible refine HW.out.mono ?_); rintro e w1 ⟨g1, o1, k1, rfl, hc1, hb1⟩)
 obtain ⟨w2, hw2⟩ : ∃ W : World, w1.drew = W := ⟨_, rfl⟩
 have hb2 := zB3 hw2
 have hb2w := hb1.trans (hb2.mono hb1.size)
 refine wp_region_held (S := Below w.heap.size w) (by kernel_rfl) ?_
 change wpAnyH _ _ _ _ _ _ _ _ w1.drew
 rw [hw2]
 have hS := hb2w
 refine zU 0 rfl hS ?_ (hy := fun W hH => by
  have hcx := HC.out W hH
  go_simp
  with_reducible rfl)
 refine zU 1 rfl hS ?_ (hy := fun W hH => by
  have hcx := HC.out W hH
  go_simp
  with_reducible rfl)
 refine zR 2 rfl (fun K' hK' => ?_)
 go_simp
 refine (HF.out _).mono ?_
 rintro e w' ⟨rfl, rfl⟩
 go_simp
 refine hK'.out _ _ hS (fun hS => ?_)
 clear hK' K'
 refine zU 3 rfl hS ?_ (hy := fun W hH => by
  have hcx := HC.out W hH
  go_simp
  with_reducible rfl)
 refine zN 4 rfl hS ?_
 simp only [Act.put, zA, zF, zB, zC, zD, zE]
 refine zN 5 rfl hS ?_
 simp only [Act.put, zA, zF, zB, zC, zD, zE]
 refine zN 6 rfl hS ?_
 simp only [Act.put, zA, zF, zB, zC, zD, zE]
 refine zN 7 rfl hS ?_
 simp only [Act.put, zA, zF, zB, zC, zD, zE]
 refine zN 8 rfl hS ?_
 simp only [Act.put, zA, zF, zB, zC, zD, zE]
 refine zN 9 rfl hS ?_
 simp only [Act.put, zA, zF, zB, zC, zD, zE]
 refine zN 10 rfl hS ?_
 simp only [Act.put, zA, zF, zB, zC, zD, zE]
 refine zN 11 rfl hS ?_
 simp only [Act.put, zA, zF, zB, zC, zD, zE]
 refine zU 12 rfl hS ?_ (hy := fun W hH => by
  have hcx := HC.out W hH
  go_simp
  with_reducible rfl)
 refine zU 13 rfl hS ?_ (hy := fun W hH => by
  have hcx := HC.out W hH
  go_simp
  with_reducible rfl)
 refine zN 14 rfl hS ?_
 simp only [Act.put, zA, zF, zB, zC, zD, zE]
 refine zN 15 rfl hS ?_
 simp only [Act.put, zA, zF, zB, zC, zD, zE]
 refine zN 16 rfl hS ?_
 simp only [Act.put, zA, zF, zB, zC, zD, zE]
 refine zN 17 rfl hS ?_
 simp only [Act.put, zA, zF, zB, zC, zD, zE]
 refine zN 18 rfl hS ?_
 simp only [Act.put, zA, zF, zB, zC, zD, zE]
 refine zN 19 rfl hS ?_
 simp only [Act.put, zA, zF, zB, zC, zD, zE]
 refine zN 20 rfl hS ?_
 simp only [Act.put, zA, zF, zB, zC, zD, zE]
 refine zU 21 rfl hS ?_ (hy := fun W hH => by
  have hcx := HC.out W hH
  go_simp
  with_reducible rfl)
 refine zU 22 rfl hS ?_ (hy := fun W hH => by
  have hcx := HC.out W hH
  go_simp
  with_reducible rfl)
 refine wpAnyH_done (by kernel_rfl) ?_ _
 go_wp2_with fail
 refine wp_region_held (S := Below w.heap.size w) (by kernel_rfl) ?_
 obtain ⟨w3, hw3⟩ : ∃ W : World, w2.drew = W := ⟨_, rfl⟩
 have hb3 := zB3 hw3
 have hb3w := hb2w.trans (hb3.mono hb2w.size)
 change wpAnyH _ _ _ _ _ _ _ _ w2.drew
 rw [hw3]
 clear hS
 have hS := hb3w
 refine zU 0 rfl hS ?_
 refine zU 1 rfl hS ?_
 refine zU 2 rfl hS ?_
 refine zU 3 rfl hS ?_
 refine zU 4 rfl hS ?_
 refine zU 5 rfl hS ?_
 refine zU 6 rfl hS ?_
 refine wpAnyH_done (by kernel_rfl) ?_ _
 go_wp2_with fail
 go_ret3
 exact ⟨_, _, _, rfl, HD.out _ hb3w, hb3w⟩
theorem list_two_x (g off n c : Nat) (b : List Int) (most : Int) (w : World) (hB : SlI w w.heap.size .u8 (some ⟨g, off, none⟩) n c b) (hb8 : Byte8 b) (hn : n ≤ 1000) (hn3 : 3 ≤ n) (z : Int) (hz : z = 2 * wordP b 0) (hf : fitP (wordP b 0) most = true) (hx : (b.getD 2 0 == z) = false) :
  Calls Tryd.prog 144 #[.slice (some ⟨g, off, none⟩) n c, .func (.func 143) #[] #[], .int .i64 most] w (ListPost w (wordP b 0) (b.drop 3) false) := by
 have HW := Lib.hid (head_word (some ⟨g, off, none⟩) n c b (by omega) w hB hb8)
 have hl := hB.1
 obtain ⟨N0, N1⟩ := wordP_in0 b hb8 (by omega)
 obtain ⟨N, hN⟩ : ∃ N, wordP b 0 = N := ⟨_, rfl⟩
 obtain ⟨x2, hx2⟩ : ∃ x, b[2]? = some x := ⟨_, List.getElem?_eq_getElem (by omega)⟩
 obtain ⟨x20, x21⟩ := hb8 x2 (List.mem_of_getElem? hx2)
 have gx2 : b.getD 2 0 = x2 := by rw [List.getD, hx2]; rfl
 rw [hN] at HW N0 N1 hz hf
 rw [gx2] at hx
 rw [hN]
 have HSZ : Hid (∀ X, Calls Tryd.prog 143 #[.int .i64 N] X fun e w' => e = .returned (.int .i64 z) ∧ X = w') := Lib.hid (fun X => by rw [hz]; exact size_two N N0 N1 X)
 have hz0 : 0 ≤ z := by omega
 have hz1 : z ≤ 200000 := by omega
 have HF : Hid (∀ X, Calls Tryd.prog 99 #[.int .i64 N, .int .i64 most] X fun e w' => e = .returned (.bool true) ∧ X = w') := Lib.hid (fun X => by rw [← hf]; exact fits_own N most X)
 have HB := Lib.hid (fun (X : World) (h : Below w.heap.size w X) => hB.up h)
 have HC := Lib.hid (fun (X : World) (h : Below w.heap.size w X) => (by
  obtain ⟨g', o', e, hlt, hc⟩ := (hB.up h).2.2.2.2 (by rw [hl]; omega)
  injection e with e
  injection e with e1 e2
  subst e1 e2
  exact hc 2 x2 hx2 : X.cell? ⟨g, off + 2, none⟩ = some (.int .u8 x2)))
 have hcn := hB.2.1
 have hn3' : ¬ (n : Int) < 3 := by omega
 have h2n : 2 < n := by omega
 have h2n' : (2 : Int) < (n : Int) := by omega
 have h2c : 2 ≤ c := by omega
 have h2c' : (2 : Int) ≤ (c : Int) := by omega
 have h3n' : (3 : Int) ≤ (n : Int) := by omega
 have wx : IntKind.i64.wrap x2 = x2 := IntWalk.i64_in _ (by omega)
 have wz : IntKind.i64.wrap (3 + z) = 3 + z := IntWalk.i64_in _ (by omega)
 obtain ⟨AD, hAD⟩ : ∃ X, (if c = 3 then some (⟨g, off, none⟩ : Addr) else some ⟨g, off + 3, none⟩) = X := ⟨_, rfl⟩
 have HD : Hid (∀ X, Below w.heap.size w X → SlI X X.heap.size .u8 AD (n - 3) (c - 3) (b.drop 3)) := Lib.hid (fun X h => by
  rw [← hAD]
  split
  ·have e1 : n - 3 = 0 := by omega
   have e2 : c - 3 = 0 := by omega
   rw [List.drop_eq_nil_of_le (by omega), e1, e2]
   exact ⟨rfl, by omega, by omega, (fun e => by cases e), RdI.nil⟩
  ·exact (hB.up h).drop 3 (by omega))
 clear hB hz hN hx2 gx2 hb8 hf hl
 go_in
 go_wp2_with (go_at_call 142; (with_reducible refine HW.out.mono ?_); rintro e w1 ⟨g1, o1, k1, rfl, hc1, hb1⟩)
 obtain ⟨w2, hw2⟩ : ∃ W : World, w1.drew = W := ⟨_, rfl⟩
 have hb2 := zB3 hw2
 have hb2w := hb1.trans (hb2.mono hb1.size)
 refine wp_region_held (S := Below w.heap.size w) (by kernel_rfl) ?_
 change wpAnyH _ _ _ _ _ _ _ _ w1.drew
 rw [hw2]
 have hS := hb2w
 refine zU 0 rfl hS ?_ (hy := fun W hH => by
  have hcx := HC.out W hH
  go_simp
  with_reducible rfl)
 refine zU 1 rfl hS ?_ (hy := fun W hH => by
  have hcx := HC.out W hH
  go_simp
  with_reducible rfl)
 refine zR 2 rfl (fun K' hK' => ?_)
 go_simp
 refine (HF.out _).mono ?_
 rintro e w' ⟨rfl, rfl⟩
 go_simp
 refine hK'.out _ _ hS (fun hS => ?_)
 clear hK' K'
 refine zU 3 rfl hS ?_ (hy := fun W hH => by
  have hcx := HC.out W hH
  go_simp
  with_reducible rfl)
 refine zU 4 rfl hS ?_ (hy := fun W hH => by
  have hcx := HC.out W hH
  go_simp
  with_reducible rfl)
 refine zU 5 rfl hS ?_ (hy := fun W hH => by
  have hcx := HC.out W hH
  go_simp
  with_reducible rfl)
 refine zU 6 rfl hS ?_ (hy := fun W hH => by
  have hcx := HC.out W hH
  go_simp
  with_reducible rfl)
 refine zU 7 rfl hS ?_ (hy := fun W hH => by
  have hcx := HC.out W hH
  go_simp
  with_reducible rfl)
 refine zU 8 rfl hS ?_ (hy := fun W hH => by
  have hcx := HC.out W hH
  go_simp
  with_reducible rfl)
 refine zU 9 rfl hS ?_ (hy := fun W hH => by
  have hcx := HC.out W hH
  go_simp
  with_reducible rfl)
 refine zR 10 rfl (fun K' hK' => ?_)
 go_simp
 refine (HSZ.out _).mono ?_
 rintro e w' ⟨rfl, rfl⟩
 go_simp
 refine hK'.out _ _ hS (fun hS => ?_)
 clear hK' K'
 refine zU 11 rfl hS ?_ (hy := fun W hH => by
  have hcx := HC.out W hH
  go_simp
  with_reducible rfl)
 refine zU 12 rfl hS ?_ (hy := fun W hH => by
  have hcx := HC.out W hH
  go_simp
  with_reducible rfl)
 refine zU 13 rfl hS ?_ (hy := fun W hH => by
  have hcx := HC.out W hH
  go_simp
  with_reducible rfl)
 refine zN 14 rfl hS ?_
 simp only [Act.put, zA, zF, zB, zC, zD, zE]
 refine zN 15 rfl hS ?_
 simp only [Act.put, zA, zF, zB, zC, zD, zE]
 refine zN 16 rfl hS ?_
 simp only [Act.put, zA, zF, zB, zC, zD, zE]
 refine zN 17 rfl hS ?_
 simp only [Act.put, zA, zF, zB, zC, zD, zE]
 refine zN 18 rfl hS ?_
 simp only [Act.put, zA, zF, zB, zC, zD, zE]
 refine zN 19 rfl hS ?_
 simp only [Act.put, zA, zF, zB, zC, zD, zE]
 refine zN 20 rfl hS ?_
 simp only [Act.put, zA, zF, zB, zC, zD, zE]
 refine zU 21 rfl hS ?_ (hy := fun W hH => by
  have hcx := HC.out W hH
  go_simp
  with_reducible rfl)
 refine zU 22 rfl hS ?_ (hy := fun W hH => by
  have hcx := HC.out W hH
  go_simp
  with_reducible rfl)
 refine wpAnyH_done (by kernel_rfl) ?_ _
 go_wp2_with fail
 refine wp_region_held (S := Below w.heap.size w) (by kernel_rfl) ?_
 obtain ⟨w3, hw3⟩ : ∃ W : World, w2.drew = W := ⟨_, rfl⟩
 have hb3 := zB3 hw3
 have hb3w := hb2w.trans (hb3.mono hb2w.size)
 change wpAnyH _ _ _ _ _ _ _ _ w2.drew
 rw [hw3]
 clear hS
 have hS := hb3w
 refine zU 0 rfl hS ?_
 refine zU 1 rfl hS ?_
 refine zU 2 rfl hS ?_
 refine zU 3 rfl hS ?_
 refine zU 4 rfl hS ?_
 refine zU 5 rfl hS ?_
 refine zU 6 rfl hS ?_
 refine wpAnyH_done (by kernel_rfl) ?_ _
 go_wp2_with fail
 go_ret3
 exact ⟨_, _, _, rfl, HD.out _ hb3w, hb3w⟩
theorem list_two_y (g off n c : Nat) (b : List Int) (most : Int) (w : World) (hB : SlI w w.heap.size .u8 (some ⟨g, off, none⟩) n c b) (hb8 : Byte8 b) (hn : n ≤ 1000) (hn3 : 3 ≤ n) (z : Int) (hz : z = 2 * wordP b 0) (hf : fitP (wordP b 0) most = true) (hx : (b.getD 2 0 == z) = true) :
  Calls Tryd.prog 144 #[.slice (some ⟨g, off, none⟩) n c, .func (.func 143) #[] #[], .int .i64 most] w (ListPost w (wordP b 0) (b.drop 3) ((n : Int) == 3 + z)) := by
 have HW := Lib.hid (head_word (some ⟨g, off, none⟩) n c b (by omega) w hB hb8)
 have hl := hB.1
 obtain ⟨N0, N1⟩ := wordP_in0 b hb8 (by omega)
 obtain ⟨N, hN⟩ : ∃ N, wordP b 0 = N := ⟨_, rfl⟩
 obtain ⟨x2, hx2⟩ : ∃ x, b[2]? = some x := ⟨_, List.getElem?_eq_getElem (by omega)⟩
 obtain ⟨x20, x21⟩ := hb8 x2 (List.mem_of_getElem? hx2)
 have gx2 : b.getD 2 0 = x2 := by rw [List.getD, hx2]; rfl
 rw [hN] at HW N0 N1 hz hf
 rw [gx2] at hx
 rw [hN]
 have HSZ : Hid (∀ X, Calls Tryd.prog 143 #[.int .i64 N] X fun e w' => e = .returned (.int .i64 z) ∧ X = w') := Lib.hid (fun X => by rw [hz]; exact size_two N N0 N1 X)
 have hz0 : 0 ≤ z := by omega
 have hz1 : z ≤ 200000 := by omega
 have HF : Hid (∀ X, Calls Tryd.prog 99 #[.int .i64 N, .int .i64 most] X fun e w' => e = .returned (.bool true) ∧ X = w') := Lib.hid (fun X => by rw [← hf]; exact fits_own N most X)
 have HB := Lib.hid (fun (X : World) (h : Below w.heap.size w X) => hB.up h)
 have HC := Lib.hid (fun (X : World) (h : Below w.heap.size w X) => (by
  obtain ⟨g', o', e, hlt, hc⟩ := (hB.up h).2.2.2.2 (by rw [hl]; omega)
  injection e with e
  injection e with e1 e2
  subst e1 e2
  exact hc 2 x2 hx2 : X.cell? ⟨g, off + 2, none⟩ = some (.int .u8 x2)))
 have hcn := hB.2.1
 have hn3' : ¬ (n : Int) < 3 := by omega
 have h2n : 2 < n := by omega
 have h2n' : (2 : Int) < (n : Int) := by omega
 have h2c : 2 ≤ c := by omega
 have h2c' : (2 : Int) ≤ (c : Int) := by omega
 have h3n' : (3 : Int) ≤ (n : Int) := by omega
 have wx : IntKind.i64.wrap x2 = x2 := IntWalk.i64_in _ (by omega)
 have wz : IntKind.i64.wrap (3 + z) = 3 + z := IntWalk.i64_in _ (by omega)
 obtain ⟨AD, hAD⟩ : ∃ X, (if c = 3 then some (⟨g, off, none⟩ : Addr) else some ⟨g, off + 3, none⟩) = X := ⟨_, rfl⟩
 have HD : Hid (∀ X, Below w.heap.size w X → SlI X X.heap.size .u8 AD (n - 3) (c - 3) (b.drop 3)) := Lib.hid (fun X h => by
  rw [← hAD]
  split
  ·have e1 : n - 3 = 0 := by omega
   have e2 : c - 3 = 0 := by omega
   rw [List.drop_eq_nil_of_le (by omega), e1, e2]
   exact ⟨rfl, by omega, by omega, (fun e => by cases e), RdI.nil⟩
  ·exact (hB.up h).drop 3 (by omega))
 clear hB hz hN hx2 gx2 hb8 hf hl
 go_in
 go_wp2_with (go_at_call 142; (with_reducible refine HW.out.mono ?_); rintro e w1 ⟨g1, o1, k1, rfl, hc1, hb1⟩)
 obtain ⟨w2, hw2⟩ : ∃ W : World, w1.drew = W := ⟨_, rfl⟩
 have hb2 := zB3 hw2
 have hb2w := hb1.trans (hb2.mono hb1.size)
 refine wp_region_held (S := Below w.heap.size w) (by kernel_rfl) ?_
 change wpAnyH _ _ _ _ _ _ _ _ w1.drew
 rw [hw2]
 have hS := hb2w
 refine zU 0 rfl hS ?_ (hy := fun W hH => by
  have hcx := HC.out W hH
  go_simp
  with_reducible rfl)
 refine zU 1 rfl hS ?_ (hy := fun W hH => by
  have hcx := HC.out W hH
  go_simp
  with_reducible rfl)
 refine zR 2 rfl (fun K' hK' => ?_)
 go_simp
 refine (HF.out _).mono ?_
 rintro e w' ⟨rfl, rfl⟩
 go_simp
 refine hK'.out _ _ hS (fun hS => ?_)
 clear hK' K'
 refine zU 3 rfl hS ?_ (hy := fun W hH => by
  have hcx := HC.out W hH
  go_simp
  with_reducible rfl)
 refine zU 4 rfl hS ?_ (hy := fun W hH => by
  have hcx := HC.out W hH
  go_simp
  with_reducible rfl)
 refine zU 5 rfl hS ?_ (hy := fun W hH => by
  have hcx := HC.out W hH
  go_simp
  with_reducible rfl)
 refine zU 6 rfl hS ?_ (hy := fun W hH => by
  have hcx := HC.out W hH
  go_simp
  with_reducible rfl)
 refine zU 7 rfl hS ?_ (hy := fun W hH => by
  have hcx := HC.out W hH
  go_simp
  with_reducible rfl)
 refine zU 8 rfl hS ?_ (hy := fun W hH => by
  have hcx := HC.out W hH
  go_simp
  with_reducible rfl)
 refine zU 9 rfl hS ?_ (hy := fun W hH => by
  have hcx := HC.out W hH
  go_simp
  with_reducible rfl)
 refine zR 10 rfl (fun K' hK' => ?_)
 go_simp
 refine (HSZ.out _).mono ?_
 rintro e w' ⟨rfl, rfl⟩
 go_simp
 refine hK'.out _ _ hS (fun hS => ?_)
 clear hK' K'
 refine zU 11 rfl hS ?_ (hy := fun W hH => by
  have hcx := HC.out W hH
  go_simp
  with_reducible rfl)
 refine zU 12 rfl hS ?_ (hy := fun W hH => by
  have hcx := HC.out W hH
  go_simp
  with_reducible rfl)
 refine zU 13 rfl hS ?_ (hy := fun W hH => by
  have hcx := HC.out W hH
  go_simp
  with_reducible rfl)
 refine zU 14 rfl hS ?_ (hy := fun W hH => by
  have hcx := HC.out W hH
  go_simp
  with_reducible rfl)
 refine zU 15 rfl hS ?_ (hy := fun W hH => by
  have hcx := HC.out W hH
  go_simp
  with_reducible rfl)
 refine zU 16 rfl hS ?_ (hy := fun W hH => by
  have hcx := HC.out W hH
  go_simp
  with_reducible rfl)
 refine zU 17 rfl hS ?_ (hy := fun W hH => by
  have hcx := HC.out W hH
  go_simp
  with_reducible rfl)
 refine zR 18 rfl (fun K' hK' => ?_)
 go_simp
 refine (HSZ.out _).mono ?_
 rintro e w' ⟨rfl, rfl⟩
 go_simp
 refine hK'.out _ _ hS (fun hS => ?_)
 clear hK' K'
 refine zU 19 rfl hS ?_ (hy := fun W hH => by
  have hcx := HC.out W hH
  go_simp
  with_reducible rfl)
 refine zU 20 rfl hS ?_ (hy := fun W hH => by
  have hcx := HC.out W hH
  go_simp
  with_reducible rfl)
 refine zU 21 rfl hS ?_ (hy := fun W hH => by
  have hcx := HC.out W hH
  go_simp
  with_reducible rfl)
 refine zU 22 rfl hS ?_ (hy := fun W hH => by
  have hcx := HC.out W hH
  go_simp
  with_reducible rfl)
 refine wpAnyH_done (by kernel_rfl) ?_ _
 go_wp2_with fail
 refine wp_region_held (S := Below w.heap.size w) (by kernel_rfl) ?_
 obtain ⟨w3, hw3⟩ : ∃ W : World, w2.drew = W := ⟨_, rfl⟩
 have hb3 := zB3 hw3
 have hb3w := hb2w.trans (hb3.mono hb2w.size)
 change wpAnyH _ _ _ _ _ _ _ _ w2.drew
 rw [hw3]
 clear hS
 have hS := hb3w
 refine zU 0 rfl hS ?_
 refine zU 1 rfl hS ?_
 refine zU 2 rfl hS ?_
 refine zU 3 rfl hS ?_
 refine zU 4 rfl hS ?_
 refine zU 5 rfl hS ?_
 refine zU 6 rfl hS ?_
 refine wpAnyH_done (by kernel_rfl) ?_ _
 go_wp2_with fail
 go_ret3
 exact ⟨_, _, _, rfl, HD.out _ hb3w, hb3w⟩
theorem list_bits_n (g off n c : Nat) (b : List Int) (most : Int) (w : World) (hB : SlI w w.heap.size .u8 (some ⟨g, off, none⟩) n c b) (hb8 : Byte8 b) (hn : n ≤ 1000) (hn3 : 3 ≤ n) (z : Int) (hz : z = (wordP b 0 + 7) / 8) (hf : fitP (wordP b 0) most = false) :
  Calls Tryd.prog 144 #[.slice (some ⟨g, off, none⟩) n c, .func (.func 145) #[] #[], .int .i64 most] w (ListPost w (wordP b 0) (b.drop 3) false) := by
 have HW := Lib.hid (head_word (some ⟨g, off, none⟩) n c b (by omega) w hB hb8)
 have hl := hB.1
 obtain ⟨N0, N1⟩ := wordP_in0 b hb8 (by omega)
 obtain ⟨N, hN⟩ : ∃ N, wordP b 0 = N := ⟨_, rfl⟩
 obtain ⟨x2, hx2⟩ : ∃ x, b[2]? = some x := ⟨_, List.getElem?_eq_getElem (by omega)⟩
 obtain ⟨x20, x21⟩ := hb8 x2 (List.mem_of_getElem? hx2)
 have gx2 : b.getD 2 0 = x2 := by rw [List.getD, hx2]; rfl
 rw [hN] at HW N0 N1 hz hf
 skip
 rw [hN]
 have HSZ : Hid (∀ X, Calls Tryd.prog 145 #[.int .i64 N] X fun e w' => e = .returned (.int .i64 z) ∧ X = w') := Lib.hid (fun X => by rw [hz]; exact size_bits N N0 N1 X)
 have hz0 : 0 ≤ z := by omega
 have hz1 : z ≤ 200000 := by omega
 have HF : Hid (∀ X, Calls Tryd.prog 99 #[.int .i64 N, .int .i64 most] X fun e w' => e = .returned (.bool false) ∧ X = w') := Lib.hid (fun X => by rw [← hf]; exact fits_own N most X)
 have HB := Lib.hid (fun (X : World) (h : Below w.heap.size w X) => hB.up h)
 have HC := Lib.hid (fun (X : World) (h : Below w.heap.size w X) => (by
  obtain ⟨g', o', e, hlt, hc⟩ := (hB.up h).2.2.2.2 (by rw [hl]; omega)
  injection e with e
  injection e with e1 e2
  subst e1 e2
  exact hc 2 x2 hx2 : X.cell? ⟨g, off + 2, none⟩ = some (.int .u8 x2)))
 have hcn := hB.2.1
 have hn3' : ¬ (n : Int) < 3 := by omega
 have h2n : 2 < n := by omega
 have h2n' : (2 : Int) < (n : Int) := by omega
 have h2c : 2 ≤ c := by omega
 have h2c' : (2 : Int) ≤ (c : Int) := by omega
 have h3n' : (3 : Int) ≤ (n : Int) := by omega
 have wx : IntKind.i64.wrap x2 = x2 := IntWalk.i64_in _ (by omega)
 have wz : IntKind.i64.wrap (3 + z) = 3 + z := IntWalk.i64_in _ (by omega)
 obtain ⟨AD, hAD⟩ : ∃ X, (if c = 3 then some (⟨g, off, none⟩ : Addr) else some ⟨g, off + 3, none⟩) = X := ⟨_, rfl⟩
 have HD : Hid (∀ X, Below w.heap.size w X → SlI X X.heap.size .u8 AD (n - 3) (c - 3) (b.drop 3)) := Lib.hid (fun X h => by
  rw [← hAD]
  split
  ·have e1 : n - 3 = 0 := by omega
   have e2 : c - 3 = 0 := by omega
   rw [List.drop_eq_nil_of_le (by omega), e1, e2]
   exact ⟨rfl, by omega, by omega, (fun e => by cases e), RdI.nil⟩
  ·exact (hB.up h).drop 3 (by omega))
 clear hB hz hN hx2 gx2 hb8 hf hl
 go_in
 go_wp2_with (go_at_call 142; (with_reducible refine HW.out.mono ?_); rintro e w1 ⟨g1, o1, k1, rfl, hc1, hb1⟩)
 obtain ⟨w2, hw2⟩ : ∃ W : World, w1.drew = W := ⟨_, rfl⟩
 have hb2 := zB3 hw2
 have hb2w := hb1.trans (hb2.mono hb1.size)
 refine wp_region_held (S := Below w.heap.size w) (by kernel_rfl) ?_
 change wpAnyH _ _ _ _ _ _ _ _ w1.drew
 rw [hw2]
 have hS := hb2w
 refine zU 0 rfl hS ?_ (hy := fun W hH => by
  have hcx := HC.out W hH
  go_simp
  with_reducible rfl)
 refine zU 1 rfl hS ?_ (hy := fun W hH => by
  have hcx := HC.out W hH
  go_simp
  with_reducible rfl)
 refine zR 2 rfl (fun K' hK' => ?_)
 go_simp
 refine (HF.out _).mono ?_
 rintro e w' ⟨rfl, rfl⟩
 go_simp
 refine hK'.out _ _ hS (fun hS => ?_)
 clear hK' K'
 refine zU 3 rfl hS ?_ (hy := fun W hH => by
  have hcx := HC.out W hH
  go_simp
  with_reducible rfl)
 refine zN 4 rfl hS ?_
 simp only [Act.put, zA, zF, zB, zC, zD, zE]
 refine zN 5 rfl hS ?_
 simp only [Act.put, zA, zF, zB, zC, zD, zE]
 refine zN 6 rfl hS ?_
 simp only [Act.put, zA, zF, zB, zC, zD, zE]
 refine zN 7 rfl hS ?_
 simp only [Act.put, zA, zF, zB, zC, zD, zE]
 refine zN 8 rfl hS ?_
 simp only [Act.put, zA, zF, zB, zC, zD, zE]
 refine zN 9 rfl hS ?_
 simp only [Act.put, zA, zF, zB, zC, zD, zE]
 refine zN 10 rfl hS ?_
 simp only [Act.put, zA, zF, zB, zC, zD, zE]
 refine zN 11 rfl hS ?_
 simp only [Act.put, zA, zF, zB, zC, zD, zE]
 refine zU 12 rfl hS ?_ (hy := fun W hH => by
  have hcx := HC.out W hH
  go_simp
  with_reducible rfl)
 refine zU 13 rfl hS ?_ (hy := fun W hH => by
  have hcx := HC.out W hH
  go_simp
  with_reducible rfl)
 refine zN 14 rfl hS ?_
 simp only [Act.put, zA, zF, zB, zC, zD, zE]
 refine zN 15 rfl hS ?_
 simp only [Act.put, zA, zF, zB, zC, zD, zE]
 refine zN 16 rfl hS ?_
 simp only [Act.put, zA, zF, zB, zC, zD, zE]
 refine zN 17 rfl hS ?_
 simp only [Act.put, zA, zF, zB, zC, zD, zE]
 refine zN 18 rfl hS ?_
 simp only [Act.put, zA, zF, zB, zC, zD, zE]
 refine zN 19 rfl hS ?_
 simp only [Act.put, zA, zF, zB, zC, zD, zE]
 refine zN 20 rfl hS ?_
 simp only [Act.put, zA, zF, zB, zC, zD, zE]
 refine zU 21 rfl hS ?_ (hy := fun W hH => by
  have hcx := HC.out W hH
  go_simp
  with_reducible rfl)
 refine zU 22 rfl hS ?_ (hy := fun W hH => by
  have hcx := HC.out W hH
  go_simp
  with_reducible rfl)
 refine wpAnyH_done (by kernel_rfl) ?_ _
 go_wp2_with fail
 refine wp_region_held (S := Below w.heap.size w) (by kernel_rfl) ?_
 obtain ⟨w3, hw3⟩ : ∃ W : World, w2.drew = W := ⟨_, rfl⟩
 have hb3 := zB3 hw3
 have hb3w := hb2w.trans (hb3.mono hb2w.size)
 change wpAnyH _ _ _ _ _ _ _ _ w2.drew
 rw [hw3]
 clear hS
 have hS := hb3w
 refine zU 0 rfl hS ?_
 refine zU 1 rfl hS ?_
 refine zU 2 rfl hS ?_
 refine zU 3 rfl hS ?_
 refine zU 4 rfl hS ?_
 refine zU 5 rfl hS ?_
 refine zU 6 rfl hS ?_
 refine wpAnyH_done (by kernel_rfl) ?_ _
 go_wp2_with fail
 go_ret3
 exact ⟨_, _, _, rfl, HD.out _ hb3w, hb3w⟩
theorem list_bits_x (g off n c : Nat) (b : List Int) (most : Int) (w : World) (hB : SlI w w.heap.size .u8 (some ⟨g, off, none⟩) n c b) (hb8 : Byte8 b) (hn : n ≤ 1000) (hn3 : 3 ≤ n) (z : Int) (hz : z = (wordP b 0 + 7) / 8) (hf : fitP (wordP b 0) most = true) (hx : (b.getD 2 0 == z) = false) :
  Calls Tryd.prog 144 #[.slice (some ⟨g, off, none⟩) n c, .func (.func 145) #[] #[], .int .i64 most] w (ListPost w (wordP b 0) (b.drop 3) false) := by
 have HW := Lib.hid (head_word (some ⟨g, off, none⟩) n c b (by omega) w hB hb8)
 have hl := hB.1
 obtain ⟨N0, N1⟩ := wordP_in0 b hb8 (by omega)
 obtain ⟨N, hN⟩ : ∃ N, wordP b 0 = N := ⟨_, rfl⟩
 obtain ⟨x2, hx2⟩ : ∃ x, b[2]? = some x := ⟨_, List.getElem?_eq_getElem (by omega)⟩
 obtain ⟨x20, x21⟩ := hb8 x2 (List.mem_of_getElem? hx2)
 have gx2 : b.getD 2 0 = x2 := by rw [List.getD, hx2]; rfl
 rw [hN] at HW N0 N1 hz hf
 rw [gx2] at hx
 rw [hN]
 have HSZ : Hid (∀ X, Calls Tryd.prog 145 #[.int .i64 N] X fun e w' => e = .returned (.int .i64 z) ∧ X = w') := Lib.hid (fun X => by rw [hz]; exact size_bits N N0 N1 X)
 have hz0 : 0 ≤ z := by omega
 have hz1 : z ≤ 200000 := by omega
 have HF : Hid (∀ X, Calls Tryd.prog 99 #[.int .i64 N, .int .i64 most] X fun e w' => e = .returned (.bool true) ∧ X = w') := Lib.hid (fun X => by rw [← hf]; exact fits_own N most X)
 have HB := Lib.hid (fun (X : World) (h : Below w.heap.size w X) => hB.up h)
 have HC := Lib.hid (fun (X : World) (h : Below w.heap.size w X) => (by
  obtain ⟨g', o', e, hlt, hc⟩ := (hB.up h).2.2.2.2 (by rw [hl]; omega)
  injection e with e
  injection e with e1 e2
  subst e1 e2
  exact hc 2 x2 hx2 : X.cell? ⟨g, off + 2, none⟩ = some (.int .u8 x2)))
 have hcn := hB.2.1
 have hn3' : ¬ (n : Int) < 3 := by omega
 have h2n : 2 < n := by omega
 have h2n' : (2 : Int) < (n : Int) := by omega
 have h2c : 2 ≤ c := by omega
 have h2c' : (2 : Int) ≤ (c : Int) := by omega
 have h3n' : (3 : Int) ≤ (n : Int) := by omega
 have wx : IntKind.i64.wrap x2 = x2 := IntWalk.i64_in _ (by omega)
 have wz : IntKind.i64.wrap (3 + z) = 3 + z := IntWalk.i64_in _ (by omega)
 obtain ⟨AD, hAD⟩ : ∃ X, (if c = 3 then some (⟨g, off, none⟩ : Addr) else some ⟨g, off + 3, none⟩) = X := ⟨_, rfl⟩
 have HD : Hid (∀ X, Below w.heap.size w X → SlI X X.heap.size .u8 AD (n - 3) (c - 3) (b.drop 3)) := Lib.hid (fun X h => by
  rw [← hAD]
  split
  ·have e1 : n - 3 = 0 := by omega
   have e2 : c - 3 = 0 := by omega
   rw [List.drop_eq_nil_of_le (by omega), e1, e2]
   exact ⟨rfl, by omega, by omega, (fun e => by cases e), RdI.nil⟩
  ·exact (hB.up h).drop 3 (by omega))
 clear hB hz hN hx2 gx2 hb8 hf hl
 go_in
 go_wp2_with (go_at_call 142; (with_reducible refine HW.out.mono ?_); rintro e w1 ⟨g1, o1, k1, rfl, hc1, hb1⟩)
 obtain ⟨w2, hw2⟩ : ∃ W : World, w1.drew = W := ⟨_, rfl⟩
 have hb2 := zB3 hw2
 have hb2w := hb1.trans (hb2.mono hb1.size)
 refine wp_region_held (S := Below w.heap.size w) (by kernel_rfl) ?_
 change wpAnyH _ _ _ _ _ _ _ _ w1.drew
 rw [hw2]
 have hS := hb2w
 refine zU 0 rfl hS ?_ (hy := fun W hH => by
  have hcx := HC.out W hH
  go_simp
  with_reducible rfl)
 refine zU 1 rfl hS ?_ (hy := fun W hH => by
  have hcx := HC.out W hH
  go_simp
  with_reducible rfl)
 refine zR 2 rfl (fun K' hK' => ?_)
 go_simp
 refine (HF.out _).mono ?_
 rintro e w' ⟨rfl, rfl⟩
 go_simp
 refine hK'.out _ _ hS (fun hS => ?_)
 clear hK' K'
 refine zU 3 rfl hS ?_ (hy := fun W hH => by
  have hcx := HC.out W hH
  go_simp
  with_reducible rfl)
 refine zU 4 rfl hS ?_ (hy := fun W hH => by
  have hcx := HC.out W hH
  go_simp
  with_reducible rfl)
 refine zU 5 rfl hS ?_ (hy := fun W hH => by
  have hcx := HC.out W hH
  go_simp
  with_reducible rfl)
 refine zU 6 rfl hS ?_ (hy := fun W hH => by
  have hcx := HC.out W hH
  go_simp
  with_reducible rfl)
 refine zU 7 rfl hS ?_ (hy := fun W hH => by
  have hcx := HC.out W hH
  go_simp
  with_reducible rfl)
 refine zU 8 rfl hS ?_ (hy := fun W hH => by
  have hcx := HC.out W hH
  go_simp
  with_reducible rfl)
 refine zU 9 rfl hS ?_ (hy := fun W hH => by
  have hcx := HC.out W hH
  go_simp
  with_reducible rfl)
 refine zR 10 rfl (fun K' hK' => ?_)
 go_simp
 refine (HSZ.out _).mono ?_
 rintro e w' ⟨rfl, rfl⟩
 go_simp
 refine hK'.out _ _ hS (fun hS => ?_)
 clear hK' K'
 refine zU 11 rfl hS ?_ (hy := fun W hH => by
  have hcx := HC.out W hH
  go_simp
  with_reducible rfl)
 refine zU 12 rfl hS ?_ (hy := fun W hH => by
  have hcx := HC.out W hH
  go_simp
  with_reducible rfl)
 refine zU 13 rfl hS ?_ (hy := fun W hH => by
  have hcx := HC.out W hH
  go_simp
  with_reducible rfl)
 refine zN 14 rfl hS ?_
 simp only [Act.put, zA, zF, zB, zC, zD, zE]
 refine zN 15 rfl hS ?_
 simp only [Act.put, zA, zF, zB, zC, zD, zE]
 refine zN 16 rfl hS ?_
 simp only [Act.put, zA, zF, zB, zC, zD, zE]
 refine zN 17 rfl hS ?_
 simp only [Act.put, zA, zF, zB, zC, zD, zE]
 refine zN 18 rfl hS ?_
 simp only [Act.put, zA, zF, zB, zC, zD, zE]
 refine zN 19 rfl hS ?_
 simp only [Act.put, zA, zF, zB, zC, zD, zE]
 refine zN 20 rfl hS ?_
 simp only [Act.put, zA, zF, zB, zC, zD, zE]
 refine zU 21 rfl hS ?_ (hy := fun W hH => by
  have hcx := HC.out W hH
  go_simp
  with_reducible rfl)
 refine zU 22 rfl hS ?_ (hy := fun W hH => by
  have hcx := HC.out W hH
  go_simp
  with_reducible rfl)
 refine wpAnyH_done (by kernel_rfl) ?_ _
 go_wp2_with fail
 refine wp_region_held (S := Below w.heap.size w) (by kernel_rfl) ?_
 obtain ⟨w3, hw3⟩ : ∃ W : World, w2.drew = W := ⟨_, rfl⟩
 have hb3 := zB3 hw3
 have hb3w := hb2w.trans (hb3.mono hb2w.size)
 change wpAnyH _ _ _ _ _ _ _ _ w2.drew
 rw [hw3]
 clear hS
 have hS := hb3w
 refine zU 0 rfl hS ?_
 refine zU 1 rfl hS ?_
 refine zU 2 rfl hS ?_
 refine zU 3 rfl hS ?_
 refine zU 4 rfl hS ?_
 refine zU 5 rfl hS ?_
 refine zU 6 rfl hS ?_
 refine wpAnyH_done (by kernel_rfl) ?_ _
 go_wp2_with fail
 go_ret3
 exact ⟨_, _, _, rfl, HD.out _ hb3w, hb3w⟩
theorem list_bits_y (g off n c : Nat) (b : List Int) (most : Int) (w : World) (hB : SlI w w.heap.size .u8 (some ⟨g, off, none⟩) n c b) (hb8 : Byte8 b) (hn : n ≤ 1000) (hn3 : 3 ≤ n) (z : Int) (hz : z = (wordP b 0 + 7) / 8) (hf : fitP (wordP b 0) most = true) (hx : (b.getD 2 0 == z) = true) :
  Calls Tryd.prog 144 #[.slice (some ⟨g, off, none⟩) n c, .func (.func 145) #[] #[], .int .i64 most] w (ListPost w (wordP b 0) (b.drop 3) ((n : Int) == 3 + z)) := by
 have HW := Lib.hid (head_word (some ⟨g, off, none⟩) n c b (by omega) w hB hb8)
 have hl := hB.1
 obtain ⟨N0, N1⟩ := wordP_in0 b hb8 (by omega)
 obtain ⟨N, hN⟩ : ∃ N, wordP b 0 = N := ⟨_, rfl⟩
 obtain ⟨x2, hx2⟩ : ∃ x, b[2]? = some x := ⟨_, List.getElem?_eq_getElem (by omega)⟩
 obtain ⟨x20, x21⟩ := hb8 x2 (List.mem_of_getElem? hx2)
 have gx2 : b.getD 2 0 = x2 := by rw [List.getD, hx2]; rfl
 rw [hN] at HW N0 N1 hz hf
 rw [gx2] at hx
 rw [hN]
 have HSZ : Hid (∀ X, Calls Tryd.prog 145 #[.int .i64 N] X fun e w' => e = .returned (.int .i64 z) ∧ X = w') := Lib.hid (fun X => by rw [hz]; exact size_bits N N0 N1 X)
 have hz0 : 0 ≤ z := by omega
 have hz1 : z ≤ 200000 := by omega
 have HF : Hid (∀ X, Calls Tryd.prog 99 #[.int .i64 N, .int .i64 most] X fun e w' => e = .returned (.bool true) ∧ X = w') := Lib.hid (fun X => by rw [← hf]; exact fits_own N most X)
 have HB := Lib.hid (fun (X : World) (h : Below w.heap.size w X) => hB.up h)
 have HC := Lib.hid (fun (X : World) (h : Below w.heap.size w X) => (by
  obtain ⟨g', o', e, hlt, hc⟩ := (hB.up h).2.2.2.2 (by rw [hl]; omega)
  injection e with e
  injection e with e1 e2
  subst e1 e2
  exact hc 2 x2 hx2 : X.cell? ⟨g, off + 2, none⟩ = some (.int .u8 x2)))
 have hcn := hB.2.1
 have hn3' : ¬ (n : Int) < 3 := by omega
 have h2n : 2 < n := by omega
 have h2n' : (2 : Int) < (n : Int) := by omega
 have h2c : 2 ≤ c := by omega
 have h2c' : (2 : Int) ≤ (c : Int) := by omega
 have h3n' : (3 : Int) ≤ (n : Int) := by omega
 have wx : IntKind.i64.wrap x2 = x2 := IntWalk.i64_in _ (by omega)
 have wz : IntKind.i64.wrap (3 + z) = 3 + z := IntWalk.i64_in _ (by omega)
 obtain ⟨AD, hAD⟩ : ∃ X, (if c = 3 then some (⟨g, off, none⟩ : Addr) else some ⟨g, off + 3, none⟩) = X := ⟨_, rfl⟩
 have HD : Hid (∀ X, Below w.heap.size w X → SlI X X.heap.size .u8 AD (n - 3) (c - 3) (b.drop 3)) := Lib.hid (fun X h => by
  rw [← hAD]
  split
  ·have e1 : n - 3 = 0 := by omega
   have e2 : c - 3 = 0 := by omega
   rw [List.drop_eq_nil_of_le (by omega), e1, e2]
   exact ⟨rfl, by omega, by omega, (fun e => by cases e), RdI.nil⟩
  ·exact (hB.up h).drop 3 (by omega))
 clear hB hz hN hx2 gx2 hb8 hf hl
 go_in
 go_wp2_with (go_at_call 142; (with_reducible refine HW.out.mono ?_); rintro e w1 ⟨g1, o1, k1, rfl, hc1, hb1⟩)
 obtain ⟨w2, hw2⟩ : ∃ W : World, w1.drew = W := ⟨_, rfl⟩
 have hb2 := zB3 hw2
 have hb2w := hb1.trans (hb2.mono hb1.size)
 refine wp_region_held (S := Below w.heap.size w) (by kernel_rfl) ?_
 change wpAnyH _ _ _ _ _ _ _ _ w1.drew
 rw [hw2]
 have hS := hb2w
 refine zU 0 rfl hS ?_ (hy := fun W hH => by
  have hcx := HC.out W hH
  go_simp
  with_reducible rfl)
 refine zU 1 rfl hS ?_ (hy := fun W hH => by
  have hcx := HC.out W hH
  go_simp
  with_reducible rfl)
 refine zR 2 rfl (fun K' hK' => ?_)
 go_simp
 refine (HF.out _).mono ?_
 rintro e w' ⟨rfl, rfl⟩
 go_simp
 refine hK'.out _ _ hS (fun hS => ?_)
 clear hK' K'
 refine zU 3 rfl hS ?_ (hy := fun W hH => by
  have hcx := HC.out W hH
  go_simp
  with_reducible rfl)
 refine zU 4 rfl hS ?_ (hy := fun W hH => by
  have hcx := HC.out W hH
  go_simp
  with_reducible rfl)
 refine zU 5 rfl hS ?_ (hy := fun W hH => by
  have hcx := HC.out W hH
  go_simp
  with_reducible rfl)
 refine zU 6 rfl hS ?_ (hy := fun W hH => by
  have hcx := HC.out W hH
  go_simp
  with_reducible rfl)
 refine zU 7 rfl hS ?_ (hy := fun W hH => by
  have hcx := HC.out W hH
  go_simp
  with_reducible rfl)
 refine zU 8 rfl hS ?_ (hy := fun W hH => by
  have hcx := HC.out W hH
  go_simp
  with_reducible rfl)
 refine zU 9 rfl hS ?_ (hy := fun W hH => by
  have hcx := HC.out W hH
  go_simp
  with_reducible rfl)
 refine zR 10 rfl (fun K' hK' => ?_)
 go_simp
 refine (HSZ.out _).mono ?_
 rintro e w' ⟨rfl, rfl⟩
 go_simp
 refine hK'.out _ _ hS (fun hS => ?_)
 clear hK' K'
 refine zU 11 rfl hS ?_ (hy := fun W hH => by
  have hcx := HC.out W hH
  go_simp
  with_reducible rfl)
 refine zU 12 rfl hS ?_ (hy := fun W hH => by
  have hcx := HC.out W hH
  go_simp
  with_reducible rfl)
 refine zU 13 rfl hS ?_ (hy := fun W hH => by
  have hcx := HC.out W hH
  go_simp
  with_reducible rfl)
 refine zU 14 rfl hS ?_ (hy := fun W hH => by
  have hcx := HC.out W hH
  go_simp
  with_reducible rfl)
 refine zU 15 rfl hS ?_ (hy := fun W hH => by
  have hcx := HC.out W hH
  go_simp
  with_reducible rfl)
 refine zU 16 rfl hS ?_ (hy := fun W hH => by
  have hcx := HC.out W hH
  go_simp
  with_reducible rfl)
 refine zU 17 rfl hS ?_ (hy := fun W hH => by
  have hcx := HC.out W hH
  go_simp
  with_reducible rfl)
 refine zR 18 rfl (fun K' hK' => ?_)
 go_simp
 refine (HSZ.out _).mono ?_
 rintro e w' ⟨rfl, rfl⟩
 go_simp
 refine hK'.out _ _ hS (fun hS => ?_)
 clear hK' K'
 refine zU 19 rfl hS ?_ (hy := fun W hH => by
  have hcx := HC.out W hH
  go_simp
  with_reducible rfl)
 refine zU 20 rfl hS ?_ (hy := fun W hH => by
  have hcx := HC.out W hH
  go_simp
  with_reducible rfl)
 refine zU 21 rfl hS ?_ (hy := fun W hH => by
  have hcx := HC.out W hH
  go_simp
  with_reducible rfl)
 refine zU 22 rfl hS ?_ (hy := fun W hH => by
  have hcx := HC.out W hH
  go_simp
  with_reducible rfl)
 refine wpAnyH_done (by kernel_rfl) ?_ _
 go_wp2_with fail
 refine wp_region_held (S := Below w.heap.size w) (by kernel_rfl) ?_
 obtain ⟨w3, hw3⟩ : ∃ W : World, w2.drew = W := ⟨_, rfl⟩
 have hb3 := zB3 hw3
 have hb3w := hb2w.trans (hb3.mono hb2w.size)
 change wpAnyH _ _ _ _ _ _ _ _ w2.drew
 rw [hw3]
 clear hS
 have hS := hb3w
 refine zU 0 rfl hS ?_
 refine zU 1 rfl hS ?_
 refine zU 2 rfl hS ?_
 refine zU 3 rfl hS ?_
 refine zU 4 rfl hS ?_
 refine zU 5 rfl hS ?_
 refine zU 6 rfl hS ?_
 refine wpAnyH_done (by kernel_rfl) ?_ _
 go_wp2_with fail
 go_ret3
 exact ⟨_, _, _, rfl, HD.out _ hb3w, hb3w⟩
theorem list_two (A : Option Addr) (n c : Nat) (b : List Int) (most : Int) (w : World) (hB : SlI w w.heap.size .u8 A n c b) (hb8 : Byte8 b) (hn : n ≤ 1000) :
  Calls Tryd.prog 144 #[.slice A n c, .func (.func 143) #[] #[], .int .i64 most] w (ListPost w (if b.length < 3 then 0 else wordP b 0) (b.drop 3) (decide (3 ≤ b.length) && listF (2 * wordP b 0) most b)) := by
 have hl := hB.1
 by_cases h3 : n < 3
 ·have h := list_short 143 A n c most w h3
  rw [if_pos (by omega), List.drop_eq_nil_of_le (by omega), decide_eq_false (show ¬ 3 ≤ b.length by omega)]
  exact h
 obtain ⟨g, off, rfl, _⟩ := hB.some_ (by omega)
 rw [if_neg (by omega), decide_eq_true (show 3 ≤ b.length by omega), Bool.true_and]
 unfold listF
 cases hf : fitP (wordP b 0) most with
 | false => exact list_two_n g off n c b most w hB hb8 hn (by omega) _ rfl hf
 | true =>
  cases hx : (b.getD 2 0 == (2 * wordP b 0)) with
  | false => exact list_two_x g off n c b most w hB hb8 hn (by omega) _ rfl hf hx
  | true => rw [hl]; exact list_two_y g off n c b most w hB hb8 hn (by omega) _ rfl hf hx
theorem list_bits (A : Option Addr) (n c : Nat) (b : List Int) (most : Int) (w : World) (hB : SlI w w.heap.size .u8 A n c b) (hb8 : Byte8 b) (hn : n ≤ 1000) :
  Calls Tryd.prog 144 #[.slice A n c, .func (.func 145) #[] #[], .int .i64 most] w (ListPost w (if b.length < 3 then 0 else wordP b 0) (b.drop 3) (decide (3 ≤ b.length) && listF ((wordP b 0 + 7) / 8) most b)) := by
 have hl := hB.1
 by_cases h3 : n < 3
 ·have h := list_short 145 A n c most w h3
  rw [if_pos (by omega), List.drop_eq_nil_of_le (by omega), decide_eq_false (show ¬ 3 ≤ b.length by omega)]
  exact h
 obtain ⟨g, off, rfl, _⟩ := hB.some_ (by omega)
 rw [if_neg (by omega), decide_eq_true (show 3 ≤ b.length by omega), Bool.true_and]
 unfold listF
 cases hf : fitP (wordP b 0) most with
 | false => exact list_bits_n g off n c b most w hB hb8 hn (by omega) _ rfl hf
 | true =>
  cases hx : (b.getD 2 0 == ((wordP b 0 + 7) / 8)) with
  | false => exact list_bits_x g off n c b most w hB hb8 hn (by omega) _ rfl hf hx
  | true => rw [hl]; exact list_bits_y g off n c b most w hB hb8 hn (by omega) _ rfl hf hx
end Go.Proofs.YtcipleanckeoaaaDoor
