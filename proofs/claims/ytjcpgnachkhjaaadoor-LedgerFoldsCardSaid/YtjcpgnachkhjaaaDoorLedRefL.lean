/- kilowattref25.Lines. -/
import Derived.Test.YtjcpgnachkhjaaaDoorLedRefD
import Derived.Test.YtjcpgnachkhjaaaDoorLedLinesP
namespace Go.Proofs.YtjcpgnachkhjaaaDoor
open Go.RowKit Go.Shelf Go.Sort
attribute [local go_sem] Oper.semAt_some
set_option linter.unusedVariables false
set_option linter.unusedSimpArgs false
set_option maxRecDepth 100000
theorem words_eight (a0 a1 a2 a3 a4 a5 a6 a7 : Int) : wordsL [a0, a1, a2, a3, a4, a5, a6, a7] = [109, 101, 116, 101, 114, 32] ++ Lib.itoa a0 ++ [32, 101, 110, 101, 114, 103, 121, 32] ++ Lib.itoa a1 ++ [32, 99, 111, 115, 116, 32] ++ Lib.itoa a2 ++ [32, 105, 110, 116, 101, 114, 118, 97, 108, 115, 32] ++ Lib.itoa a3 ++ [32, 102, 108, 97, 103, 103, 101, 100, 32] ++ Lib.itoa a4 ++ [32, 115, 117, 115, 112, 101, 99, 116, 115, 32] ++ Lib.itoa a5 ++ [32, 114, 101, 112, 108, 97, 99, 101, 100, 32] ++ Lib.itoa a6 ++ [32, 99, 111, 114, 114, 101, 99, 116, 101, 100, 32] ++ Lib.itoa a7 := by
  unfold wordsL partsN partL
  simp only [List.length_cons, List.length_nil]
  rw [show (List.range (0 + 1 + 1 + 1 + 1 + 1 + 1 + 1 + 1)) = [0, 1, 2, 3, 4, 5, 6, 7] from rfl]
  simp only [List.map_cons, List.map_nil, List.getD_cons_zero, List.getD_cons_succ]
  simp [Lib.join, nmL, List.append_assoc]
theorem words_three (a0 a1 a2 : Int) : wordsL [a0, a1, a2] = [109, 101, 116, 101, 114, 32] ++ Lib.itoa a0 ++ [32, 101, 110, 101, 114, 103, 121, 32] ++ Lib.itoa a1 ++ [32, 99, 111, 115, 116, 32] ++ Lib.itoa a2 := by
  unfold wordsL partsN partL
  simp only [List.length_cons, List.length_nil]
  rw [show (List.range (0 + 1 + 1 + 1)) = [0, 1, 2] from rfl]
  simp only [List.map_cons, List.map_nil, List.getD_cons_zero, List.getD_cons_succ]
  simp [Lib.join, nmL, List.append_assoc]
theorem band_four (b : Bk) (m : Nat) (k : Fin 8) : bandLine b m k = [98, 97, 110, 100, 32] ++ Lib.itoa (k.1 : Int) ++ [32, 101, 110, 101, 114, 103, 121, 32] ++ Lib.itoa (b.totAt m k.1).energy ++ [32, 99, 111, 115, 116, 32] ++ Lib.itoa (b.totAt m k.1).cost ++ [32, 109, 97, 110, 121, 32] ++ Lib.itoa (b.totAt m k.1).many := by
  unfold bandLine
  rw [words_three]
  simp [Lib.trimPrefix, Lib.hasPrefix, List.append_assoc]
theorem totI_nat (b : Bk) (m k : Nat) (hm : m < 64) (hk : k < 8) : b.totI m k = b.totAt m k := by
  unfold Bk.totI
  rw [if_pos ⟨by omega, by omega⟩]; simp
theorem sumI_nat (b : Bk) (m : Nat) (hm : m < 64) : b.sumI m = b.sumAt m := by
  unfold Bk.sumI
  rw [if_pos (by omega)]; simp
/-- What stands at a round's head. -/
def LinQ (b : Bk) (w2 : World) (v3 v5 : Value) (W : World) : Prop := ∃ i : Nat, i ≤ (metI b 64).length ∧ v5 = .int .i64 i ∧ W.ownsRow w2.heap.size 9 1 v3 (linesN b i).length ((linesN b i).map strV) ∧ Below w2.heap.size w2 W
def rowsK (b : Bk) (i m k : Nat) : List (List UInt8) := linesN b i ++ [wordsL (sumL m (b.sumAt m))] ++ (bandN b m k).map (bandLine b m)
def BanQ (b : Bk) (i m : Nat) (w2 : World) (v3 v7 : Value) (W : World) : Prop := ∃ k : Nat, k ≤ 8 ∧ v7 = .int .i64 k ∧ W.ownsRow w2.heap.size 9 1 v3 (rowsK b i m k).length ((rowsK b i m k).map strV) ∧ Below w2.heap.size w2 W
theorem below_own {W V X : World} {base : Nat} {e : TypeId} {size n : Nat} {v : Value} {xs : List Value} (hX : Below base X W) (hr : W.ownsRow base e size v n xs) (hg : W.grownBy V v.ownBlock) (hB : base ≤ W.heap.size) : Below base X V :=
  hX.grown hg hB (fun k hk => (hr.lt k hk).1)
set_option maxHeartbeats 4000000 in
theorem rlines_any (es : List Ent) (hA : AddedE es) (A : Option Addr) (n c : Nat) (w : World) (hl : EnI w A n es) (hn : es.length ≤ 100000) :
    Calls Tryd.prog 21 #[.slice A n c] w fun e w' => (∃ A' c', e = .returned (.slice A' (linesL (runB es)).length c') ∧ StrsI w' A' (linesL (runB es)).length (linesL (runB es))) ∧ Below w.heap.size w w' := by
  have HM := Lib.hid (rmeters_any es hA A n c w hl hn)
  have HSU := Lib.hid (fun (V : World) (hV : EnI V A n es) (m : Int) => rsum_any es hA A n c m V hV hn)
  have HTO := Lib.hid (fun (V : World) (hV : EnI V A n es) (m k : Int) => rtotal_any es hA A n c m k V hV hn)
  have HL := Lib.hid hl
  have hb := hA.book es.length (Nat.le_refl _)
  rw [List.take_length] at hb
  have hK : (es.length : Int) ≤ 100000 := by omega
  obtain ⟨b, hbe⟩ : ∃ b, runB es = b := ⟨_, rfl⟩
  rw [hbe] at HM HSU HTO hb ⊢
  clear hbe hA hl
  obtain ⟨i0, hi0, hz0, hz1, hz2⟩ := info_parts info_str
  go_in
  go_wp2_with (go_at_call 24; (with_reducible refine HM.out.mono ?_); rintro e w2 ⟨⟨A2, c2, rfl, hs⟩, hb2⟩)
  have HS := Lib.hid hs
  have HBW := Lib.hid hb2
  clear hs hb2
  go_loopw [3, 5] (LinQ b w2) (fun _ v _ => (metI b 64).length - (intOf v).toNat)
  case atStart => exact ⟨0, Nat.zero_le _, rfl, World.ownsRow_nil _ _ _ _, Below.refl _ _⟩
  case round =>
    obtain ⟨i, hi, rfl, hrow, hbl⟩ := hrel
    have HML := Lib.hid (metI_len b 64)
    by_cases hlt : i < (metI b 64).length
    · obtain ⟨m, hm⟩ : ∃ m, (metN b 64)[i]? = some m := ⟨_, List.getElem?_eq_getElem (by simpa [metI] using hlt)⟩
      have hmi : (metI b 64)[i]? = some (m : Int) := by unfold metI; rw [List.getElem?_map, hm]; rfl
      have hm64 : m < 64 := by
        have := List.mem_of_getElem? hm
        unfold metN at this
        exact List.mem_range.1 (List.mem_filter.1 this).1
      obtain ⟨gA, oA, rfl, hgA, hcA⟩ := HS.out.2.2.2.2 (by omega)
      have HCM := Lib.hid (hcA i _ hmi)
      have hcm : wr.cell? ⟨gA, oA + i, none⟩ = some (.int .i64 (m : Nat)) := (hbl.cell (p := ⟨gA, oA + i, none⟩) hgA).trans HCM.out
      have hbs := hb.sumAt m hm64
      have hE : EnI wr (A) n es := HL.out.up (HBW.out.trans (hbl.mono HBW.out.size))
      have HSM := Lib.hid (HSU.out wr hE m)
      rw [sumI_nat b m hm64] at HSM
      have hmI : (m : Int) < 64 := by omega
      have hiI : (i : Int) < ((metI b 64).length : Int) := by omega
      have hiL := HML.out
      have hWz := hbl.size
      have HHM := Lib.hid hm
      obtain ⟨S, hS⟩ : ∃ S, b.sumAt m = S := ⟨_, rfl⟩
      rw [hS] at hbs HSM
      have HSE := Lib.hid hS
      have ISs : Hid ((Tryd.prog.info? 36).map (·.size) = some S.arr.size) := Lib.hid (by rw [sum_size, SumS.arr_size _ hbs.hash])
      have IZ : Hid (S.arr.size = SumS.zero.arr.size) := Lib.hid (by rw [SumS.arr_size _ hbs.hash, SumS.arr_size _ rfl])
      obtain ⟨⟨q11, q12⟩, ⟨q21, q22⟩, ⟨q31, q32⟩, ⟨q41, q42⟩, ⟨q51, q52⟩, ⟨q61, q62⟩, ⟨q71, q72⟩, _⟩ := hbs
      obtain ⟨D0, hD0⟩ : ∃ L, Lib.itoa (m : Int) = L := ⟨_, rfl⟩
      have hl0 : D0.length ≤ 21 := by rw [← hD0]; exact Lib.itoa_length_le _ (by omega) (by omega)
      have HD0 := Lib.hid (fun V => digits_any (m : Int) (by omega) (by omega) V)
      rw [hD0] at HD0
      obtain ⟨D1, hD1⟩ : ∃ L, Lib.itoa S.energy = L := ⟨_, rfl⟩
      have hl1 : D1.length ≤ 21 := by rw [← hD1]; exact Lib.itoa_length_le _ (by omega) (by omega)
      have HD1 := Lib.hid (fun V => digits_any S.energy (by omega) (by omega) V)
      rw [hD1] at HD1
      obtain ⟨D2, hD2⟩ : ∃ L, Lib.itoa S.cost = L := ⟨_, rfl⟩
      have hl2 : D2.length ≤ 21 := by rw [← hD2]; exact Lib.itoa_length_le _ (by omega) (by omega)
      have HD2 := Lib.hid (fun V => digits_any S.cost (by omega) (by omega) V)
      rw [hD2] at HD2
      obtain ⟨D3, hD3⟩ : ∃ L, Lib.itoa S.intervals = L := ⟨_, rfl⟩
      have hl3 : D3.length ≤ 21 := by rw [← hD3]; exact Lib.itoa_length_le _ (by omega) (by omega)
      have HD3 := Lib.hid (fun V => digits_any S.intervals (by omega) (by omega) V)
      rw [hD3] at HD3
      obtain ⟨D4, hD4⟩ : ∃ L, Lib.itoa S.flagged = L := ⟨_, rfl⟩
      have hl4 : D4.length ≤ 21 := by rw [← hD4]; exact Lib.itoa_length_le _ (by omega) (by omega)
      have HD4 := Lib.hid (fun V => digits_any S.flagged (by omega) (by omega) V)
      rw [hD4] at HD4
      obtain ⟨D5, hD5⟩ : ∃ L, Lib.itoa S.suspects = L := ⟨_, rfl⟩
      have hl5 : D5.length ≤ 21 := by rw [← hD5]; exact Lib.itoa_length_le _ (by omega) (by omega)
      have HD5 := Lib.hid (fun V => digits_any S.suspects (by omega) (by omega) V)
      rw [hD5] at HD5
      obtain ⟨D6, hD6⟩ : ∃ L, Lib.itoa S.replaced = L := ⟨_, rfl⟩
      have hl6 : D6.length ≤ 21 := by rw [← hD6]; exact Lib.itoa_length_le _ (by omega) (by omega)
      have HD6 := Lib.hid (fun V => digits_any S.replaced (by omega) (by omega) V)
      rw [hD6] at HD6
      obtain ⟨D7, hD7⟩ : ∃ L, Lib.itoa S.corrected = L := ⟨_, rfl⟩
      have hl7 : D7.length ≤ 21 := by rw [← hD7]; exact Lib.itoa_length_le _ (by omega) (by omega)
      have HD7 := Lib.hid (fun V => digits_any S.corrected (by omega) (by omega) V)
      rw [hD7] at HD7
      clear q11 q12 q21 q22 q31 q32 q41 q42 q51 q52 q61 q62 q71 q72
      obtain ⟨P29, h29⟩ : ∃ L : List UInt8, [109, 101, 116, 101, 114, 32] ++ D0 = L := ⟨_, rfl⟩
      have l29 : P29.length ≤ 27 := by rw [← h29]; simp; omega
      have H29 : Hid (∀ v, (binOp .add 9 (.string (strB [109, 101, 116, 101, 114, 32])) (.string (strB D0))).run Tryd.prog v = .ok (.string (strB P29)) v) := Lib.hid (fun v => by rw [← h29]; exact add_str _ _ (by first | omega | (simp; omega)) v)
      obtain ⟨P30, h30⟩ : ∃ L : List UInt8, P29 ++ [32, 101, 110, 101, 114, 103, 121, 32] = L := ⟨_, rfl⟩
      have l30 : P30.length ≤ 35 := by rw [← h30]; simp; omega
      have H30 : Hid (∀ v, (binOp .add 9 (.string (strB P29)) (.string (strB [32, 101, 110, 101, 114, 103, 121, 32]))).run Tryd.prog v = .ok (.string (strB P30)) v) := Lib.hid (fun v => by rw [← h30]; exact add_str _ _ (by first | omega | (simp; omega)) v)
      obtain ⟨P34, h34⟩ : ∃ L : List UInt8, P30 ++ D1 = L := ⟨_, rfl⟩
      have l34 : P34.length ≤ 56 := by rw [← h34]; simp; omega
      have H34 : Hid (∀ v, (binOp .add 9 (.string (strB P30)) (.string (strB D1))).run Tryd.prog v = .ok (.string (strB P34)) v) := Lib.hid (fun v => by rw [← h34]; exact add_str _ _ (by first | omega | (simp; omega)) v)
      obtain ⟨P35, h35⟩ : ∃ L : List UInt8, P34 ++ [32, 99, 111, 115, 116, 32] = L := ⟨_, rfl⟩
      have l35 : P35.length ≤ 62 := by rw [← h35]; simp; omega
      have H35 : Hid (∀ v, (binOp .add 9 (.string (strB P34)) (.string (strB [32, 99, 111, 115, 116, 32]))).run Tryd.prog v = .ok (.string (strB P35)) v) := Lib.hid (fun v => by rw [← h35]; exact add_str _ _ (by first | omega | (simp; omega)) v)
      obtain ⟨P39, h39⟩ : ∃ L : List UInt8, P35 ++ D2 = L := ⟨_, rfl⟩
      have l39 : P39.length ≤ 83 := by rw [← h39]; simp; omega
      have H39 : Hid (∀ v, (binOp .add 9 (.string (strB P35)) (.string (strB D2))).run Tryd.prog v = .ok (.string (strB P39)) v) := Lib.hid (fun v => by rw [← h39]; exact add_str _ _ (by first | omega | (simp; omega)) v)
      obtain ⟨P40, h40⟩ : ∃ L : List UInt8, P39 ++ [32, 105, 110, 116, 101, 114, 118, 97, 108, 115, 32] = L := ⟨_, rfl⟩
      have l40 : P40.length ≤ 94 := by rw [← h40]; simp; omega
      have H40 : Hid (∀ v, (binOp .add 9 (.string (strB P39)) (.string (strB [32, 105, 110, 116, 101, 114, 118, 97, 108, 115, 32]))).run Tryd.prog v = .ok (.string (strB P40)) v) := Lib.hid (fun v => by rw [← h40]; exact add_str _ _ (by first | omega | (simp; omega)) v)
      obtain ⟨P44, h44⟩ : ∃ L : List UInt8, P40 ++ D3 = L := ⟨_, rfl⟩
      have l44 : P44.length ≤ 115 := by rw [← h44]; simp; omega
      have H44 : Hid (∀ v, (binOp .add 9 (.string (strB P40)) (.string (strB D3))).run Tryd.prog v = .ok (.string (strB P44)) v) := Lib.hid (fun v => by rw [← h44]; exact add_str _ _ (by first | omega | (simp; omega)) v)
      obtain ⟨P45, h45⟩ : ∃ L : List UInt8, P44 ++ [32, 102, 108, 97, 103, 103, 101, 100, 32] = L := ⟨_, rfl⟩
      have l45 : P45.length ≤ 124 := by rw [← h45]; simp; omega
      have H45 : Hid (∀ v, (binOp .add 9 (.string (strB P44)) (.string (strB [32, 102, 108, 97, 103, 103, 101, 100, 32]))).run Tryd.prog v = .ok (.string (strB P45)) v) := Lib.hid (fun v => by rw [← h45]; exact add_str _ _ (by first | omega | (simp; omega)) v)
      obtain ⟨P49, h49⟩ : ∃ L : List UInt8, P45 ++ D4 = L := ⟨_, rfl⟩
      have l49 : P49.length ≤ 145 := by rw [← h49]; simp; omega
      have H49 : Hid (∀ v, (binOp .add 9 (.string (strB P45)) (.string (strB D4))).run Tryd.prog v = .ok (.string (strB P49)) v) := Lib.hid (fun v => by rw [← h49]; exact add_str _ _ (by first | omega | (simp; omega)) v)
      obtain ⟨P50, h50⟩ : ∃ L : List UInt8, P49 ++ [32, 115, 117, 115, 112, 101, 99, 116, 115, 32] = L := ⟨_, rfl⟩
      have l50 : P50.length ≤ 155 := by rw [← h50]; simp; omega
      have H50 : Hid (∀ v, (binOp .add 9 (.string (strB P49)) (.string (strB [32, 115, 117, 115, 112, 101, 99, 116, 115, 32]))).run Tryd.prog v = .ok (.string (strB P50)) v) := Lib.hid (fun v => by rw [← h50]; exact add_str _ _ (by first | omega | (simp; omega)) v)
      obtain ⟨P54, h54⟩ : ∃ L : List UInt8, P50 ++ D5 = L := ⟨_, rfl⟩
      have l54 : P54.length ≤ 176 := by rw [← h54]; simp; omega
      have H54 : Hid (∀ v, (binOp .add 9 (.string (strB P50)) (.string (strB D5))).run Tryd.prog v = .ok (.string (strB P54)) v) := Lib.hid (fun v => by rw [← h54]; exact add_str _ _ (by first | omega | (simp; omega)) v)
      obtain ⟨P55, h55⟩ : ∃ L : List UInt8, P54 ++ [32, 114, 101, 112, 108, 97, 99, 101, 100, 32] = L := ⟨_, rfl⟩
      have l55 : P55.length ≤ 186 := by rw [← h55]; simp; omega
      have H55 : Hid (∀ v, (binOp .add 9 (.string (strB P54)) (.string (strB [32, 114, 101, 112, 108, 97, 99, 101, 100, 32]))).run Tryd.prog v = .ok (.string (strB P55)) v) := Lib.hid (fun v => by rw [← h55]; exact add_str _ _ (by first | omega | (simp; omega)) v)
      obtain ⟨P59, h59⟩ : ∃ L : List UInt8, P55 ++ D6 = L := ⟨_, rfl⟩
      have l59 : P59.length ≤ 207 := by rw [← h59]; simp; omega
      have H59 : Hid (∀ v, (binOp .add 9 (.string (strB P55)) (.string (strB D6))).run Tryd.prog v = .ok (.string (strB P59)) v) := Lib.hid (fun v => by rw [← h59]; exact add_str _ _ (by first | omega | (simp; omega)) v)
      obtain ⟨P60, h60⟩ : ∃ L : List UInt8, P59 ++ [32, 99, 111, 114, 114, 101, 99, 116, 101, 100, 32] = L := ⟨_, rfl⟩
      have l60 : P60.length ≤ 218 := by rw [← h60]; simp; omega
      have H60 : Hid (∀ v, (binOp .add 9 (.string (strB P59)) (.string (strB [32, 99, 111, 114, 114, 101, 99, 116, 101, 100, 32]))).run Tryd.prog v = .ok (.string (strB P60)) v) := Lib.hid (fun v => by rw [← h60]; exact add_str _ _ (by first | omega | (simp; omega)) v)
      obtain ⟨P64, h64⟩ : ∃ L : List UInt8, P60 ++ D7 = L := ⟨_, rfl⟩
      have l64 : P64.length ≤ 239 := by rw [← h64]; simp; omega
      have H64 : Hid (∀ v, (binOp .add 9 (.string (strB P60)) (.string (strB D7))).run Tryd.prog v = .ok (.string (strB P64)) v) := Lib.hid (fun v => by rw [← h64]; exact add_str _ _ (by first | omega | (simp; omega)) v)
      have HW8 : Hid (wordsL (sumL m (b.sumAt m)) = P64) := Lib.hid (by
        rw [HSE.out]
        unfold sumL
        rw [words_eight, hD0, hD1, hD2, hD3, hD4, hD5, hD6, hD7, ← h64, ← h60, ← h59, ← h55, ← h54, ← h50, ← h49, ← h45, ← h44, ← h40, ← h39, ← h35, ← h34, ← h30, ← h29])
      clear hS hmi hm hcA hE hD0 hl0 hD1 hl1 hD2 hl2 hD3 hl3 hD4 hl4 hD5 hl5 hD6 hl6 hD7 hl7 h29 l29 h30 l30 h34 l34 h35 l35 h39 l39 h40 l40 h44 l44 h45 l45 h49 l49 h50 l50 h54 l54 h55 l55 h59 l59 h60 l60 h64 l64
      have HROW := Lib.hid hrow
      have HBL := Lib.hid hbl
      clear hrow hbl
      go_upto_region 7 with (first
        | (go_at_call 18; (with_reducible refine HSM.out.mono ?_); rintro e V1 ⟨rfl, b1⟩; (have z1 := b1.size))
        | ((with_reducible refine wpList_alloc_held (dst := some 6) 36 SumS.zero.arr (by kernel_rfl) alloc_sum ?_); intro V2 h6 b6 z6; (have l6 : V1.heap.size < V2.heap.size := (by omega)); clear z6; simp only [Act.put, List.setIfInBounds_toArray, List.set_cons_succ, List.set_cons_zero])
        | ((with_reducible refine wpList_store_held 36 (.tmp 6) (.tmp 22) V1.heap.size 36 _ S.arr (by kernel_rfl) (by kernel_rfl) (by kernel_rfl) h6 IZ.out ISs.out (sum_one _) ?_); intro V3 g6 b7 z7; clear z7; simp only [Act.put, List.setIfInBounds_toArray, List.set_cons_succ, List.set_cons_zero]))
      have hV : Below wr.heap.size wr V3 := (b1.trans (b6.mono z1)).trans (b7.below z1 (by omega))
      have hrV := lown_up HROW.out hV
      have hbV := HBL.out.trans (hV.mono hWz)
      clear b1 b6 b7 h6 hV hcm HSM
      have hp6 := g6.lt
      have hp6w : w2.heap.size ≤ V1.heap.size := by omega
      generalize V1.heap.size = p6 at g6 hp6 hp6w z1 l6 ⊢
      obtain ⟨wd, hwd⟩ : ∃ Y : World, V3.drew = Y := ⟨_, rfl⟩
      have dr : wd.ownsRow w2.heap.size 9 1 u3 (linesN b i).length ((linesN b i).map strV) := by rw [← hwd]; exact hrV.drew
      have hS : Below w2.heap.size w2 wd ∧ Held wd p6 36 S.arr := by rw [← hwd]; exact ⟨hbV.drew, g6.drew⟩
      have bq := Below.refl wd.heap.size wd
      have hNl := linesN_len b i (by omega)
      have HBY := Lib.hid (show (linesN b i).length + 1 ≤ maxLen ∧ ((linesN b i).length + 1) * 16 ≤ 140737488355328 by unfold maxLen; omega)
      clear hrV hbV g6
      refine wp_region_held (S := fun Y => Below w2.heap.size w2 Y ∧ Held Y p6 36 S.arr) (by kernel_rfl) ?_
      change wpAnyH _ _ _ _ _ _ _ _ V3.drew
      rw [hwd]
      clear hwd
      refine wpAnyH_take (i := 0) (v := ?v0_1) rfl (by kernel_rfl) (by kernel_rfl) (by kernel_rfl) (fun _ _ _ h => h) (Or.inl ⟨by rfl, ?y0_1⟩) hS ?r0_1
      case y0_1 =>
        rintro W hH
        go_simp
        with_reducible rfl
      simp only [Act.put]
      try simp only [List.getElem_toArray, List.getElem_cons_zero]
      try simp only [List.setIfInBounds_toArray, List.set_cons_succ, List.set_cons_zero]
      refine wpAnyH_take (i := 1) (v := ?v1_2) rfl (by kernel_rfl) (by kernel_rfl) (by kernel_rfl) (fun _ _ _ h => h) (Or.inl ⟨by rfl, ?y1_2⟩) hS ?r1_2
      case y1_2 =>
        rintro W hH
        go_simp
        with_reducible rfl
      simp only [Act.put]
      try simp only [List.getElem_toArray, List.getElem_cons_succ, List.getElem_cons_zero]
      try simp only [List.setIfInBounds_toArray, List.set_cons_succ, List.set_cons_zero]
      refine wpAnyH_take (i := 2) (v := ?v2_3) rfl (by kernel_rfl) (by kernel_rfl) (by kernel_rfl) (fun _ _ _ h => h) (Or.inl ⟨by rfl, ?y2_3⟩) hS ?r2_3
      case y2_3 =>
        rintro W hH
        go_simp
        with_reducible rfl
      simp only [Act.put]
      try simp only [List.getElem_toArray, List.getElem_cons_succ, List.getElem_cons_zero]
      try simp only [List.setIfInBounds_toArray, List.set_cons_succ, List.set_cons_zero]
      refine wpAnyH_take (i := 3) (v := ?v3_4) rfl (by kernel_rfl) (by kernel_rfl) (by kernel_rfl) (fun _ _ _ h => h) (Or.inl ⟨by rfl, ?y3_4⟩) hS ?r3_4
      case y3_4 =>
        rintro W hH
        go_simp
        with_reducible rfl
      simp only [Act.put]
      try simp only [List.getElem_toArray, List.getElem_cons_succ, List.getElem_cons_zero]
      try simp only [List.setIfInBounds_toArray, List.set_cons_succ, List.set_cons_zero]
      refine wpAnyH_take (i := 4) (v := ?v4_5) rfl (by kernel_rfl) (by kernel_rfl) (by kernel_rfl) (fun _ _ _ h => h) (Or.inl ⟨by rfl, ?y4_5⟩) hS ?r4_5
      case y4_5 =>
        rintro W hH
        have hcm := (hH.1.cell (p := ⟨gA, oA + i, none⟩) hgA).trans HCM.out
        obtain ⟨sc0, sc1, sc2, sc3, sc4, sc5, sc6⟩ := sum_cells hH.2
        go_simp
        with_reducible rfl
      simp only [Act.put]
      try simp only [List.getElem_toArray, List.getElem_cons_succ, List.getElem_cons_zero]
      try simp only [List.setIfInBounds_toArray, List.set_cons_succ, List.set_cons_zero]
      refine wpAnyH_take (i := 8) (v := ?v8_6) rfl (by kernel_rfl) (by kernel_rfl) (by kernel_rfl) (fun _ _ _ h => h) (Or.inl ⟨by rfl, ?y8_6⟩) hS ?r8_6
      case y8_6 =>
        rintro W hH
        go_simp
        with_reducible rfl
      simp only [Act.put]
      try simp only [List.getElem_toArray, List.getElem_cons_succ, List.getElem_cons_zero]
      try simp only [List.setIfInBounds_toArray, List.set_cons_succ, List.set_cons_zero]
      refine wpAnyH_take (i := 9) (v := ?v9_7) rfl (by kernel_rfl) (by kernel_rfl) (by kernel_rfl) (fun _ _ _ h => h) (Or.inl ⟨by rfl, ?y9_7⟩) hS ?r9_7
      case y9_7 =>
        rintro W hH
        have hcm := (hH.1.cell (p := ⟨gA, oA + i, none⟩) hgA).trans HCM.out
        obtain ⟨sc0, sc1, sc2, sc3, sc4, sc5, sc6⟩ := sum_cells hH.2
        go_simp
        with_reducible rfl
      simp only [Act.put]
      try simp only [List.getElem_toArray, List.getElem_cons_succ, List.getElem_cons_zero]
      try simp only [List.setIfInBounds_toArray, List.set_cons_succ, List.set_cons_zero]
      refine wpAnyH_take (i := 13) (v := ?v13_8) rfl (by kernel_rfl) (by kernel_rfl) (by kernel_rfl) (fun _ _ _ h => h) (Or.inl ⟨by rfl, ?y13_8⟩) hS ?r13_8
      case y13_8 =>
        rintro W hH
        go_simp
        with_reducible rfl
      simp only [Act.put]
      try simp only [List.getElem_toArray, List.getElem_cons_succ, List.getElem_cons_zero]
      try simp only [List.setIfInBounds_toArray, List.set_cons_succ, List.set_cons_zero]
      refine wpAnyH_take (i := 14) (v := ?v14_9) rfl (by kernel_rfl) (by kernel_rfl) (by kernel_rfl) (fun _ _ _ h => h) (Or.inl ⟨by rfl, ?y14_9⟩) hS ?r14_9
      case y14_9 =>
        rintro W hH
        have hcm := (hH.1.cell (p := ⟨gA, oA + i, none⟩) hgA).trans HCM.out
        obtain ⟨sc0, sc1, sc2, sc3, sc4, sc5, sc6⟩ := sum_cells hH.2
        go_simp
        with_reducible rfl
      simp only [Act.put]
      try simp only [List.getElem_toArray, List.getElem_cons_succ, List.getElem_cons_zero]
      try simp only [List.setIfInBounds_toArray, List.set_cons_succ, List.set_cons_zero]
      refine wpAnyH_take (i := 18) (v := ?v18_10) rfl (by kernel_rfl) (by kernel_rfl) (by kernel_rfl) (fun _ _ _ h => h) (Or.inl ⟨by rfl, ?y18_10⟩) hS ?r18_10
      case y18_10 =>
        rintro W hH
        go_simp
        with_reducible rfl
      simp only [Act.put]
      try simp only [List.getElem_toArray, List.getElem_cons_succ, List.getElem_cons_zero]
      try simp only [List.setIfInBounds_toArray, List.set_cons_succ, List.set_cons_zero]
      refine wpAnyH_take (i := 19) (v := ?v19_11) rfl (by kernel_rfl) (by kernel_rfl) (by kernel_rfl) (fun _ _ _ h => h) (Or.inl ⟨by rfl, ?y19_11⟩) hS ?r19_11
      case y19_11 =>
        rintro W hH
        have hcm := (hH.1.cell (p := ⟨gA, oA + i, none⟩) hgA).trans HCM.out
        obtain ⟨sc0, sc1, sc2, sc3, sc4, sc5, sc6⟩ := sum_cells hH.2
        go_simp
        with_reducible rfl
      simp only [Act.put]
      try simp only [List.getElem_toArray, List.getElem_cons_succ, List.getElem_cons_zero]
      try simp only [List.setIfInBounds_toArray, List.set_cons_succ, List.set_cons_zero]
      refine wpAnyH_take (i := 23) (v := ?v23_12) rfl (by kernel_rfl) (by kernel_rfl) (by kernel_rfl) (fun _ _ _ h => h) (Or.inl ⟨by rfl, ?y23_12⟩) hS ?r23_12
      case y23_12 =>
        rintro W hH
        go_simp
        with_reducible rfl
      simp only [Act.put]
      try simp only [List.getElem_toArray, List.getElem_cons_succ, List.getElem_cons_zero]
      try simp only [List.setIfInBounds_toArray, List.set_cons_succ, List.set_cons_zero]
      refine wpAnyH_take (i := 24) (v := ?v24_13) rfl (by kernel_rfl) (by kernel_rfl) (by kernel_rfl) (fun _ _ _ h => h) (Or.inl ⟨by rfl, ?y24_13⟩) hS ?r24_13
      case y24_13 =>
        rintro W hH
        have hcm := (hH.1.cell (p := ⟨gA, oA + i, none⟩) hgA).trans HCM.out
        obtain ⟨sc0, sc1, sc2, sc3, sc4, sc5, sc6⟩ := sum_cells hH.2
        go_simp
        with_reducible rfl
      simp only [Act.put]
      try simp only [List.getElem_toArray, List.getElem_cons_succ, List.getElem_cons_zero]
      try simp only [List.setIfInBounds_toArray, List.set_cons_succ, List.set_cons_zero]
      refine wpAnyH_take (i := 28) (v := ?v28_14) rfl (by kernel_rfl) (by kernel_rfl) (by kernel_rfl) (fun _ _ _ h => h) (Or.inl ⟨by rfl, ?y28_14⟩) hS ?r28_14
      case y28_14 =>
        rintro W hH
        go_simp
        with_reducible rfl
      simp only [Act.put]
      try simp only [List.getElem_toArray, List.getElem_cons_succ, List.getElem_cons_zero]
      try simp only [List.setIfInBounds_toArray, List.set_cons_succ, List.set_cons_zero]
      refine wpAnyH_take (i := 29) (v := ?v29_15) rfl (by kernel_rfl) (by kernel_rfl) (by kernel_rfl) (fun _ _ _ h => h) (Or.inl ⟨by rfl, ?y29_15⟩) hS ?r29_15
      case y29_15 =>
        rintro W hH
        have hcm := (hH.1.cell (p := ⟨gA, oA + i, none⟩) hgA).trans HCM.out
        obtain ⟨sc0, sc1, sc2, sc3, sc4, sc5, sc6⟩ := sum_cells hH.2
        go_simp
        with_reducible rfl
      simp only [Act.put]
      try simp only [List.getElem_toArray, List.getElem_cons_succ, List.getElem_cons_zero]
      try simp only [List.setIfInBounds_toArray, List.set_cons_succ, List.set_cons_zero]
      refine wpAnyH_take (i := 33) (v := ?v33_16) rfl (by kernel_rfl) (by kernel_rfl) (by kernel_rfl) (fun _ _ _ h => h) (Or.inl ⟨by rfl, ?y33_16⟩) hS ?r33_16
      case y33_16 =>
        rintro W hH
        go_simp
        with_reducible rfl
      simp only [Act.put]
      try simp only [List.getElem_toArray, List.getElem_cons_succ, List.getElem_cons_zero]
      try simp only [List.setIfInBounds_toArray, List.set_cons_succ, List.set_cons_zero]
      refine wpAnyH_take (i := 34) (v := ?v34_17) rfl (by kernel_rfl) (by kernel_rfl) (by kernel_rfl) (fun _ _ _ h => h) (Or.inl ⟨by rfl, ?y34_17⟩) hS ?r34_17
      case y34_17 =>
        rintro W hH
        have hcm := (hH.1.cell (p := ⟨gA, oA + i, none⟩) hgA).trans HCM.out
        obtain ⟨sc0, sc1, sc2, sc3, sc4, sc5, sc6⟩ := sum_cells hH.2
        go_simp
        with_reducible rfl
      simp only [Act.put]
      try simp only [List.getElem_toArray, List.getElem_cons_succ, List.getElem_cons_zero]
      try simp only [List.setIfInBounds_toArray, List.set_cons_succ, List.set_cons_zero]
      refine wpAnyH_take (i := 38) (v := ?v38_18) rfl (by kernel_rfl) (by kernel_rfl) (by kernel_rfl) (fun _ _ _ h => h) (Or.inl ⟨by rfl, ?y38_18⟩) hS ?r38_18
      case y38_18 =>
        rintro W hH
        go_simp
        with_reducible rfl
      simp only [Act.put]
      try simp only [List.getElem_toArray, List.getElem_cons_succ, List.getElem_cons_zero]
      try simp only [List.setIfInBounds_toArray, List.set_cons_succ, List.set_cons_zero]
      refine wpAnyH_take (i := 39) (v := ?v39_19) rfl (by kernel_rfl) (by kernel_rfl) (by kernel_rfl) (fun _ _ _ h => h) (Or.inl ⟨by rfl, ?y39_19⟩) hS ?r39_19
      case y39_19 =>
        rintro W hH
        have hcm := (hH.1.cell (p := ⟨gA, oA + i, none⟩) hgA).trans HCM.out
        obtain ⟨sc0, sc1, sc2, sc3, sc4, sc5, sc6⟩ := sum_cells hH.2
        go_simp
        with_reducible rfl
      simp only [Act.put]
      try simp only [List.getElem_toArray, List.getElem_cons_succ, List.getElem_cons_zero]
      try simp only [List.setIfInBounds_toArray, List.set_cons_succ, List.set_cons_zero]
      refine wpAnyH_ready (rs := [5]) (by kernel_rfl) (by simp) ?_
      refine AllReadyH.cons rfl (fun K' hK' => ?_) AllReadyH.nil
      go_simp
      refine (HD0.out _).mono ?_
      rintro e W0 ⟨rfl, bk⟩
      dsimp only
      have bq := bq.trans (bk.mono bq.size)
      have hS := And.intro (hS.1.trans (bk.mono hS.1.size)) (hS.2.below bk hS.2.lt)
      clear bk
      refine hK'.out _ _ hS (fun hS => ?_)
      clear hK' K'
      refine wpAnyH_take (i := 6) (v := Value.string (strB P29)) rfl (by kernel_rfl) (by kernel_rfl) (by kernel_rfl) (fun _ _ _ h => h) ?y6_20 hS ?r6_20
      case y6_20 => exact yieldsIf_bin .add 9 9 _ (.tmp 28) (.string (strB [109, 101, 116, 101, 114, 32])) (.string (strB D0)) _ (by kernel_rfl) (by kernel_rfl) (by kernel_rfl) (fun v => add_guard _ _ _ _ v) H29.out
      simp only [Act.put]
      try simp only [List.getElem_toArray, List.getElem_cons_succ, List.getElem_cons_zero]
      try simp only [List.setIfInBounds_toArray, List.set_cons_succ, List.set_cons_zero]
      refine wpAnyH_take (i := 7) (v := Value.string (strB P30)) rfl (by kernel_rfl) (by kernel_rfl) (by kernel_rfl) (fun _ _ _ h => h) ?y7_21 hS ?r7_21
      case y7_21 => exact yieldsIf_bin .add 9 9 (.tmp 29) _ (.string (strB P29)) (.string (strB [32, 101, 110, 101, 114, 103, 121, 32])) _ (by kernel_rfl) (by kernel_rfl) (by kernel_rfl) (fun v => add_guard _ _ _ _ v) H30.out
      simp only [Act.put]
      try simp only [List.getElem_toArray, List.getElem_cons_succ, List.getElem_cons_zero]
      try simp only [List.setIfInBounds_toArray, List.set_cons_succ, List.set_cons_zero]
      refine wpAnyH_ready (rs := [10]) (by kernel_rfl) (by simp) ?_
      refine AllReadyH.cons rfl (fun K' hK' => ?_) AllReadyH.nil
      go_simp
      refine (HD1.out _).mono ?_
      rintro e W1 ⟨rfl, bk⟩
      dsimp only
      have bq := bq.trans (bk.mono bq.size)
      have hS := And.intro (hS.1.trans (bk.mono hS.1.size)) (hS.2.below bk hS.2.lt)
      clear bk
      refine hK'.out _ _ hS (fun hS => ?_)
      clear hK' K'
      refine wpAnyH_take (i := 11) (v := Value.string (strB P34)) rfl (by kernel_rfl) (by kernel_rfl) (by kernel_rfl) (fun _ _ _ h => h) ?y11_22 hS ?r11_22
      case y11_22 => exact yieldsIf_bin .add 9 9 (.tmp 30) (.tmp 33) (.string (strB P30)) (.string (strB D1)) _ (by kernel_rfl) (by kernel_rfl) (by kernel_rfl) (fun v => add_guard _ _ _ _ v) H34.out
      simp only [Act.put]
      try simp only [List.getElem_toArray, List.getElem_cons_succ, List.getElem_cons_zero]
      try simp only [List.setIfInBounds_toArray, List.set_cons_succ, List.set_cons_zero]
      refine wpAnyH_take (i := 12) (v := Value.string (strB P35)) rfl (by kernel_rfl) (by kernel_rfl) (by kernel_rfl) (fun _ _ _ h => h) ?y12_23 hS ?r12_23
      case y12_23 => exact yieldsIf_bin .add 9 9 (.tmp 34) _ (.string (strB P34)) (.string (strB [32, 99, 111, 115, 116, 32])) _ (by kernel_rfl) (by kernel_rfl) (by kernel_rfl) (fun v => add_guard _ _ _ _ v) H35.out
      simp only [Act.put]
      try simp only [List.getElem_toArray, List.getElem_cons_succ, List.getElem_cons_zero]
      try simp only [List.setIfInBounds_toArray, List.set_cons_succ, List.set_cons_zero]
      refine wpAnyH_ready (rs := [15]) (by kernel_rfl) (by simp) ?_
      refine AllReadyH.cons rfl (fun K' hK' => ?_) AllReadyH.nil
      go_simp
      refine (HD2.out _).mono ?_
      rintro e W2 ⟨rfl, bk⟩
      dsimp only
      have bq := bq.trans (bk.mono bq.size)
      have hS := And.intro (hS.1.trans (bk.mono hS.1.size)) (hS.2.below bk hS.2.lt)
      clear bk
      refine hK'.out _ _ hS (fun hS => ?_)
      clear hK' K'
      refine wpAnyH_take (i := 16) (v := Value.string (strB P39)) rfl (by kernel_rfl) (by kernel_rfl) (by kernel_rfl) (fun _ _ _ h => h) ?y16_24 hS ?r16_24
      case y16_24 => exact yieldsIf_bin .add 9 9 (.tmp 35) (.tmp 38) (.string (strB P35)) (.string (strB D2)) _ (by kernel_rfl) (by kernel_rfl) (by kernel_rfl) (fun v => add_guard _ _ _ _ v) H39.out
      simp only [Act.put]
      try simp only [List.getElem_toArray, List.getElem_cons_succ, List.getElem_cons_zero]
      try simp only [List.setIfInBounds_toArray, List.set_cons_succ, List.set_cons_zero]
      refine wpAnyH_take (i := 17) (v := Value.string (strB P40)) rfl (by kernel_rfl) (by kernel_rfl) (by kernel_rfl) (fun _ _ _ h => h) ?y17_25 hS ?r17_25
      case y17_25 => exact yieldsIf_bin .add 9 9 (.tmp 39) _ (.string (strB P39)) (.string (strB [32, 105, 110, 116, 101, 114, 118, 97, 108, 115, 32])) _ (by kernel_rfl) (by kernel_rfl) (by kernel_rfl) (fun v => add_guard _ _ _ _ v) H40.out
      simp only [Act.put]
      try simp only [List.getElem_toArray, List.getElem_cons_succ, List.getElem_cons_zero]
      try simp only [List.setIfInBounds_toArray, List.set_cons_succ, List.set_cons_zero]
      refine wpAnyH_ready (rs := [20]) (by kernel_rfl) (by simp) ?_
      refine AllReadyH.cons rfl (fun K' hK' => ?_) AllReadyH.nil
      go_simp
      refine (HD3.out _).mono ?_
      rintro e W3 ⟨rfl, bk⟩
      dsimp only
      have bq := bq.trans (bk.mono bq.size)
      have hS := And.intro (hS.1.trans (bk.mono hS.1.size)) (hS.2.below bk hS.2.lt)
      clear bk
      refine hK'.out _ _ hS (fun hS => ?_)
      clear hK' K'
      refine wpAnyH_take (i := 21) (v := Value.string (strB P44)) rfl (by kernel_rfl) (by kernel_rfl) (by kernel_rfl) (fun _ _ _ h => h) ?y21_26 hS ?r21_26
      case y21_26 => exact yieldsIf_bin .add 9 9 (.tmp 40) (.tmp 43) (.string (strB P40)) (.string (strB D3)) _ (by kernel_rfl) (by kernel_rfl) (by kernel_rfl) (fun v => add_guard _ _ _ _ v) H44.out
      simp only [Act.put]
      try simp only [List.getElem_toArray, List.getElem_cons_succ, List.getElem_cons_zero]
      try simp only [List.setIfInBounds_toArray, List.set_cons_succ, List.set_cons_zero]
      refine wpAnyH_take (i := 22) (v := Value.string (strB P45)) rfl (by kernel_rfl) (by kernel_rfl) (by kernel_rfl) (fun _ _ _ h => h) ?y22_27 hS ?r22_27
      case y22_27 => exact yieldsIf_bin .add 9 9 (.tmp 44) _ (.string (strB P44)) (.string (strB [32, 102, 108, 97, 103, 103, 101, 100, 32])) _ (by kernel_rfl) (by kernel_rfl) (by kernel_rfl) (fun v => add_guard _ _ _ _ v) H45.out
      simp only [Act.put]
      try simp only [List.getElem_toArray, List.getElem_cons_succ, List.getElem_cons_zero]
      try simp only [List.setIfInBounds_toArray, List.set_cons_succ, List.set_cons_zero]
      refine wpAnyH_ready (rs := [25]) (by kernel_rfl) (by simp) ?_
      refine AllReadyH.cons rfl (fun K' hK' => ?_) AllReadyH.nil
      go_simp
      refine (HD4.out _).mono ?_
      rintro e W4 ⟨rfl, bk⟩
      dsimp only
      have bq := bq.trans (bk.mono bq.size)
      have hS := And.intro (hS.1.trans (bk.mono hS.1.size)) (hS.2.below bk hS.2.lt)
      clear bk
      refine hK'.out _ _ hS (fun hS => ?_)
      clear hK' K'
      refine wpAnyH_take (i := 26) (v := Value.string (strB P49)) rfl (by kernel_rfl) (by kernel_rfl) (by kernel_rfl) (fun _ _ _ h => h) ?y26_28 hS ?r26_28
      case y26_28 => exact yieldsIf_bin .add 9 9 (.tmp 45) (.tmp 48) (.string (strB P45)) (.string (strB D4)) _ (by kernel_rfl) (by kernel_rfl) (by kernel_rfl) (fun v => add_guard _ _ _ _ v) H49.out
      simp only [Act.put]
      try simp only [List.getElem_toArray, List.getElem_cons_succ, List.getElem_cons_zero]
      try simp only [List.setIfInBounds_toArray, List.set_cons_succ, List.set_cons_zero]
      refine wpAnyH_take (i := 27) (v := Value.string (strB P50)) rfl (by kernel_rfl) (by kernel_rfl) (by kernel_rfl) (fun _ _ _ h => h) ?y27_29 hS ?r27_29
      case y27_29 => exact yieldsIf_bin .add 9 9 (.tmp 49) _ (.string (strB P49)) (.string (strB [32, 115, 117, 115, 112, 101, 99, 116, 115, 32])) _ (by kernel_rfl) (by kernel_rfl) (by kernel_rfl) (fun v => add_guard _ _ _ _ v) H50.out
      simp only [Act.put]
      try simp only [List.getElem_toArray, List.getElem_cons_succ, List.getElem_cons_zero]
      try simp only [List.setIfInBounds_toArray, List.set_cons_succ, List.set_cons_zero]
      refine wpAnyH_ready (rs := [30]) (by kernel_rfl) (by simp) ?_
      refine AllReadyH.cons rfl (fun K' hK' => ?_) AllReadyH.nil
      go_simp
      refine (HD5.out _).mono ?_
      rintro e W5 ⟨rfl, bk⟩
      dsimp only
      have bq := bq.trans (bk.mono bq.size)
      have hS := And.intro (hS.1.trans (bk.mono hS.1.size)) (hS.2.below bk hS.2.lt)
      clear bk
      refine hK'.out _ _ hS (fun hS => ?_)
      clear hK' K'
      refine wpAnyH_take (i := 31) (v := Value.string (strB P54)) rfl (by kernel_rfl) (by kernel_rfl) (by kernel_rfl) (fun _ _ _ h => h) ?y31_30 hS ?r31_30
      case y31_30 => exact yieldsIf_bin .add 9 9 (.tmp 50) (.tmp 53) (.string (strB P50)) (.string (strB D5)) _ (by kernel_rfl) (by kernel_rfl) (by kernel_rfl) (fun v => add_guard _ _ _ _ v) H54.out
      simp only [Act.put]
      try simp only [List.getElem_toArray, List.getElem_cons_succ, List.getElem_cons_zero]
      try simp only [List.setIfInBounds_toArray, List.set_cons_succ, List.set_cons_zero]
      refine wpAnyH_take (i := 32) (v := Value.string (strB P55)) rfl (by kernel_rfl) (by kernel_rfl) (by kernel_rfl) (fun _ _ _ h => h) ?y32_31 hS ?r32_31
      case y32_31 => exact yieldsIf_bin .add 9 9 (.tmp 54) _ (.string (strB P54)) (.string (strB [32, 114, 101, 112, 108, 97, 99, 101, 100, 32])) _ (by kernel_rfl) (by kernel_rfl) (by kernel_rfl) (fun v => add_guard _ _ _ _ v) H55.out
      simp only [Act.put]
      try simp only [List.getElem_toArray, List.getElem_cons_succ, List.getElem_cons_zero]
      try simp only [List.setIfInBounds_toArray, List.set_cons_succ, List.set_cons_zero]
      refine wpAnyH_ready (rs := [35]) (by kernel_rfl) (by simp) ?_
      refine AllReadyH.cons rfl (fun K' hK' => ?_) AllReadyH.nil
      go_simp
      refine (HD6.out _).mono ?_
      rintro e W6 ⟨rfl, bk⟩
      dsimp only
      have bq := bq.trans (bk.mono bq.size)
      have hS := And.intro (hS.1.trans (bk.mono hS.1.size)) (hS.2.below bk hS.2.lt)
      clear bk
      refine hK'.out _ _ hS (fun hS => ?_)
      clear hK' K'
      refine wpAnyH_take (i := 36) (v := Value.string (strB P59)) rfl (by kernel_rfl) (by kernel_rfl) (by kernel_rfl) (fun _ _ _ h => h) ?y36_32 hS ?r36_32
      case y36_32 => exact yieldsIf_bin .add 9 9 (.tmp 55) (.tmp 58) (.string (strB P55)) (.string (strB D6)) _ (by kernel_rfl) (by kernel_rfl) (by kernel_rfl) (fun v => add_guard _ _ _ _ v) H59.out
      simp only [Act.put]
      try simp only [List.getElem_toArray, List.getElem_cons_succ, List.getElem_cons_zero]
      try simp only [List.setIfInBounds_toArray, List.set_cons_succ, List.set_cons_zero]
      refine wpAnyH_take (i := 37) (v := Value.string (strB P60)) rfl (by kernel_rfl) (by kernel_rfl) (by kernel_rfl) (fun _ _ _ h => h) ?y37_33 hS ?r37_33
      case y37_33 => exact yieldsIf_bin .add 9 9 (.tmp 59) _ (.string (strB P59)) (.string (strB [32, 99, 111, 114, 114, 101, 99, 116, 101, 100, 32])) _ (by kernel_rfl) (by kernel_rfl) (by kernel_rfl) (fun v => add_guard _ _ _ _ v) H60.out
      simp only [Act.put]
      try simp only [List.getElem_toArray, List.getElem_cons_succ, List.getElem_cons_zero]
      try simp only [List.setIfInBounds_toArray, List.set_cons_succ, List.set_cons_zero]
      refine wpAnyH_ready (rs := [40]) (by kernel_rfl) (by simp) ?_
      refine AllReadyH.cons rfl (fun K' hK' => ?_) AllReadyH.nil
      go_simp
      refine (HD7.out _).mono ?_
      rintro e W7 ⟨rfl, bk⟩
      dsimp only
      have bq := bq.trans (bk.mono bq.size)
      have hS := And.intro (hS.1.trans (bk.mono hS.1.size)) (hS.2.below bk hS.2.lt)
      clear bk
      refine hK'.out _ _ hS (fun hS => ?_)
      clear hK' K'
      refine wpAnyH_take (i := 41) (v := Value.string (strB P64)) rfl (by kernel_rfl) (by kernel_rfl) (by kernel_rfl) (fun _ _ _ h => h) ?y41_34 hS ?r41_34
      case y41_34 => exact yieldsIf_bin .add 9 9 (.tmp 60) (.tmp 63) (.string (strB P60)) (.string (strB D7)) _ (by kernel_rfl) (by kernel_rfl) (by kernel_rfl) (fun v => add_guard _ _ _ _ v) H64.out
      simp only [Act.put]
      try simp only [List.getElem_toArray, List.getElem_cons_succ, List.getElem_cons_zero]
      try simp only [List.setIfInBounds_toArray, List.set_cons_succ, List.set_cons_zero]
      refine wpAnyH_ready (rs := [42]) (by kernel_rfl) (by simp) ?_
      refine AllReadyH.cons rfl (fun K' hK' => ?_) AllReadyH.nil
      go_simp
      have hn8 : Held (W7.alloc (.cells #[.string (strB P64)] 9)) W7.heap.size 9 #[.string (strB P64)] := Held.new _ _ _
      have bb := bq.alloc bq.size (.cells #[.string (strB P64)] 9)
      have hS := And.intro (hS.1.alloc hS.1.size (.cells #[.string (strB P64)] 9)) (hS.2.alloc (.cells #[.string (strB P64)] 9))
      obtain ⟨wb, hwb⟩ : ∃ Y, W7.alloc (.cells #[.string (strB P64)] 9) = Y := ⟨_, rfl⟩
      rw [hwb] at bb hn8 hS ⊢
      clear hwb
      have hr8 := lown_up dr bb
      have hzw : w2.heap.size ≤ wb.heap.size := hS.1.size
      refine hK'.out _ _ hS (fun hS => ?_)
      clear hK' K'
      refine wpAnyH_ready (rs := [43]) (by kernel_rfl) (by simp) ?_
      refine AllReadyH.cons rfl (fun K' hK' => ?_) AllReadyH.nil
      refine wp_append_own _ (.tmp 23) (.tmp 65) 56 rfl w2.heap.size 9 i0 (.string ⟨#[]⟩) 1 16 Tryd.underlying56 hi0 hz0 hz1 hz2 rfl (by decide) u3 (linesN b i).length _ (by kernel_rfl) hr8 ⟨W7.heap.size, 0, none⟩ 1 1 [.string (strB P64)] (by kernel_rfl) rfl ?_ ?_ HBY.out.1 HBY.out.2 (by omega) ?_
      · intro j u hu
        cases j with
        | zero => simp at hu; subst hu; exact hn8.cell 0
        | succ j => simp at hu
      · intro u hu; simp at hu; subst hu; rfl
      intro v9 V9 o9 g9 _
      simp only [Act.put]
      have hS := And.intro (below_own hS.1 hr8 g9 hzw) (hS.2.kept g9 (hS.2.not_row (by decide) hr8))
      refine hK'.out _ _ hS (fun hS => ?_)
      clear hK' K'
      refine wpAnyH_take (i := 44) (v := ?v44_35) rfl (by kernel_rfl) (by kernel_rfl) (by kernel_rfl) (fun _ _ _ h => h) (Or.inl ⟨by rfl, ?y44_35⟩) hS ?r44_35
      case y44_35 =>
        rintro W hH
        go_simp
        with_reducible rfl
      simp only [Act.put]
      try simp only [List.getElem_toArray, List.getElem_cons_succ, List.getElem_cons_zero]
      try simp only [List.setIfInBounds_toArray, List.set_cons_succ, List.set_cons_zero]
      refine wpAnyH_done (by kernel_rfl) ?_ _
      have HR9 : Hid (V9.ownsRow w2.heap.size 9 1 v9 (rowsK b i m 0).length ((rowsK b i m 0).map strV)) := Lib.hid (by
        have e : rowsK b i m 0 = linesN b i ++ [P64] := by
          unfold rowsK
          rw [HW8.out, show bandN b m 0 = [] from rfl, List.map_nil, List.append_nil]
        rw [e, List.length_append, List.map_append]
        exact o9)
      have HB9 := Lib.hid hS.1
      clear o9 hS bq bb hn8 hr8 dr
      go_wp2_with fail
      go_loopw [3, 7] (BanQ b i m w2) (fun _ v _ => 8 - (intOf v).toNat)
      case atStart => exact ⟨0, by omega, rfl, HR9.out, HB9.out⟩
      case round =>
        obtain ⟨k, hk, rfl, hrow, hbl⟩ := hrel
        by_cases hlt3 : k < 8
        · have hkI : (k : Int) < 8 := by omega
          have hcm : wr.cell? ⟨gA, oA + i, none⟩ = some (.int .i64 (m : Nat)) := (hbl.cell (p := ⟨gA, oA + i, none⟩) hgA).trans HCM.out
          have hbt := hb.totAt m k hm64 hlt3
          have hE : EnI wr (A) n es := HL.out.up (HBW.out.trans (hbl.mono HBW.out.size))
          have HTM := Lib.hid (HTO.out wr hE m k)
          rw [totI_nat b m k hm64 hlt3] at HTM
          obtain ⟨te, hte⟩ : ∃ q, (b.totAt m k).energy = q := ⟨_, rfl⟩
          obtain ⟨tc, htc⟩ : ∃ q, (b.totAt m k).cost = q := ⟨_, rfl⟩
          obtain ⟨tm, htm⟩ : ∃ q, (b.totAt m k).many = q := ⟨_, rfl⟩
          have HTE : (b.totAt m k) = ⟨te, tc, tm⟩ := by rw [← hte, ← htc, ← htm]
          have HBL4 : bandLine b m ⟨k, hlt3⟩ = [98, 97, 110, 100, 32] ++ Lib.itoa (k : Int) ++ [32, 101, 110, 101, 114, 103, 121, 32] ++ Lib.itoa te ++ [32, 99, 111, 115, 116, 32] ++ Lib.itoa tc ++ [32, 109, 97, 110, 121, 32] ++ Lib.itoa tm := by
            rw [band_four]; dsimp only; rw [HTE]
          have HSC := bandN_succ b m k hlt3
          rw [HTE] at HTM hbt HSC
          obtain ⟨⟨t11, t12⟩, ⟨t21, t22⟩, t31, t32⟩ := hbt
          dsimp only at t11 t12 t21 t22 t31 t32 HSC
          have ITs : Hid ((Tryd.prog.info? 32).map (·.size) = some (⟨te, tc, tm⟩ : Tot).arr.size) := Lib.hid tot_size
          have hYz := hbl.size
          have HROW := Lib.hid hrow
          have HBL := Lib.hid hbl
          replace HTE := Lib.hid HTE
          replace HBL4 := Lib.hid HBL4
          replace HSC := Lib.hid HSC
          clear hrow hbl hte htc htm hE
          go_upto_region 12 with (first
            | (go_at_call 19; (with_reducible refine HTM.out.mono ?_); rintro e V1 ⟨rfl, b1⟩; (have z1 := b1.size))
            | ((with_reducible refine wpList_alloc_held (dst := some 8) 32 Tot.zero.arr (by kernel_rfl) alloc_tot ?_); intro V2 h8 b8 z8; (have l8 : V1.heap.size < V2.heap.size := (by omega)); clear z8; simp only [Act.put, List.setIfInBounds_toArray, List.set_cons_succ, List.set_cons_zero])
            | ((with_reducible refine wpList_store_held 32 (.tmp 8) (.tmp 77) V1.heap.size 32 _ (⟨te, tc, tm⟩ : Tot).arr (by kernel_rfl) (by kernel_rfl) (by kernel_rfl) h8 (by kernel_rfl) ITs.out (tot_one _) ?_); intro V3 g8 b9 z9; clear z9; simp only [Act.put, List.setIfInBounds_toArray, List.set_cons_succ, List.set_cons_zero]))
          have hV : Below wr.heap.size wr V3 := (b1.trans (b8.mono z1)).trans (b9.below z1 (by omega))
          have hrV := lown_up HROW.out hV
          have hbV := HBL.out.trans (hV.mono hYz)
          clear b1 b8 b9 h8 hV hcm HTM
          have hp8 := g8.lt
          have hp8w : w2.heap.size ≤ V1.heap.size := by omega
          generalize V1.heap.size = p8 at g8 hp8 hp8w z1 l8 ⊢
          obtain ⟨tc0, tc1, tc2⟩ := tot_cells g8
          dsimp only at tc0 tc1 tc2
          by_cases hpos : 0 < tm
          case neg =>
            obtain rfl : tm = 0 := by omega
            go_wp2_with fail
            go_roundw
            case rel =>
              refine ⟨k + 1, by omega, by go_num, ?_, hbV⟩
              have e : rowsK b i m (k + 1) = rowsK b i m k := by unfold rowsK; rw [HSC.out, if_neg (by simp)]
              rw [e]; exact hrV
            case measure => simp [intOf]; omega
          have e : rowsK b i m (k + 1) = rowsK b i m k ++ [bandLine b m ⟨k, hlt3⟩] := by unfold rowsK; rw [HSC.out, if_pos (by omega)]; simp [List.append_assoc]
          have HEK := Lib.hid e
          clear e tc0 tc1 tc2
          obtain ⟨_, _, tc2⟩ := tot_cells g8
          dsimp only at tc2
          go_upto_region 13 with fail
          obtain ⟨D0, hD0⟩ : ∃ L, Lib.itoa (k : Int) = L := ⟨_, rfl⟩
          have hl0 : D0.length ≤ 21 := by rw [← hD0]; exact Lib.itoa_length_le _ (by omega) (by omega)
          have HD0 := Lib.hid (fun V => digits_any (k : Int) (by omega) (by omega) V)
          rw [hD0] at HD0
          obtain ⟨D1, hD1⟩ : ∃ L, Lib.itoa te = L := ⟨_, rfl⟩
          have hl1 : D1.length ≤ 21 := by rw [← hD1]; exact Lib.itoa_length_le _ (by omega) (by omega)
          have HD1 := Lib.hid (fun V => digits_any te (by omega) (by omega) V)
          rw [hD1] at HD1
          obtain ⟨D2, hD2⟩ : ∃ L, Lib.itoa tc = L := ⟨_, rfl⟩
          have hl2 : D2.length ≤ 21 := by rw [← hD2]; exact Lib.itoa_length_le _ (by omega) (by omega)
          have HD2 := Lib.hid (fun V => digits_any tc (by omega) (by omega) V)
          rw [hD2] at HD2
          obtain ⟨D3, hD3⟩ : ∃ L, Lib.itoa tm = L := ⟨_, rfl⟩
          have hl3 : D3.length ≤ 21 := by rw [← hD3]; exact Lib.itoa_length_le _ (by omega) (by omega)
          have HD3 := Lib.hid (fun V => digits_any tm (by omega) (by omega) V)
          rw [hD3] at HD3
          obtain ⟨P84, h84⟩ : ∃ L : List UInt8, [98, 97, 110, 100, 32] ++ D0 = L := ⟨_, rfl⟩
          have l84 : P84.length ≤ 26 := by rw [← h84]; simp; omega
          have H84 : Hid (∀ v, (binOp .add 9 (.string (strB [98, 97, 110, 100, 32])) (.string (strB D0))).run Tryd.prog v = .ok (.string (strB P84)) v) := Lib.hid (fun v => by rw [← h84]; exact add_str _ _ (by first | omega | (simp; omega)) v)
          obtain ⟨P85, h85⟩ : ∃ L : List UInt8, P84 ++ [32, 101, 110, 101, 114, 103, 121, 32] = L := ⟨_, rfl⟩
          have l85 : P85.length ≤ 34 := by rw [← h85]; simp; omega
          have H85 : Hid (∀ v, (binOp .add 9 (.string (strB P84)) (.string (strB [32, 101, 110, 101, 114, 103, 121, 32]))).run Tryd.prog v = .ok (.string (strB P85)) v) := Lib.hid (fun v => by rw [← h85]; exact add_str _ _ (by first | omega | (simp; omega)) v)
          obtain ⟨P89, h89⟩ : ∃ L : List UInt8, P85 ++ D1 = L := ⟨_, rfl⟩
          have l89 : P89.length ≤ 55 := by rw [← h89]; simp; omega
          have H89 : Hid (∀ v, (binOp .add 9 (.string (strB P85)) (.string (strB D1))).run Tryd.prog v = .ok (.string (strB P89)) v) := Lib.hid (fun v => by rw [← h89]; exact add_str _ _ (by first | omega | (simp; omega)) v)
          obtain ⟨P90, h90⟩ : ∃ L : List UInt8, P89 ++ [32, 99, 111, 115, 116, 32] = L := ⟨_, rfl⟩
          have l90 : P90.length ≤ 61 := by rw [← h90]; simp; omega
          have H90 : Hid (∀ v, (binOp .add 9 (.string (strB P89)) (.string (strB [32, 99, 111, 115, 116, 32]))).run Tryd.prog v = .ok (.string (strB P90)) v) := Lib.hid (fun v => by rw [← h90]; exact add_str _ _ (by first | omega | (simp; omega)) v)
          obtain ⟨P94, h94⟩ : ∃ L : List UInt8, P90 ++ D2 = L := ⟨_, rfl⟩
          have l94 : P94.length ≤ 82 := by rw [← h94]; simp; omega
          have H94 : Hid (∀ v, (binOp .add 9 (.string (strB P90)) (.string (strB D2))).run Tryd.prog v = .ok (.string (strB P94)) v) := Lib.hid (fun v => by rw [← h94]; exact add_str _ _ (by first | omega | (simp; omega)) v)
          obtain ⟨P95, h95⟩ : ∃ L : List UInt8, P94 ++ [32, 109, 97, 110, 121, 32] = L := ⟨_, rfl⟩
          have l95 : P95.length ≤ 88 := by rw [← h95]; simp; omega
          have H95 : Hid (∀ v, (binOp .add 9 (.string (strB P94)) (.string (strB [32, 109, 97, 110, 121, 32]))).run Tryd.prog v = .ok (.string (strB P95)) v) := Lib.hid (fun v => by rw [← h95]; exact add_str _ _ (by first | omega | (simp; omega)) v)
          obtain ⟨P99, h99⟩ : ∃ L : List UInt8, P95 ++ D3 = L := ⟨_, rfl⟩
          have l99 : P99.length ≤ 109 := by rw [← h99]; simp; omega
          have H99 : Hid (∀ v, (binOp .add 9 (.string (strB P95)) (.string (strB D3))).run Tryd.prog v = .ok (.string (strB P99)) v) := Lib.hid (fun v => by rw [← h99]; exact add_str _ _ (by first | omega | (simp; omega)) v)
          have HBL4 := HBL4.out
          rw [hD0, hD1, hD2, hD3] at HBL4
          have HB4 : Hid (bandLine b m ⟨k, hlt3⟩ = P99) := Lib.hid (by rw [HBL4, ← h99, ← h95, ← h94, ← h90, ← h89, ← h85, ← h84])
          clear hD0 hl0 hD1 hl1 hD2 hl2 hD3 hl3 h84 l84 h85 l85 h89 l89 h90 l90 h94 l94 h95 l95 h99 l99
          obtain ⟨wd, hwd⟩ : ∃ Y : World, V3.drew = Y := ⟨_, rfl⟩
          have dr : wd.ownsRow w2.heap.size 9 1 u3 (rowsK b i m k).length ((rowsK b i m k).map strV) := by rw [← hwd]; exact hrV.drew
          have hS : Below w2.heap.size w2 wd ∧ Held wd p8 32 (⟨te, tc, tm⟩ : Tot).arr := by rw [← hwd]; exact ⟨hbV.drew, g8.drew⟩
          have bq := Below.refl wd.heap.size wd
          have HBY := Lib.hid (show (rowsK b i m k).length + 1 ≤ maxLen ∧ ((rowsK b i m k).length + 1) * 16 ≤ 140737488355328 by
            have h1 := linesN_len b i (by omega)
            have h2 := bandN_len b m k
            have h3 : (rowsK b i m k).length ≤ 700 := by unfold rowsK; simp only [List.length_append, List.length_map, List.length_cons, List.length_nil]; omega
            unfold maxLen; omega)
          clear hrV hbV g8 tc2 HSC HTE HROW HBL HR9 HB9
          refine wp_region_held (S := fun Y => Below w2.heap.size w2 Y ∧ Held Y p8 32 (⟨te, tc, tm⟩ : Tot).arr) (by kernel_rfl) ?_
          change wpAnyH _ _ _ _ _ _ _ _ V3.drew
          rw [hwd]
          clear hwd
          refine wpAnyH_take (i := 0) (v := ?v0_3001) rfl (by kernel_rfl) (by kernel_rfl) (by kernel_rfl) (fun _ _ _ h => h) (Or.inl ⟨by rfl, ?y0_3001⟩) hS ?r0_3001
          case y0_3001 =>
            rintro W hH
            go_simp
            with_reducible rfl
          simp only [Act.put]
          try simp only [List.getElem_toArray, List.getElem_cons_zero]
          try simp only [List.setIfInBounds_toArray, List.set_cons_succ, List.set_cons_zero]
          refine wpAnyH_take (i := 1) (v := ?v1_3002) rfl (by kernel_rfl) (by kernel_rfl) (by kernel_rfl) (fun _ _ _ h => h) (Or.inl ⟨by rfl, ?y1_3002⟩) hS ?r1_3002
          case y1_3002 =>
            rintro W hH
            go_simp
            with_reducible rfl
          simp only [Act.put]
          try simp only [List.getElem_toArray, List.getElem_cons_succ, List.getElem_cons_zero]
          try simp only [List.setIfInBounds_toArray, List.set_cons_succ, List.set_cons_zero]
          refine wpAnyH_take (i := 5) (v := ?v5_3003) rfl (by kernel_rfl) (by kernel_rfl) (by kernel_rfl) (fun _ _ _ h => h) (Or.inl ⟨by rfl, ?y5_3003⟩) hS ?r5_3003
          case y5_3003 =>
            rintro W hH
            go_simp
            with_reducible rfl
          simp only [Act.put]
          try simp only [List.getElem_toArray, List.getElem_cons_succ, List.getElem_cons_zero]
          try simp only [List.setIfInBounds_toArray, List.set_cons_succ, List.set_cons_zero]
          refine wpAnyH_take (i := 6) (v := ?v6_3004) rfl (by kernel_rfl) (by kernel_rfl) (by kernel_rfl) (fun _ _ _ h => h) (Or.inl ⟨by rfl, ?y6_3004⟩) hS ?r6_3004
          case y6_3004 =>
            rintro W hH
            have hcm := (hH.1.cell (p := ⟨gA, oA + i, none⟩) hgA).trans HCM.out
            obtain ⟨tc0, tc1, tc2⟩ := tot_cells hH.2
            dsimp only at tc0 tc1 tc2
            go_simp
            with_reducible rfl
          simp only [Act.put]
          try simp only [List.getElem_toArray, List.getElem_cons_succ, List.getElem_cons_zero]
          try simp only [List.setIfInBounds_toArray, List.set_cons_succ, List.set_cons_zero]
          refine wpAnyH_take (i := 10) (v := ?v10_3005) rfl (by kernel_rfl) (by kernel_rfl) (by kernel_rfl) (fun _ _ _ h => h) (Or.inl ⟨by rfl, ?y10_3005⟩) hS ?r10_3005
          case y10_3005 =>
            rintro W hH
            go_simp
            with_reducible rfl
          simp only [Act.put]
          try simp only [List.getElem_toArray, List.getElem_cons_succ, List.getElem_cons_zero]
          try simp only [List.setIfInBounds_toArray, List.set_cons_succ, List.set_cons_zero]
          refine wpAnyH_take (i := 11) (v := ?v11_3006) rfl (by kernel_rfl) (by kernel_rfl) (by kernel_rfl) (fun _ _ _ h => h) (Or.inl ⟨by rfl, ?y11_3006⟩) hS ?r11_3006
          case y11_3006 =>
            rintro W hH
            have hcm := (hH.1.cell (p := ⟨gA, oA + i, none⟩) hgA).trans HCM.out
            obtain ⟨tc0, tc1, tc2⟩ := tot_cells hH.2
            dsimp only at tc0 tc1 tc2
            go_simp
            with_reducible rfl
          simp only [Act.put]
          try simp only [List.getElem_toArray, List.getElem_cons_succ, List.getElem_cons_zero]
          try simp only [List.setIfInBounds_toArray, List.set_cons_succ, List.set_cons_zero]
          refine wpAnyH_take (i := 15) (v := ?v15_3007) rfl (by kernel_rfl) (by kernel_rfl) (by kernel_rfl) (fun _ _ _ h => h) (Or.inl ⟨by rfl, ?y15_3007⟩) hS ?r15_3007
          case y15_3007 =>
            rintro W hH
            go_simp
            with_reducible rfl
          simp only [Act.put]
          try simp only [List.getElem_toArray, List.getElem_cons_succ, List.getElem_cons_zero]
          try simp only [List.setIfInBounds_toArray, List.set_cons_succ, List.set_cons_zero]
          refine wpAnyH_take (i := 16) (v := ?v16_3008) rfl (by kernel_rfl) (by kernel_rfl) (by kernel_rfl) (fun _ _ _ h => h) (Or.inl ⟨by rfl, ?y16_3008⟩) hS ?r16_3008
          case y16_3008 =>
            rintro W hH
            have hcm := (hH.1.cell (p := ⟨gA, oA + i, none⟩) hgA).trans HCM.out
            obtain ⟨tc0, tc1, tc2⟩ := tot_cells hH.2
            dsimp only at tc0 tc1 tc2
            go_simp
            with_reducible rfl
          simp only [Act.put]
          try simp only [List.getElem_toArray, List.getElem_cons_succ, List.getElem_cons_zero]
          try simp only [List.setIfInBounds_toArray, List.set_cons_succ, List.set_cons_zero]
          refine wpAnyH_ready (rs := [2]) (by kernel_rfl) (by simp) ?_
          refine AllReadyH.cons rfl (fun K' hK' => ?_) AllReadyH.nil
          go_simp
          refine (HD0.out _).mono ?_
          rintro e W0 ⟨rfl, bk⟩
          dsimp only
          have bq := bq.trans (bk.mono bq.size)
          have hS := And.intro (hS.1.trans (bk.mono hS.1.size)) (hS.2.below bk hS.2.lt)
          clear bk
          refine hK'.out _ _ hS (fun hS => ?_)
          clear hK' K'
          refine wpAnyH_take (i := 3) (v := Value.string (strB P84)) rfl (by kernel_rfl) (by kernel_rfl) (by kernel_rfl) (fun _ _ _ h => h) ?y3_3009 hS ?r3_3009
          case y3_3009 => exact yieldsIf_bin .add 9 9 _ (.tmp 83) (.string (strB [98, 97, 110, 100, 32])) (.string (strB D0)) _ (by kernel_rfl) (by kernel_rfl) (by kernel_rfl) (fun v => add_guard _ _ _ _ v) H84.out
          simp only [Act.put]
          try simp only [List.getElem_toArray, List.getElem_cons_succ, List.getElem_cons_zero]
          try simp only [List.setIfInBounds_toArray, List.set_cons_succ, List.set_cons_zero]
          refine wpAnyH_take (i := 4) (v := Value.string (strB P85)) rfl (by kernel_rfl) (by kernel_rfl) (by kernel_rfl) (fun _ _ _ h => h) ?y4_3010 hS ?r4_3010
          case y4_3010 => exact yieldsIf_bin .add 9 9 (.tmp 84) _ (.string (strB P84)) (.string (strB [32, 101, 110, 101, 114, 103, 121, 32])) _ (by kernel_rfl) (by kernel_rfl) (by kernel_rfl) (fun v => add_guard _ _ _ _ v) H85.out
          simp only [Act.put]
          try simp only [List.getElem_toArray, List.getElem_cons_succ, List.getElem_cons_zero]
          try simp only [List.setIfInBounds_toArray, List.set_cons_succ, List.set_cons_zero]
          refine wpAnyH_ready (rs := [7]) (by kernel_rfl) (by simp) ?_
          refine AllReadyH.cons rfl (fun K' hK' => ?_) AllReadyH.nil
          go_simp
          refine (HD1.out _).mono ?_
          rintro e W1 ⟨rfl, bk⟩
          dsimp only
          have bq := bq.trans (bk.mono bq.size)
          have hS := And.intro (hS.1.trans (bk.mono hS.1.size)) (hS.2.below bk hS.2.lt)
          clear bk
          refine hK'.out _ _ hS (fun hS => ?_)
          clear hK' K'
          refine wpAnyH_take (i := 8) (v := Value.string (strB P89)) rfl (by kernel_rfl) (by kernel_rfl) (by kernel_rfl) (fun _ _ _ h => h) ?y8_3011 hS ?r8_3011
          case y8_3011 => exact yieldsIf_bin .add 9 9 (.tmp 85) (.tmp 88) (.string (strB P85)) (.string (strB D1)) _ (by kernel_rfl) (by kernel_rfl) (by kernel_rfl) (fun v => add_guard _ _ _ _ v) H89.out
          simp only [Act.put]
          try simp only [List.getElem_toArray, List.getElem_cons_succ, List.getElem_cons_zero]
          try simp only [List.setIfInBounds_toArray, List.set_cons_succ, List.set_cons_zero]
          refine wpAnyH_take (i := 9) (v := Value.string (strB P90)) rfl (by kernel_rfl) (by kernel_rfl) (by kernel_rfl) (fun _ _ _ h => h) ?y9_3012 hS ?r9_3012
          case y9_3012 => exact yieldsIf_bin .add 9 9 (.tmp 89) _ (.string (strB P89)) (.string (strB [32, 99, 111, 115, 116, 32])) _ (by kernel_rfl) (by kernel_rfl) (by kernel_rfl) (fun v => add_guard _ _ _ _ v) H90.out
          simp only [Act.put]
          try simp only [List.getElem_toArray, List.getElem_cons_succ, List.getElem_cons_zero]
          try simp only [List.setIfInBounds_toArray, List.set_cons_succ, List.set_cons_zero]
          refine wpAnyH_ready (rs := [12]) (by kernel_rfl) (by simp) ?_
          refine AllReadyH.cons rfl (fun K' hK' => ?_) AllReadyH.nil
          go_simp
          refine (HD2.out _).mono ?_
          rintro e W2 ⟨rfl, bk⟩
          dsimp only
          have bq := bq.trans (bk.mono bq.size)
          have hS := And.intro (hS.1.trans (bk.mono hS.1.size)) (hS.2.below bk hS.2.lt)
          clear bk
          refine hK'.out _ _ hS (fun hS => ?_)
          clear hK' K'
          refine wpAnyH_take (i := 13) (v := Value.string (strB P94)) rfl (by kernel_rfl) (by kernel_rfl) (by kernel_rfl) (fun _ _ _ h => h) ?y13_3013 hS ?r13_3013
          case y13_3013 => exact yieldsIf_bin .add 9 9 (.tmp 90) (.tmp 93) (.string (strB P90)) (.string (strB D2)) _ (by kernel_rfl) (by kernel_rfl) (by kernel_rfl) (fun v => add_guard _ _ _ _ v) H94.out
          simp only [Act.put]
          try simp only [List.getElem_toArray, List.getElem_cons_succ, List.getElem_cons_zero]
          try simp only [List.setIfInBounds_toArray, List.set_cons_succ, List.set_cons_zero]
          refine wpAnyH_take (i := 14) (v := Value.string (strB P95)) rfl (by kernel_rfl) (by kernel_rfl) (by kernel_rfl) (fun _ _ _ h => h) ?y14_3014 hS ?r14_3014
          case y14_3014 => exact yieldsIf_bin .add 9 9 (.tmp 94) _ (.string (strB P94)) (.string (strB [32, 109, 97, 110, 121, 32])) _ (by kernel_rfl) (by kernel_rfl) (by kernel_rfl) (fun v => add_guard _ _ _ _ v) H95.out
          simp only [Act.put]
          try simp only [List.getElem_toArray, List.getElem_cons_succ, List.getElem_cons_zero]
          try simp only [List.setIfInBounds_toArray, List.set_cons_succ, List.set_cons_zero]
          refine wpAnyH_ready (rs := [17]) (by kernel_rfl) (by simp) ?_
          refine AllReadyH.cons rfl (fun K' hK' => ?_) AllReadyH.nil
          go_simp
          refine (HD3.out _).mono ?_
          rintro e W3 ⟨rfl, bk⟩
          dsimp only
          have bq := bq.trans (bk.mono bq.size)
          have hS := And.intro (hS.1.trans (bk.mono hS.1.size)) (hS.2.below bk hS.2.lt)
          clear bk
          refine hK'.out _ _ hS (fun hS => ?_)
          clear hK' K'
          refine wpAnyH_take (i := 18) (v := Value.string (strB P99)) rfl (by kernel_rfl) (by kernel_rfl) (by kernel_rfl) (fun _ _ _ h => h) ?y18_3015 hS ?r18_3015
          case y18_3015 => exact yieldsIf_bin .add 9 9 (.tmp 95) (.tmp 98) (.string (strB P95)) (.string (strB D3)) _ (by kernel_rfl) (by kernel_rfl) (by kernel_rfl) (fun v => add_guard _ _ _ _ v) H99.out
          simp only [Act.put]
          try simp only [List.getElem_toArray, List.getElem_cons_succ, List.getElem_cons_zero]
          try simp only [List.setIfInBounds_toArray, List.set_cons_succ, List.set_cons_zero]
          refine wpAnyH_ready (rs := [19]) (by kernel_rfl) (by simp) ?_
          refine AllReadyH.cons rfl (fun K' hK' => ?_) AllReadyH.nil
          go_simp
          have hn8 : Held (W3.alloc (.cells #[.string (strB P99)] 9)) W3.heap.size 9 #[.string (strB P99)] := Held.new _ _ _
          have bb := bq.alloc bq.size (.cells #[.string (strB P99)] 9)
          have hS := And.intro (hS.1.alloc hS.1.size (.cells #[.string (strB P99)] 9)) (hS.2.alloc (.cells #[.string (strB P99)] 9))
          obtain ⟨wb, hwb⟩ : ∃ Y, W3.alloc (.cells #[.string (strB P99)] 9) = Y := ⟨_, rfl⟩
          rw [hwb] at bb hn8 hS ⊢
          clear hwb
          have hr8 := lown_up dr bb
          have hzw : w2.heap.size ≤ wb.heap.size := hS.1.size
          refine hK'.out _ _ hS (fun hS => ?_)
          clear hK' K'
          refine wpAnyH_ready (rs := [20]) (by kernel_rfl) (by simp) ?_
          refine AllReadyH.cons rfl (fun K' hK' => ?_) AllReadyH.nil
          refine wp_append_own _ (.tmp 81) (.tmp 100) 56 rfl w2.heap.size 9 i0 (.string ⟨#[]⟩) 1 16 Tryd.underlying56 hi0 hz0 hz1 hz2 rfl (by decide) u3 (rowsK b i m k).length _ (by kernel_rfl) hr8 ⟨W3.heap.size, 0, none⟩ 1 1 [.string (strB P99)] (by kernel_rfl) rfl ?_ ?_ HBY.out.1 HBY.out.2 (by omega) ?_
          · intro j u hu
            cases j with
            | zero => simp at hu; subst hu; exact hn8.cell 0
            | succ j => simp at hu
          · intro u hu; simp at hu; subst hu; rfl
          intro v9 V9 o9 g9 _
          simp only [Act.put]
          have hS := And.intro (below_own hS.1 hr8 g9 hzw) (hS.2.kept g9 (hS.2.not_row (by decide) hr8))
          refine hK'.out _ _ hS (fun hS => ?_)
          clear hK' K'
          refine wpAnyH_take (i := 21) (v := ?v21_3016) rfl (by kernel_rfl) (by kernel_rfl) (by kernel_rfl) (fun _ _ _ h => h) (Or.inl ⟨by rfl, ?y21_3016⟩) hS ?r21_3016
          case y21_3016 =>
            rintro W hH
            go_simp
            with_reducible rfl
          simp only [Act.put]
          try simp only [List.getElem_toArray, List.getElem_cons_succ, List.getElem_cons_zero]
          try simp only [List.setIfInBounds_toArray, List.set_cons_succ, List.set_cons_zero]
          refine wpAnyH_done (by kernel_rfl) ?_ _
          go_wp2_with fail
          go_roundw
          case rel =>
            refine ⟨k + 1, by omega, by go_num, ?_, hS.1⟩
            rw [HEK.out, HB4.out, List.length_append, List.map_append]
            exact o9
          case measure => simp [intOf]; omega
        · obtain rfl : k = 8 := by omega
          have e : linesN b (i + 1) = rowsK b i m 8 := by
            rw [linesN_succ b i m HHM.out]
            unfold rowsK meterLines
            rw [List.append_assoc]; rfl
          have HE := Lib.hid e
          clear e
          go_wp2_with fail
          go_roundw
          case rel => exact ⟨i + 1, by omega, by go_num, by rw [HE.out]; exact hrow, hbl⟩
          case measure => simp [intOf]; omega
    · obtain rfl : i = (metI b 64).length := by omega
      have hll : linesN b (metI b 64).length = linesL b := by unfold linesN linesL; rw [List.take_of_length_le (by simp [metI])]
      rw [hll] at hrow
      obtain ⟨A9, c9, rfl, hs9⟩ := StrsI.of_own hrow
      have hfin : decide (((metI b 64).length : Int) < ((metI b 64).length : Int)) = false := by simp
      clear hrow hll
      go_wp2_with fail
      go_ret
      exact ⟨⟨A9, c9, rfl, hs9⟩, HBW.out.trans (hbl.mono HBW.out.size)⟩
end Go.Proofs.YtjcpgnachkhjaaaDoor
