/- kilowattref15.May, within; kilowattref25.adds, beyond. -/
import Derived.Test.YtjcpgnachkhjaaaDoorLedRefP
import Derived.Test.YtjcpgnachkhjaaaDoorLedNew
import Derived.Test.YtjcpgnachkhjaaaDoorLedEq
import Derived.Deep.Cut
namespace Go.Proofs.YtjcpgnachkhjaaaDoor
open Go.RowKit
attribute [local go_sem] Oper.semAt_some
set_option linter.unusedVariables false
set_option linter.unusedSimpArgs false
set_option maxRecDepth 100000
theorem within_any (n a b : Int) (w : World) : Calls Tryd.prog 38 #[.int .i64 n, .int .i64 a, .int .i64 b] w fun e w' => e = .returned (.bool (decide (a ≤ n ∧ n ≤ b))) ∧ w' = w := by
  by_cases h1 : a ≤ n
  · by_cases h2 : n ≤ b
    · go_in
      go_wp2
      go_ret
      exact ⟨by simp [h1, h2], rfl⟩
    · go_in
      go_wp2
      go_ret
      exact ⟨by simp [h1, h2], rfl⟩
  · have hf : decide (a ≤ n ∧ n ≤ b) = false := by simp; omega
    rw [hf]
    go_in
    go_wp2
    go_ret
    exact ⟨rfl, rfl⟩
theorem beyond_any (n : Int) (w : World) : Calls Tryd.prog 30 #[.int .i64 n] w fun e w' => e = .returned (.bool (beyB n)) ∧ w' = w := by
  unfold beyB
  by_cases h1 : 4611686018427387904 < n
  · go_in
    go_wp2
    go_ret
    exact ⟨by simp [h1], rfl⟩
  · by_cases h2 : n < -4611686018427387904
    · go_in
      go_wp2
      go_ret
      exact ⟨by simp [h1, h2], rfl⟩
    · go_in
      go_wp2
      go_ret
      exact ⟨by simp [h1, h2], rfl⟩
theorem adds_any (x : Ent) (w : World) : Calls Tryd.prog 29 #[.agg x.arr] w fun e w' => e = .returned (.bool (addsB x)) ∧ Below w.heap.size w w' := by
  obtain ⟨X, hX⟩ : ∃ X, x.arr = X := ⟨_, rfl⟩
  rw [hX]
  have HX := Lib.hid hX
  clear hX
  go_in
  go_upto_region 1 with (fail)
  have hX0 : Held (w.alloc (.cells X 28)) w.heap.size 28 X := Held.new w _ _
  have hb0 : Below w.heap.size w (w.alloc (.cells X 28)) := (Below.refl _ _).alloc (Nat.le_refl _) _
  generalize w.alloc (.cells X 28) = W1 at hX0 hb0 ⊢
  obtain ⟨xk, _⟩ := ent_cells (e := x) (by rw [HX.out]; exact hX0)
  by_cases h1 : x.kind = 1
  · have HV : Hid (addsB x = true) := Lib.hid (by simp [addsB, h1])
    rw [h1] at xk
    go_wp2_with fail
    go_ret
    exact ⟨by rw [HV.out]; rfl, hb0⟩
  · by_cases h4 : x.kind = 4
    · have HV : Hid (addsB x = true) := Lib.hid (by simp [addsB, h4])
      rw [h4] at xk
      go_wp2_with fail
      go_ret
      exact ⟨by rw [HV.out]; rfl, hb0⟩
    · have HV : Hid (addsB x = false) := Lib.hid (by simp [addsB, h1, h4])
      have b1 : (x.kind == 1) = false := by simp [h1]
      have b4 : (x.kind == 4) = false := by simp [h4]
      go_wp2_with fail
      go_ret
      exact ⟨by rw [HV.out]; rfl, hb0⟩
def Z32 : Array Value := ((List.replicate 32 (0 : Int)).map (Value.int .u8)).toArray
theorem alloc_hash (w : World) : (Instr.alloc 26 true (.tuple #[])).run Tryd.prog w = .ok (.pointer (some ⟨w.heap.size, 0, none⟩)) (w.alloc (.cells Z32 26)) := by kernel_rfl
theorem build_hash (w : World) : (Instr.build 26 #[]).run Tryd.prog w = .ok (.agg Z32) w := by kernel_rfl
set_option maxHeartbeats 4000000 in
theorem may15_any (x : Ent) (hx : x.ok) (w : World) : Calls Tryd.prog 28 #[.agg x.arr] w fun e w' => e = .returned (.bool (mayE x)) ∧ Below w.heap.size w w' := by
  have hlen := hx.2.2.2.2.2.2.2.2.2.2.1
  obtain ⟨X, hX⟩ : ∃ X, x.arr = X := ⟨_, rfl⟩
  rw [hX]
  have HX := Lib.hid hX
  clear hX
  go_in
  go_upto_region 1 with (fail)
  have hX0 : Held (w.alloc (.cells X 28)) w.heap.size 28 X := Held.new w _ _
  have hb0 : Below w.heap.size w (w.alloc (.cells X 28)) := (Below.refl _ _).alloc (Nat.le_refl _) _
  generalize w.alloc (.cells X 28) = W1 at hX0 hb0 ⊢
  have hlt := hX0.lt
  obtain ⟨bM, hM⟩ : ∃ b, decide (0 ≤ x.meter ∧ x.meter ≤ 63) = b := ⟨_, rfl⟩
  have HM := Lib.hid (fun v => within_any x.meter 0 63 v)
  rw [hM] at HM
  replace hM := Lib.hid hM
  obtain ⟨bT, hT⟩ : ∃ b, decide (0 ≤ x.start ∧ x.start ≤ 253402300799) = b := ⟨_, rfl⟩
  have HT := Lib.hid (fun v => within_any x.start 0 253402300799 v)
  rw [hT] at HT
  replace hT := Lib.hid hT
  obtain ⟨bBd, hBd⟩ : ∃ b, decide (0 ≤ x.band ∧ x.band ≤ 7) = b := ⟨_, rfl⟩
  have HBd := Lib.hid (fun v => within_any x.band 0 7 v)
  rw [hBd] at HBd
  replace hBd := Lib.hid hBd
  obtain ⟨bP, hP⟩ : ∃ b, decide (0 ≤ x.price ∧ x.price ≤ 1073741824) = b := ⟨_, rfl⟩
  have HP := Lib.hid (fun v => within_any x.price 0 1073741824 v)
  rw [hP] at HP
  replace hP := Lib.hid hP
  obtain ⟨bF, hF⟩ : ∃ b, decide (0 ≤ x.flags ∧ x.flags ≤ 15) = b := ⟨_, rfl⟩
  have HF := Lib.hid (fun v => within_any x.flags 0 15 v)
  rw [hF] at HF
  replace hF := Lib.hid hF
  obtain ⟨bE, hE⟩ : ∃ b, decide (0 ≤ x.energy ∧ x.energy ≤ 4611686018427387904) = b := ⟨_, rfl⟩
  have HE := Lib.hid (fun v => within_any x.energy 0 4611686018427387904 v)
  rw [hE] at HE
  replace hE := Lib.hid hE
  obtain ⟨bC, hC⟩ : ∃ b, decide (0 ≤ x.cost ∧ x.cost ≤ 4611686018427387904) = b := ⟨_, rfl⟩
  have HC := Lib.hid (fun v => within_any x.cost 0 4611686018427387904 v)
  rw [hC] at HC
  replace hC := Lib.hid hC
  obtain ⟨bE2, hE2⟩ : ∃ b, decide (-4611686018427387904 ≤ x.energy ∧ x.energy ≤ 4611686018427387904) = b := ⟨_, rfl⟩
  have HE2 := Lib.hid (fun v => within_any x.energy (-4611686018427387904) 4611686018427387904 v)
  rw [hE2] at HE2
  replace hE2 := Lib.hid hE2
  obtain ⟨bC2, hC2⟩ : ∃ b, decide (-4611686018427387904 ≤ x.cost ∧ x.cost ≤ 4611686018427387904) = b := ⟨_, rfl⟩
  have HC2 := Lib.hid (fun v => within_any x.cost (-4611686018427387904) 4611686018427387904 v)
  rw [hC2] at HC2
  replace hC2 := Lib.hid hC2
  obtain ⟨zmeter, emeter⟩ : ∃ b, (x.meter == 0) = b := ⟨_, rfl⟩
  have gmeter : Hid (decide (x.meter = 0) = zmeter) := Lib.hid (by rw [← emeter]; rfl)
  obtain ⟨zstart, estart⟩ : ∃ b, (x.start == 0) = b := ⟨_, rfl⟩
  have gstart : Hid (decide (x.start = 0) = zstart) := Lib.hid (by rw [← estart]; rfl)
  obtain ⟨zenergy, eenergy⟩ : ∃ b, (x.energy == 0) = b := ⟨_, rfl⟩
  have genergy : Hid (decide (x.energy = 0) = zenergy) := Lib.hid (by rw [← eenergy]; rfl)
  obtain ⟨zband, eband⟩ : ∃ b, (x.band == 0) = b := ⟨_, rfl⟩
  have gband : Hid (decide (x.band = 0) = zband) := Lib.hid (by rw [← eband]; rfl)
  obtain ⟨zprice, eprice⟩ : ∃ b, (x.price == 0) = b := ⟨_, rfl⟩
  have gprice : Hid (decide (x.price = 0) = zprice) := Lib.hid (by rw [← eprice]; rfl)
  obtain ⟨zcost, ecost⟩ : ∃ b, (x.cost == 0) = b := ⟨_, rfl⟩
  have gcost : Hid (decide (x.cost = 0) = zcost) := Lib.hid (by rw [← ecost]; rfl)
  obtain ⟨zflags, eflags⟩ : ∃ b, (x.flags == 0) = b := ⟨_, rfl⟩
  have gflags : Hid (decide (x.flags = 0) = zflags) := Lib.hid (by rw [← eflags]; rfl)
  obtain ⟨zcount, ecount⟩ : ∃ b, (x.count == 0) = b := ⟨_, rfl⟩
  have gcount : Hid (decide (x.count = 0) = zcount) := Lib.hid (by rw [← ecount]; rfl)
  obtain ⟨zseq, eseq⟩ : ∃ b, (x.seq == 0) = b := ⟨_, rfl⟩
  have gseq : Hid (decide (x.seq = 0) = zseq) := Lib.hid (by rw [← eseq]; rfl)
  obtain ⟨bH, hH⟩ : ∃ b, decide (x.hash = List.replicate 32 0) = b := ⟨_, rfl⟩
  have HEQ : Hid (∀ v, (binOp .eql 26 (.agg (x.hash.map (Value.int .u8)).toArray) (.agg Z32)).run Tryd.prog v = .ok (.bool bH) v) := Lib.hid (fun v => by
    rw [← hH]
    exact hash_eq x.hash (List.replicate 32 0) hlen List.length_replicate v)
  replace hH := Lib.hid hH
  have IH : Hid ((Tryd.prog.info? 26).map (·.size) = some (x.hash.map (Value.int .u8)).length) := Lib.hid (by rw [List.length_map, hlen]; kernel_rfl)
  have IZ : Hid ((Tryd.prog.info? 26).map (·.size) = some Z32.size) := Lib.hid (by kernel_rfl)
  obtain ⟨_, xm, xs, _, xb, xp, _, xf, _, _⟩ := ent_cells (e := x) (by rw [HX.out]; exact hX0)
  go_upto_region 6 with (first
    | (go_at_call 38; (with_reducible refine (HM.out _).mono ?_); rintro e w' ⟨rfl, hw⟩; (have hw := hw.symm); subst hw)
    | (go_at_call 38; (with_reducible refine (HT.out _).mono ?_); rintro e w' ⟨rfl, hw⟩; (have hw := hw.symm); subst hw)
    | (go_at_call 38; (with_reducible refine (HBd.out _).mono ?_); rintro e w' ⟨rfl, hw⟩; (have hw := hw.symm); subst hw)
    | (go_at_call 38; (with_reducible refine (HP.out _).mono ?_); rintro e w' ⟨rfl, hw⟩; (have hw := hw.symm); subst hw)
    | (go_at_call 38; (with_reducible refine (HF.out _).mono ?_); rintro e w' ⟨rfl, hw⟩; (have hw := hw.symm); subst hw))
  clear xm xs xb xp xf
  have AH := Lib.hid alloc_hash
  have BH := Lib.hid build_hash
  generalize hZZ : Z32 = ZZ at AH BH HEQ IZ
  have OZ : Hid (ZZ.all (·.oneCell') = true) := Lib.hid (by rw [← hZZ]; simp [Z32, Value.oneCell'])
  clear hZZ
  go_upto_region 7 with (first
    | ((with_reducible refine wpList_build_at (dst := some 25) 26 #[] #[] _ (by kernel_rfl) (by kernel_rfl) (BH.out _) ?_); simp only [Act.put, List.setIfInBounds_toArray, List.set_cons_succ, List.set_cons_zero])
    | ((with_reducible refine wpList_alloc_held (dst := some 8) 26 ZZ (by kernel_rfl) AH.out ?_); intro V1 h8 b8 z8; (have l8 : W1.heap.size < V1.heap.size := (by omega)); clear z8; simp only [Act.put, List.setIfInBounds_toArray, List.set_cons_succ, List.set_cons_zero])
    | ((with_reducible refine wpList_store_held 26 (.tmp 8) (.tmp 25) W1.heap.size 26 ZZ ZZ (by kernel_rfl) (by kernel_rfl) (by kernel_rfl) h8 rfl IZ.out OZ.out ?_); intro V2 g8 c8 z8'; clear z8'; simp only [Act.put, List.setIfInBounds_toArray, List.set_cons_succ, List.set_cons_zero]))
  have b2 : Below W1.heap.size W1 V2 := b8.trans (c8.below (Nat.le_refl _) (by omega))
  have hX2 := hX0.below b2 hlt
  have hb2 := hb0.trans (b2.mono hb0.size)
  clear hX0 hb0 b8 c8 h8 b2 AH BH
  generalize W1.heap.size = g8a at g8 l8 ⊢
  have hr : V2.rangeAt w.heap.size 10 (x.hash.map (Value.int .u8)) := ent_hash (by rw [HX.out]; exact hX2)
  go_cut [9] from 10 (fun s9 wx => s9 = .bool (bH && zseq) ∧ wx = V2)
  case first =>
    have xq : V2.cell? ⟨w.heap.size, 9, none⟩ = some (.int .u64 x.seq) := (ent_cells (e := x) (by rw [HX.out]; exact hX2)).2.2.2.2.2.2.2.2.2
    clear hH
    cases bH with
    | false =>
      go_wp2_with (first
        | ((with_reducible refine wpList_load_at (dst := some 27) 26 (.tmp 26) w.heap.size 10 (x.hash.map (Value.int .u8)) _ (by kernel_rfl) (by kernel_rfl) hr Tryd.underlying26 (by kernel_rfl) IH.out ?_); simp only [Act.put, List.setIfInBounds_toArray, List.set_cons_succ, List.set_cons_zero])
        | ((with_reducible refine wpList_load_held (dst := some 28) 26 (.tmp 8) g8a 26 ZZ _ (by kernel_rfl) (by kernel_rfl) g8 Tryd.underlying26 (by kernel_rfl) IZ.out ?_); simp only [Act.put, List.setIfInBounds_toArray, List.set_cons_succ, List.set_cons_zero])
        | ((with_reducible refine wpList_bin_at (dst := some 29) .eql 26 26 (.tmp 27) (.tmp 28) (.agg (x.hash.map (Value.int .u8)).toArray) (.agg ZZ) _ (by kernel_rfl) (by kernel_rfl) (by kernel_rfl) (hash_guard _ _ _ _ _) (HEQ.out _) ?_); simp only [Act.put, List.setIfInBounds_toArray, List.set_cons_succ, List.set_cons_zero]))
      go_meet
      case rel => exact ⟨by simp, rfl⟩
    | true =>
      cases zseq <;>
      · go_wp2_with (first
        | ((with_reducible refine wpList_load_at (dst := some 27) 26 (.tmp 26) w.heap.size 10 (x.hash.map (Value.int .u8)) _ (by kernel_rfl) (by kernel_rfl) hr Tryd.underlying26 (by kernel_rfl) IH.out ?_); simp only [Act.put, List.setIfInBounds_toArray, List.set_cons_succ, List.set_cons_zero])
        | ((with_reducible refine wpList_load_held (dst := some 28) 26 (.tmp 8) g8a 26 ZZ _ (by kernel_rfl) (by kernel_rfl) g8 Tryd.underlying26 (by kernel_rfl) IZ.out ?_); simp only [Act.put, List.setIfInBounds_toArray, List.set_cons_succ, List.set_cons_zero])
        | ((with_reducible refine wpList_bin_at (dst := some 29) .eql 26 26 (.tmp 27) (.tmp 28) (.agg (x.hash.map (Value.int .u8)).toArray) (.agg ZZ) _ (by kernel_rfl) (by kernel_rfl) (by kernel_rfl) (hash_guard _ _ _ _ _) (HEQ.out _) ?_); simp only [Act.put, List.setIfInBounds_toArray, List.set_cons_succ, List.set_cons_zero]))
        go_meet
        case rel => exact ⟨by simp, rfl⟩
  case rest =>
    obtain ⟨rfl, rfl⟩ := hcut
    clear hr HEQ
    obtain ⟨bB, hB⟩ : ∃ b, (bH && zseq) = b := ⟨_, rfl⟩
    rw [hB]
    replace hB := Lib.hid hB
    obtain ⟨xk, xm, xs, xe, xb, xp, xc, xf, xn, _⟩ := ent_cells (e := x) (by rw [HX.out]; exact hX2)
    by_cases k1 : x.kind = 1
    · have HV : Hid (mayE x = (bM && bT && bBd && bP && bF && bE && bC && zcount && bB)) := Lib.hid (by
        unfold mayE
        rw [if_pos k1]
        simp only [hM.out, hT.out, hBd.out, hP.out, hF.out, hE.out, hC.out, gcount.out, gseq.out, hH.out, hB.out])
      rw [k1] at xk
      clear emeter
      clear estart
      clear eenergy
      clear eband
      clear eprice
      clear ecost
      clear eflags
      clear eseq
      clear hH hB
      cases bM with
      | false =>
        go_wp2_with (first | (go_at_call 38; (with_reducible refine (HE.out _).mono ?_); rintro e w' ⟨rfl, hw⟩; (have hw := hw.symm); subst hw) | (go_at_call 38; (with_reducible refine (HC.out _).mono ?_); rintro e w' ⟨rfl, hw⟩; (have hw := hw.symm); subst hw) | (go_at_call 38; (with_reducible refine (HE2.out _).mono ?_); rintro e w' ⟨rfl, hw⟩; (have hw := hw.symm); subst hw) | (go_at_call 38; (with_reducible refine (HC2.out _).mono ?_); rintro e w' ⟨rfl, hw⟩; (have hw := hw.symm); subst hw))
        go_ret
        exact ⟨by rw [HV.out]; rfl, hb2⟩
      | true =>
        cases bT with
        | false =>
          go_wp2_with (first | (go_at_call 38; (with_reducible refine (HE.out _).mono ?_); rintro e w' ⟨rfl, hw⟩; (have hw := hw.symm); subst hw) | (go_at_call 38; (with_reducible refine (HC.out _).mono ?_); rintro e w' ⟨rfl, hw⟩; (have hw := hw.symm); subst hw) | (go_at_call 38; (with_reducible refine (HE2.out _).mono ?_); rintro e w' ⟨rfl, hw⟩; (have hw := hw.symm); subst hw) | (go_at_call 38; (with_reducible refine (HC2.out _).mono ?_); rintro e w' ⟨rfl, hw⟩; (have hw := hw.symm); subst hw))
          go_ret
          exact ⟨by rw [HV.out]; rfl, hb2⟩
        | true =>
          cases bBd with
          | false =>
            go_wp2_with (first | (go_at_call 38; (with_reducible refine (HE.out _).mono ?_); rintro e w' ⟨rfl, hw⟩; (have hw := hw.symm); subst hw) | (go_at_call 38; (with_reducible refine (HC.out _).mono ?_); rintro e w' ⟨rfl, hw⟩; (have hw := hw.symm); subst hw) | (go_at_call 38; (with_reducible refine (HE2.out _).mono ?_); rintro e w' ⟨rfl, hw⟩; (have hw := hw.symm); subst hw) | (go_at_call 38; (with_reducible refine (HC2.out _).mono ?_); rintro e w' ⟨rfl, hw⟩; (have hw := hw.symm); subst hw))
            go_ret
            exact ⟨by rw [HV.out]; rfl, hb2⟩
          | true =>
            cases bP with
            | false =>
              go_wp2_with (first | (go_at_call 38; (with_reducible refine (HE.out _).mono ?_); rintro e w' ⟨rfl, hw⟩; (have hw := hw.symm); subst hw) | (go_at_call 38; (with_reducible refine (HC.out _).mono ?_); rintro e w' ⟨rfl, hw⟩; (have hw := hw.symm); subst hw) | (go_at_call 38; (with_reducible refine (HE2.out _).mono ?_); rintro e w' ⟨rfl, hw⟩; (have hw := hw.symm); subst hw) | (go_at_call 38; (with_reducible refine (HC2.out _).mono ?_); rintro e w' ⟨rfl, hw⟩; (have hw := hw.symm); subst hw))
              go_ret
              exact ⟨by rw [HV.out]; rfl, hb2⟩
            | true =>
              cases bF with
              | false =>
                go_wp2_with (first | (go_at_call 38; (with_reducible refine (HE.out _).mono ?_); rintro e w' ⟨rfl, hw⟩; (have hw := hw.symm); subst hw) | (go_at_call 38; (with_reducible refine (HC.out _).mono ?_); rintro e w' ⟨rfl, hw⟩; (have hw := hw.symm); subst hw) | (go_at_call 38; (with_reducible refine (HE2.out _).mono ?_); rintro e w' ⟨rfl, hw⟩; (have hw := hw.symm); subst hw) | (go_at_call 38; (with_reducible refine (HC2.out _).mono ?_); rintro e w' ⟨rfl, hw⟩; (have hw := hw.symm); subst hw))
                go_ret
                exact ⟨by rw [HV.out]; rfl, hb2⟩
              | true =>
                cases bE with
                | false =>
                  go_wp2_with (first | (go_at_call 38; (with_reducible refine (HE.out _).mono ?_); rintro e w' ⟨rfl, hw⟩; (have hw := hw.symm); subst hw) | (go_at_call 38; (with_reducible refine (HC.out _).mono ?_); rintro e w' ⟨rfl, hw⟩; (have hw := hw.symm); subst hw) | (go_at_call 38; (with_reducible refine (HE2.out _).mono ?_); rintro e w' ⟨rfl, hw⟩; (have hw := hw.symm); subst hw) | (go_at_call 38; (with_reducible refine (HC2.out _).mono ?_); rintro e w' ⟨rfl, hw⟩; (have hw := hw.symm); subst hw))
                  go_ret
                  exact ⟨by rw [HV.out]; rfl, hb2⟩
                | true =>
                  cases bC with
                  | false =>
                    go_wp2_with (first | (go_at_call 38; (with_reducible refine (HE.out _).mono ?_); rintro e w' ⟨rfl, hw⟩; (have hw := hw.symm); subst hw) | (go_at_call 38; (with_reducible refine (HC.out _).mono ?_); rintro e w' ⟨rfl, hw⟩; (have hw := hw.symm); subst hw) | (go_at_call 38; (with_reducible refine (HE2.out _).mono ?_); rintro e w' ⟨rfl, hw⟩; (have hw := hw.symm); subst hw) | (go_at_call 38; (with_reducible refine (HC2.out _).mono ?_); rintro e w' ⟨rfl, hw⟩; (have hw := hw.symm); subst hw))
                    go_ret
                    exact ⟨by rw [HV.out]; rfl, hb2⟩
                  | true =>
                    cases zcount with
                    | false =>
                      go_wp2_with (first | (go_at_call 38; (with_reducible refine (HE.out _).mono ?_); rintro e w' ⟨rfl, hw⟩; (have hw := hw.symm); subst hw) | (go_at_call 38; (with_reducible refine (HC.out _).mono ?_); rintro e w' ⟨rfl, hw⟩; (have hw := hw.symm); subst hw) | (go_at_call 38; (with_reducible refine (HE2.out _).mono ?_); rintro e w' ⟨rfl, hw⟩; (have hw := hw.symm); subst hw) | (go_at_call 38; (with_reducible refine (HC2.out _).mono ?_); rintro e w' ⟨rfl, hw⟩; (have hw := hw.symm); subst hw))
                      go_ret
                      exact ⟨by rw [HV.out]; rfl, hb2⟩
                    | true =>
                      cases bB with
                      | false =>
                        go_wp2_with (first | (go_at_call 38; (with_reducible refine (HE.out _).mono ?_); rintro e w' ⟨rfl, hw⟩; (have hw := hw.symm); subst hw) | (go_at_call 38; (with_reducible refine (HC.out _).mono ?_); rintro e w' ⟨rfl, hw⟩; (have hw := hw.symm); subst hw) | (go_at_call 38; (with_reducible refine (HE2.out _).mono ?_); rintro e w' ⟨rfl, hw⟩; (have hw := hw.symm); subst hw) | (go_at_call 38; (with_reducible refine (HC2.out _).mono ?_); rintro e w' ⟨rfl, hw⟩; (have hw := hw.symm); subst hw))
                        go_ret
                        exact ⟨by rw [HV.out]; rfl, hb2⟩
                      | true =>
                        go_wp2_with (first | (go_at_call 38; (with_reducible refine (HE.out _).mono ?_); rintro e w' ⟨rfl, hw⟩; (have hw := hw.symm); subst hw) | (go_at_call 38; (with_reducible refine (HC.out _).mono ?_); rintro e w' ⟨rfl, hw⟩; (have hw := hw.symm); subst hw) | (go_at_call 38; (with_reducible refine (HE2.out _).mono ?_); rintro e w' ⟨rfl, hw⟩; (have hw := hw.symm); subst hw) | (go_at_call 38; (with_reducible refine (HC2.out _).mono ?_); rintro e w' ⟨rfl, hw⟩; (have hw := hw.symm); subst hw))
                        go_ret
                        exact ⟨by rw [HV.out]; rfl, hb2⟩
    by_cases k2 : x.kind = 2
    · have HV : Hid (mayE x = (bM && bT && zenergy && zband && zprice && zcost && zflags && bB)) := Lib.hid (by
        unfold mayE
        rw [if_neg k1]
        rw [if_pos k2]
        simp only [hM.out, hT.out, genergy.out, gband.out, gprice.out, gcost.out, gflags.out, gseq.out, hH.out, hB.out])
      rw [k2] at xk
      clear emeter
      clear estart
      clear ecount
      clear eseq
      clear hH hB
      cases bM with
      | false =>
        go_wp2_with (first | (go_at_call 38; (with_reducible refine (HE.out _).mono ?_); rintro e w' ⟨rfl, hw⟩; (have hw := hw.symm); subst hw) | (go_at_call 38; (with_reducible refine (HC.out _).mono ?_); rintro e w' ⟨rfl, hw⟩; (have hw := hw.symm); subst hw) | (go_at_call 38; (with_reducible refine (HE2.out _).mono ?_); rintro e w' ⟨rfl, hw⟩; (have hw := hw.symm); subst hw) | (go_at_call 38; (with_reducible refine (HC2.out _).mono ?_); rintro e w' ⟨rfl, hw⟩; (have hw := hw.symm); subst hw))
        go_ret
        exact ⟨by rw [HV.out]; rfl, hb2⟩
      | true =>
        cases bT with
        | false =>
          go_wp2_with (first | (go_at_call 38; (with_reducible refine (HE.out _).mono ?_); rintro e w' ⟨rfl, hw⟩; (have hw := hw.symm); subst hw) | (go_at_call 38; (with_reducible refine (HC.out _).mono ?_); rintro e w' ⟨rfl, hw⟩; (have hw := hw.symm); subst hw) | (go_at_call 38; (with_reducible refine (HE2.out _).mono ?_); rintro e w' ⟨rfl, hw⟩; (have hw := hw.symm); subst hw) | (go_at_call 38; (with_reducible refine (HC2.out _).mono ?_); rintro e w' ⟨rfl, hw⟩; (have hw := hw.symm); subst hw))
          go_ret
          exact ⟨by rw [HV.out]; rfl, hb2⟩
        | true =>
          cases zenergy with
          | false =>
            go_wp2_with (first | (go_at_call 38; (with_reducible refine (HE.out _).mono ?_); rintro e w' ⟨rfl, hw⟩; (have hw := hw.symm); subst hw) | (go_at_call 38; (with_reducible refine (HC.out _).mono ?_); rintro e w' ⟨rfl, hw⟩; (have hw := hw.symm); subst hw) | (go_at_call 38; (with_reducible refine (HE2.out _).mono ?_); rintro e w' ⟨rfl, hw⟩; (have hw := hw.symm); subst hw) | (go_at_call 38; (with_reducible refine (HC2.out _).mono ?_); rintro e w' ⟨rfl, hw⟩; (have hw := hw.symm); subst hw))
            go_ret
            exact ⟨by rw [HV.out]; rfl, hb2⟩
          | true =>
            cases zband with
            | false =>
              go_wp2_with (first | (go_at_call 38; (with_reducible refine (HE.out _).mono ?_); rintro e w' ⟨rfl, hw⟩; (have hw := hw.symm); subst hw) | (go_at_call 38; (with_reducible refine (HC.out _).mono ?_); rintro e w' ⟨rfl, hw⟩; (have hw := hw.symm); subst hw) | (go_at_call 38; (with_reducible refine (HE2.out _).mono ?_); rintro e w' ⟨rfl, hw⟩; (have hw := hw.symm); subst hw) | (go_at_call 38; (with_reducible refine (HC2.out _).mono ?_); rintro e w' ⟨rfl, hw⟩; (have hw := hw.symm); subst hw))
              go_ret
              exact ⟨by rw [HV.out]; rfl, hb2⟩
            | true =>
              cases zprice with
              | false =>
                go_wp2_with (first | (go_at_call 38; (with_reducible refine (HE.out _).mono ?_); rintro e w' ⟨rfl, hw⟩; (have hw := hw.symm); subst hw) | (go_at_call 38; (with_reducible refine (HC.out _).mono ?_); rintro e w' ⟨rfl, hw⟩; (have hw := hw.symm); subst hw) | (go_at_call 38; (with_reducible refine (HE2.out _).mono ?_); rintro e w' ⟨rfl, hw⟩; (have hw := hw.symm); subst hw) | (go_at_call 38; (with_reducible refine (HC2.out _).mono ?_); rintro e w' ⟨rfl, hw⟩; (have hw := hw.symm); subst hw))
                go_ret
                exact ⟨by rw [HV.out]; rfl, hb2⟩
              | true =>
                cases zcost with
                | false =>
                  go_wp2_with (first | (go_at_call 38; (with_reducible refine (HE.out _).mono ?_); rintro e w' ⟨rfl, hw⟩; (have hw := hw.symm); subst hw) | (go_at_call 38; (with_reducible refine (HC.out _).mono ?_); rintro e w' ⟨rfl, hw⟩; (have hw := hw.symm); subst hw) | (go_at_call 38; (with_reducible refine (HE2.out _).mono ?_); rintro e w' ⟨rfl, hw⟩; (have hw := hw.symm); subst hw) | (go_at_call 38; (with_reducible refine (HC2.out _).mono ?_); rintro e w' ⟨rfl, hw⟩; (have hw := hw.symm); subst hw))
                  go_ret
                  exact ⟨by rw [HV.out]; rfl, hb2⟩
                | true =>
                  cases zflags with
                  | false =>
                    go_wp2_with (first | (go_at_call 38; (with_reducible refine (HE.out _).mono ?_); rintro e w' ⟨rfl, hw⟩; (have hw := hw.symm); subst hw) | (go_at_call 38; (with_reducible refine (HC.out _).mono ?_); rintro e w' ⟨rfl, hw⟩; (have hw := hw.symm); subst hw) | (go_at_call 38; (with_reducible refine (HE2.out _).mono ?_); rintro e w' ⟨rfl, hw⟩; (have hw := hw.symm); subst hw) | (go_at_call 38; (with_reducible refine (HC2.out _).mono ?_); rintro e w' ⟨rfl, hw⟩; (have hw := hw.symm); subst hw))
                    go_ret
                    exact ⟨by rw [HV.out]; rfl, hb2⟩
                  | true =>
                    cases bB with
                    | false =>
                      go_wp2_with (first | (go_at_call 38; (with_reducible refine (HE.out _).mono ?_); rintro e w' ⟨rfl, hw⟩; (have hw := hw.symm); subst hw) | (go_at_call 38; (with_reducible refine (HC.out _).mono ?_); rintro e w' ⟨rfl, hw⟩; (have hw := hw.symm); subst hw) | (go_at_call 38; (with_reducible refine (HE2.out _).mono ?_); rintro e w' ⟨rfl, hw⟩; (have hw := hw.symm); subst hw) | (go_at_call 38; (with_reducible refine (HC2.out _).mono ?_); rintro e w' ⟨rfl, hw⟩; (have hw := hw.symm); subst hw))
                      go_ret
                      exact ⟨by rw [HV.out]; rfl, hb2⟩
                    | true =>
                      go_wp2_with (first | (go_at_call 38; (with_reducible refine (HE.out _).mono ?_); rintro e w' ⟨rfl, hw⟩; (have hw := hw.symm); subst hw) | (go_at_call 38; (with_reducible refine (HC.out _).mono ?_); rintro e w' ⟨rfl, hw⟩; (have hw := hw.symm); subst hw) | (go_at_call 38; (with_reducible refine (HE2.out _).mono ?_); rintro e w' ⟨rfl, hw⟩; (have hw := hw.symm); subst hw) | (go_at_call 38; (with_reducible refine (HC2.out _).mono ?_); rintro e w' ⟨rfl, hw⟩; (have hw := hw.symm); subst hw))
                      go_ret
                      exact ⟨by rw [HV.out]; rfl, hb2⟩
    by_cases k3 : x.kind = 3
    · have HV : Hid (mayE x = (bM && bT && zenergy && zband && zprice && zcost && zflags)) := Lib.hid (by
        unfold mayE
        rw [if_neg k1]
        rw [if_neg k2]
        rw [if_pos k3]
        simp only [hM.out, hT.out, genergy.out, gband.out, gprice.out, gcost.out, gflags.out])
      rw [k3] at xk
      clear emeter
      clear estart
      clear ecount
      clear eseq
      clear hH hB
      cases bM with
      | false =>
        go_wp2_with (first | (go_at_call 38; (with_reducible refine (HE.out _).mono ?_); rintro e w' ⟨rfl, hw⟩; (have hw := hw.symm); subst hw) | (go_at_call 38; (with_reducible refine (HC.out _).mono ?_); rintro e w' ⟨rfl, hw⟩; (have hw := hw.symm); subst hw) | (go_at_call 38; (with_reducible refine (HE2.out _).mono ?_); rintro e w' ⟨rfl, hw⟩; (have hw := hw.symm); subst hw) | (go_at_call 38; (with_reducible refine (HC2.out _).mono ?_); rintro e w' ⟨rfl, hw⟩; (have hw := hw.symm); subst hw))
        go_ret
        exact ⟨by rw [HV.out]; rfl, hb2⟩
      | true =>
        cases bT with
        | false =>
          go_wp2_with (first | (go_at_call 38; (with_reducible refine (HE.out _).mono ?_); rintro e w' ⟨rfl, hw⟩; (have hw := hw.symm); subst hw) | (go_at_call 38; (with_reducible refine (HC.out _).mono ?_); rintro e w' ⟨rfl, hw⟩; (have hw := hw.symm); subst hw) | (go_at_call 38; (with_reducible refine (HE2.out _).mono ?_); rintro e w' ⟨rfl, hw⟩; (have hw := hw.symm); subst hw) | (go_at_call 38; (with_reducible refine (HC2.out _).mono ?_); rintro e w' ⟨rfl, hw⟩; (have hw := hw.symm); subst hw))
          go_ret
          exact ⟨by rw [HV.out]; rfl, hb2⟩
        | true =>
          cases zenergy with
          | false =>
            go_wp2_with (first | (go_at_call 38; (with_reducible refine (HE.out _).mono ?_); rintro e w' ⟨rfl, hw⟩; (have hw := hw.symm); subst hw) | (go_at_call 38; (with_reducible refine (HC.out _).mono ?_); rintro e w' ⟨rfl, hw⟩; (have hw := hw.symm); subst hw) | (go_at_call 38; (with_reducible refine (HE2.out _).mono ?_); rintro e w' ⟨rfl, hw⟩; (have hw := hw.symm); subst hw) | (go_at_call 38; (with_reducible refine (HC2.out _).mono ?_); rintro e w' ⟨rfl, hw⟩; (have hw := hw.symm); subst hw))
            go_ret
            exact ⟨by rw [HV.out]; rfl, hb2⟩
          | true =>
            cases zband with
            | false =>
              go_wp2_with (first | (go_at_call 38; (with_reducible refine (HE.out _).mono ?_); rintro e w' ⟨rfl, hw⟩; (have hw := hw.symm); subst hw) | (go_at_call 38; (with_reducible refine (HC.out _).mono ?_); rintro e w' ⟨rfl, hw⟩; (have hw := hw.symm); subst hw) | (go_at_call 38; (with_reducible refine (HE2.out _).mono ?_); rintro e w' ⟨rfl, hw⟩; (have hw := hw.symm); subst hw) | (go_at_call 38; (with_reducible refine (HC2.out _).mono ?_); rintro e w' ⟨rfl, hw⟩; (have hw := hw.symm); subst hw))
              go_ret
              exact ⟨by rw [HV.out]; rfl, hb2⟩
            | true =>
              cases zprice with
              | false =>
                go_wp2_with (first | (go_at_call 38; (with_reducible refine (HE.out _).mono ?_); rintro e w' ⟨rfl, hw⟩; (have hw := hw.symm); subst hw) | (go_at_call 38; (with_reducible refine (HC.out _).mono ?_); rintro e w' ⟨rfl, hw⟩; (have hw := hw.symm); subst hw) | (go_at_call 38; (with_reducible refine (HE2.out _).mono ?_); rintro e w' ⟨rfl, hw⟩; (have hw := hw.symm); subst hw) | (go_at_call 38; (with_reducible refine (HC2.out _).mono ?_); rintro e w' ⟨rfl, hw⟩; (have hw := hw.symm); subst hw))
                go_ret
                exact ⟨by rw [HV.out]; rfl, hb2⟩
              | true =>
                cases zcost with
                | false =>
                  go_wp2_with (first | (go_at_call 38; (with_reducible refine (HE.out _).mono ?_); rintro e w' ⟨rfl, hw⟩; (have hw := hw.symm); subst hw) | (go_at_call 38; (with_reducible refine (HC.out _).mono ?_); rintro e w' ⟨rfl, hw⟩; (have hw := hw.symm); subst hw) | (go_at_call 38; (with_reducible refine (HE2.out _).mono ?_); rintro e w' ⟨rfl, hw⟩; (have hw := hw.symm); subst hw) | (go_at_call 38; (with_reducible refine (HC2.out _).mono ?_); rintro e w' ⟨rfl, hw⟩; (have hw := hw.symm); subst hw))
                  go_ret
                  exact ⟨by rw [HV.out]; rfl, hb2⟩
                | true =>
                  cases zflags with
                  | false =>
                    go_wp2_with (first | (go_at_call 38; (with_reducible refine (HE.out _).mono ?_); rintro e w' ⟨rfl, hw⟩; (have hw := hw.symm); subst hw) | (go_at_call 38; (with_reducible refine (HC.out _).mono ?_); rintro e w' ⟨rfl, hw⟩; (have hw := hw.symm); subst hw) | (go_at_call 38; (with_reducible refine (HE2.out _).mono ?_); rintro e w' ⟨rfl, hw⟩; (have hw := hw.symm); subst hw) | (go_at_call 38; (with_reducible refine (HC2.out _).mono ?_); rintro e w' ⟨rfl, hw⟩; (have hw := hw.symm); subst hw))
                    go_ret
                    exact ⟨by rw [HV.out]; rfl, hb2⟩
                  | true =>
                    go_wp2_with (first | (go_at_call 38; (with_reducible refine (HE.out _).mono ?_); rintro e w' ⟨rfl, hw⟩; (have hw := hw.symm); subst hw) | (go_at_call 38; (with_reducible refine (HC.out _).mono ?_); rintro e w' ⟨rfl, hw⟩; (have hw := hw.symm); subst hw) | (go_at_call 38; (with_reducible refine (HE2.out _).mono ?_); rintro e w' ⟨rfl, hw⟩; (have hw := hw.symm); subst hw) | (go_at_call 38; (with_reducible refine (HC2.out _).mono ?_); rintro e w' ⟨rfl, hw⟩; (have hw := hw.symm); subst hw))
                    go_ret
                    exact ⟨by rw [HV.out]; rfl, hb2⟩
    by_cases k4 : x.kind = 4
    · have HV : Hid (mayE x = (bM && bBd && zstart && zprice && zflags && zcount && bE2 && bC2)) := Lib.hid (by
        unfold mayE
        rw [if_neg k1]
        rw [if_neg k2]
        rw [if_neg k3]
        rw [if_pos k4]
        simp only [hM.out, hBd.out, gstart.out, gprice.out, gflags.out, gcount.out, hE2.out, hC2.out])
      rw [k4] at xk
      clear emeter
      clear eenergy
      clear eband
      clear ecost
      clear eseq
      clear hH hB
      cases bM with
      | false =>
        go_wp2_with (first | (go_at_call 38; (with_reducible refine (HE.out _).mono ?_); rintro e w' ⟨rfl, hw⟩; (have hw := hw.symm); subst hw) | (go_at_call 38; (with_reducible refine (HC.out _).mono ?_); rintro e w' ⟨rfl, hw⟩; (have hw := hw.symm); subst hw) | (go_at_call 38; (with_reducible refine (HE2.out _).mono ?_); rintro e w' ⟨rfl, hw⟩; (have hw := hw.symm); subst hw) | (go_at_call 38; (with_reducible refine (HC2.out _).mono ?_); rintro e w' ⟨rfl, hw⟩; (have hw := hw.symm); subst hw))
        go_ret
        exact ⟨by rw [HV.out]; rfl, hb2⟩
      | true =>
        cases bBd with
        | false =>
          go_wp2_with (first | (go_at_call 38; (with_reducible refine (HE.out _).mono ?_); rintro e w' ⟨rfl, hw⟩; (have hw := hw.symm); subst hw) | (go_at_call 38; (with_reducible refine (HC.out _).mono ?_); rintro e w' ⟨rfl, hw⟩; (have hw := hw.symm); subst hw) | (go_at_call 38; (with_reducible refine (HE2.out _).mono ?_); rintro e w' ⟨rfl, hw⟩; (have hw := hw.symm); subst hw) | (go_at_call 38; (with_reducible refine (HC2.out _).mono ?_); rintro e w' ⟨rfl, hw⟩; (have hw := hw.symm); subst hw))
          go_ret
          exact ⟨by rw [HV.out]; rfl, hb2⟩
        | true =>
          cases zstart with
          | false =>
            go_wp2_with (first | (go_at_call 38; (with_reducible refine (HE.out _).mono ?_); rintro e w' ⟨rfl, hw⟩; (have hw := hw.symm); subst hw) | (go_at_call 38; (with_reducible refine (HC.out _).mono ?_); rintro e w' ⟨rfl, hw⟩; (have hw := hw.symm); subst hw) | (go_at_call 38; (with_reducible refine (HE2.out _).mono ?_); rintro e w' ⟨rfl, hw⟩; (have hw := hw.symm); subst hw) | (go_at_call 38; (with_reducible refine (HC2.out _).mono ?_); rintro e w' ⟨rfl, hw⟩; (have hw := hw.symm); subst hw))
            go_ret
            exact ⟨by rw [HV.out]; rfl, hb2⟩
          | true =>
            cases zprice with
            | false =>
              go_wp2_with (first | (go_at_call 38; (with_reducible refine (HE.out _).mono ?_); rintro e w' ⟨rfl, hw⟩; (have hw := hw.symm); subst hw) | (go_at_call 38; (with_reducible refine (HC.out _).mono ?_); rintro e w' ⟨rfl, hw⟩; (have hw := hw.symm); subst hw) | (go_at_call 38; (with_reducible refine (HE2.out _).mono ?_); rintro e w' ⟨rfl, hw⟩; (have hw := hw.symm); subst hw) | (go_at_call 38; (with_reducible refine (HC2.out _).mono ?_); rintro e w' ⟨rfl, hw⟩; (have hw := hw.symm); subst hw))
              go_ret
              exact ⟨by rw [HV.out]; rfl, hb2⟩
            | true =>
              cases zflags with
              | false =>
                go_wp2_with (first | (go_at_call 38; (with_reducible refine (HE.out _).mono ?_); rintro e w' ⟨rfl, hw⟩; (have hw := hw.symm); subst hw) | (go_at_call 38; (with_reducible refine (HC.out _).mono ?_); rintro e w' ⟨rfl, hw⟩; (have hw := hw.symm); subst hw) | (go_at_call 38; (with_reducible refine (HE2.out _).mono ?_); rintro e w' ⟨rfl, hw⟩; (have hw := hw.symm); subst hw) | (go_at_call 38; (with_reducible refine (HC2.out _).mono ?_); rintro e w' ⟨rfl, hw⟩; (have hw := hw.symm); subst hw))
                go_ret
                exact ⟨by rw [HV.out]; rfl, hb2⟩
              | true =>
                cases zcount with
                | false =>
                  go_wp2_with (first | (go_at_call 38; (with_reducible refine (HE.out _).mono ?_); rintro e w' ⟨rfl, hw⟩; (have hw := hw.symm); subst hw) | (go_at_call 38; (with_reducible refine (HC.out _).mono ?_); rintro e w' ⟨rfl, hw⟩; (have hw := hw.symm); subst hw) | (go_at_call 38; (with_reducible refine (HE2.out _).mono ?_); rintro e w' ⟨rfl, hw⟩; (have hw := hw.symm); subst hw) | (go_at_call 38; (with_reducible refine (HC2.out _).mono ?_); rintro e w' ⟨rfl, hw⟩; (have hw := hw.symm); subst hw))
                  go_ret
                  exact ⟨by rw [HV.out]; rfl, hb2⟩
                | true =>
                  cases bE2 with
                  | false =>
                    go_wp2_with (first | (go_at_call 38; (with_reducible refine (HE.out _).mono ?_); rintro e w' ⟨rfl, hw⟩; (have hw := hw.symm); subst hw) | (go_at_call 38; (with_reducible refine (HC.out _).mono ?_); rintro e w' ⟨rfl, hw⟩; (have hw := hw.symm); subst hw) | (go_at_call 38; (with_reducible refine (HE2.out _).mono ?_); rintro e w' ⟨rfl, hw⟩; (have hw := hw.symm); subst hw) | (go_at_call 38; (with_reducible refine (HC2.out _).mono ?_); rintro e w' ⟨rfl, hw⟩; (have hw := hw.symm); subst hw))
                    go_ret
                    exact ⟨by rw [HV.out]; rfl, hb2⟩
                  | true =>
                    cases bC2 with
                    | false =>
                      go_wp2_with (first | (go_at_call 38; (with_reducible refine (HE.out _).mono ?_); rintro e w' ⟨rfl, hw⟩; (have hw := hw.symm); subst hw) | (go_at_call 38; (with_reducible refine (HC.out _).mono ?_); rintro e w' ⟨rfl, hw⟩; (have hw := hw.symm); subst hw) | (go_at_call 38; (with_reducible refine (HE2.out _).mono ?_); rintro e w' ⟨rfl, hw⟩; (have hw := hw.symm); subst hw) | (go_at_call 38; (with_reducible refine (HC2.out _).mono ?_); rintro e w' ⟨rfl, hw⟩; (have hw := hw.symm); subst hw))
                      go_ret
                      exact ⟨by rw [HV.out]; rfl, hb2⟩
                    | true =>
                      go_wp2_with (first | (go_at_call 38; (with_reducible refine (HE.out _).mono ?_); rintro e w' ⟨rfl, hw⟩; (have hw := hw.symm); subst hw) | (go_at_call 38; (with_reducible refine (HC.out _).mono ?_); rintro e w' ⟨rfl, hw⟩; (have hw := hw.symm); subst hw) | (go_at_call 38; (with_reducible refine (HE2.out _).mono ?_); rintro e w' ⟨rfl, hw⟩; (have hw := hw.symm); subst hw) | (go_at_call 38; (with_reducible refine (HC2.out _).mono ?_); rintro e w' ⟨rfl, hw⟩; (have hw := hw.symm); subst hw))
                      go_ret
                      exact ⟨by rw [HV.out]; rfl, hb2⟩
    by_cases k5 : x.kind = 5
    · have HV : Hid (mayE x = (zmeter && zstart && zenergy && zband && zprice && zcost && zflags && zcount)) := Lib.hid (by
        unfold mayE
        rw [if_neg k1]
        rw [if_neg k2]
        rw [if_neg k3]
        rw [if_neg k4]
        rw [if_pos k5]
        simp only [gmeter.out, gstart.out, genergy.out, gband.out, gprice.out, gcost.out, gflags.out, gcount.out])
      rw [k5] at xk
      clear eseq
      clear hH hB
      cases zmeter with
      | false =>
        go_wp2_with (first | (go_at_call 38; (with_reducible refine (HE.out _).mono ?_); rintro e w' ⟨rfl, hw⟩; (have hw := hw.symm); subst hw) | (go_at_call 38; (with_reducible refine (HC.out _).mono ?_); rintro e w' ⟨rfl, hw⟩; (have hw := hw.symm); subst hw) | (go_at_call 38; (with_reducible refine (HE2.out _).mono ?_); rintro e w' ⟨rfl, hw⟩; (have hw := hw.symm); subst hw) | (go_at_call 38; (with_reducible refine (HC2.out _).mono ?_); rintro e w' ⟨rfl, hw⟩; (have hw := hw.symm); subst hw))
        go_ret
        exact ⟨by rw [HV.out]; rfl, hb2⟩
      | true =>
        cases zstart with
        | false =>
          go_wp2_with (first | (go_at_call 38; (with_reducible refine (HE.out _).mono ?_); rintro e w' ⟨rfl, hw⟩; (have hw := hw.symm); subst hw) | (go_at_call 38; (with_reducible refine (HC.out _).mono ?_); rintro e w' ⟨rfl, hw⟩; (have hw := hw.symm); subst hw) | (go_at_call 38; (with_reducible refine (HE2.out _).mono ?_); rintro e w' ⟨rfl, hw⟩; (have hw := hw.symm); subst hw) | (go_at_call 38; (with_reducible refine (HC2.out _).mono ?_); rintro e w' ⟨rfl, hw⟩; (have hw := hw.symm); subst hw))
          go_ret
          exact ⟨by rw [HV.out]; rfl, hb2⟩
        | true =>
          cases zenergy with
          | false =>
            go_wp2_with (first | (go_at_call 38; (with_reducible refine (HE.out _).mono ?_); rintro e w' ⟨rfl, hw⟩; (have hw := hw.symm); subst hw) | (go_at_call 38; (with_reducible refine (HC.out _).mono ?_); rintro e w' ⟨rfl, hw⟩; (have hw := hw.symm); subst hw) | (go_at_call 38; (with_reducible refine (HE2.out _).mono ?_); rintro e w' ⟨rfl, hw⟩; (have hw := hw.symm); subst hw) | (go_at_call 38; (with_reducible refine (HC2.out _).mono ?_); rintro e w' ⟨rfl, hw⟩; (have hw := hw.symm); subst hw))
            go_ret
            exact ⟨by rw [HV.out]; rfl, hb2⟩
          | true =>
            cases zband with
            | false =>
              go_wp2_with (first | (go_at_call 38; (with_reducible refine (HE.out _).mono ?_); rintro e w' ⟨rfl, hw⟩; (have hw := hw.symm); subst hw) | (go_at_call 38; (with_reducible refine (HC.out _).mono ?_); rintro e w' ⟨rfl, hw⟩; (have hw := hw.symm); subst hw) | (go_at_call 38; (with_reducible refine (HE2.out _).mono ?_); rintro e w' ⟨rfl, hw⟩; (have hw := hw.symm); subst hw) | (go_at_call 38; (with_reducible refine (HC2.out _).mono ?_); rintro e w' ⟨rfl, hw⟩; (have hw := hw.symm); subst hw))
              go_ret
              exact ⟨by rw [HV.out]; rfl, hb2⟩
            | true =>
              cases zprice with
              | false =>
                go_wp2_with (first | (go_at_call 38; (with_reducible refine (HE.out _).mono ?_); rintro e w' ⟨rfl, hw⟩; (have hw := hw.symm); subst hw) | (go_at_call 38; (with_reducible refine (HC.out _).mono ?_); rintro e w' ⟨rfl, hw⟩; (have hw := hw.symm); subst hw) | (go_at_call 38; (with_reducible refine (HE2.out _).mono ?_); rintro e w' ⟨rfl, hw⟩; (have hw := hw.symm); subst hw) | (go_at_call 38; (with_reducible refine (HC2.out _).mono ?_); rintro e w' ⟨rfl, hw⟩; (have hw := hw.symm); subst hw))
                go_ret
                exact ⟨by rw [HV.out]; rfl, hb2⟩
              | true =>
                cases zcost with
                | false =>
                  go_wp2_with (first | (go_at_call 38; (with_reducible refine (HE.out _).mono ?_); rintro e w' ⟨rfl, hw⟩; (have hw := hw.symm); subst hw) | (go_at_call 38; (with_reducible refine (HC.out _).mono ?_); rintro e w' ⟨rfl, hw⟩; (have hw := hw.symm); subst hw) | (go_at_call 38; (with_reducible refine (HE2.out _).mono ?_); rintro e w' ⟨rfl, hw⟩; (have hw := hw.symm); subst hw) | (go_at_call 38; (with_reducible refine (HC2.out _).mono ?_); rintro e w' ⟨rfl, hw⟩; (have hw := hw.symm); subst hw))
                  go_ret
                  exact ⟨by rw [HV.out]; rfl, hb2⟩
                | true =>
                  cases zflags with
                  | false =>
                    go_wp2_with (first | (go_at_call 38; (with_reducible refine (HE.out _).mono ?_); rintro e w' ⟨rfl, hw⟩; (have hw := hw.symm); subst hw) | (go_at_call 38; (with_reducible refine (HC.out _).mono ?_); rintro e w' ⟨rfl, hw⟩; (have hw := hw.symm); subst hw) | (go_at_call 38; (with_reducible refine (HE2.out _).mono ?_); rintro e w' ⟨rfl, hw⟩; (have hw := hw.symm); subst hw) | (go_at_call 38; (with_reducible refine (HC2.out _).mono ?_); rintro e w' ⟨rfl, hw⟩; (have hw := hw.symm); subst hw))
                    go_ret
                    exact ⟨by rw [HV.out]; rfl, hb2⟩
                  | true =>
                    cases zcount with
                    | false =>
                      go_wp2_with (first | (go_at_call 38; (with_reducible refine (HE.out _).mono ?_); rintro e w' ⟨rfl, hw⟩; (have hw := hw.symm); subst hw) | (go_at_call 38; (with_reducible refine (HC.out _).mono ?_); rintro e w' ⟨rfl, hw⟩; (have hw := hw.symm); subst hw) | (go_at_call 38; (with_reducible refine (HE2.out _).mono ?_); rintro e w' ⟨rfl, hw⟩; (have hw := hw.symm); subst hw) | (go_at_call 38; (with_reducible refine (HC2.out _).mono ?_); rintro e w' ⟨rfl, hw⟩; (have hw := hw.symm); subst hw))
                      go_ret
                      exact ⟨by rw [HV.out]; rfl, hb2⟩
                    | true =>
                      go_wp2_with (first | (go_at_call 38; (with_reducible refine (HE.out _).mono ?_); rintro e w' ⟨rfl, hw⟩; (have hw := hw.symm); subst hw) | (go_at_call 38; (with_reducible refine (HC.out _).mono ?_); rintro e w' ⟨rfl, hw⟩; (have hw := hw.symm); subst hw) | (go_at_call 38; (with_reducible refine (HE2.out _).mono ?_); rintro e w' ⟨rfl, hw⟩; (have hw := hw.symm); subst hw) | (go_at_call 38; (with_reducible refine (HC2.out _).mono ?_); rintro e w' ⟨rfl, hw⟩; (have hw := hw.symm); subst hw))
                      go_ret
                      exact ⟨by rw [HV.out]; rfl, hb2⟩
    have HV : Hid (mayE x = false) := Lib.hid (by unfold mayE; rw [if_neg k1, if_neg k2, if_neg k3, if_neg k4, if_neg k5])
    have j1 : (x.kind == 1) = false := by simp [k1]
    have j2 : (x.kind == 2) = false := by simp [k2]
    have j3 : (x.kind == 3) = false := by simp [k3]
    have j4 : (x.kind == 4) = false := by simp [k4]
    have j5 : (x.kind == 5) = false := by simp [k5]
    go_wp2_with (first | (go_at_call 38; (with_reducible refine (HE.out _).mono ?_); rintro e w' ⟨rfl, hw⟩; (have hw := hw.symm); subst hw) | (go_at_call 38; (with_reducible refine (HC.out _).mono ?_); rintro e w' ⟨rfl, hw⟩; (have hw := hw.symm); subst hw) | (go_at_call 38; (with_reducible refine (HE2.out _).mono ?_); rintro e w' ⟨rfl, hw⟩; (have hw := hw.symm); subst hw) | (go_at_call 38; (with_reducible refine (HC2.out _).mono ?_); rintro e w' ⟨rfl, hw⟩; (have hw := hw.symm); subst hw))
    go_ret
    exact ⟨by rw [HV.out]; rfl, hb2⟩
end Go.Proofs.YtjcpgnachkhjaaaDoor
