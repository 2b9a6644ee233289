/- LedgerParts, walked. -/
import Derived.Test.YtjcpgnachkhjaaaDoorLedPartsP
import Derived.Test.YtjcpgnachkhjaaaDoorLedTakes
namespace Go.Proofs.YtjcpgnachkhjaaaDoor
open Go.RowKit Go.Shelf
attribute [local go_sem] Oper.semAt_some
set_option linter.unusedVariables false
set_option linter.unusedSimpArgs false
set_option maxRecDepth 100000
/-- Where the entries are cut. -/
def cutN (cut : Int) (n : Nat) : Nat := ((cut.tmod ((n : Int) + 1) + n + 1).tmod ((n : Int) + 1)).toNat
def AddRN (es : List Ent) (N : Nat) (w : World) (g : Nat) (v : Value) (wr : World) : Prop := ∃ i : Nat, i ≤ N ∧ v = .int .i64 i ∧ Held wr g 40 (runB (es.take i)).arr ∧ Below w.heap.size w wr
/-- What stands at the second loop's head. -/
def PartR (es : List Ent) (N : Nat) (meter : Int) (w : World) (ga gc gw gl go : Nat) (v : Value) (wr : World) : Prop := ∃ j : Nat, j ≤ es.length ∧ v = .int .i64 j ∧ Held wr ga 40 (runB (es.take N)).arr ∧ Held wr gc 40 (runB (es.take (max j N))).arr ∧ Held wr gw 40 (runB (es.take N)).arr ∧ Held wr gl 40 (runB (es.take j)).arr ∧ Held wr go 40 (runB (ownE meter (es.take j))).arr ∧ Below w.heap.size w wr
set_option maxHeartbeats 4000000 in
theorem parts_any (es : List Ent) (A : Option Addr) (n c : Nat) (cut meter : Int) (hcut : -9223372036854775808 ≤ cut ∧ cut ≤ 9223372036854775807) (w : World) (hl : EnI w A n es) (hT : WordsT w) (hP : P10 w) :
    Calls Tryd.prog 5 #[.slice A n c, .int .i64 cut, .int .i64 meter] w fun e w' => e = .returned (.bool true) ∧ Below w.heap.size w w' := by
  have HA := Lib.hid (alive_any w hT hP)
  obtain ⟨hnl, hok, hat⟩ := hl
  subst hnl
  have HAT := Lib.hid hat
  have HOK := Lib.hid hok
  have HT := Lib.hid hT
  clear hat hok hT hP
  by_cases hbig : 50 < es.length
  · have hbI : (50 : Int) < (es.length : Int) := by omega
    go_in
    go_wp2_with (go_at_call 8; refine HA.out.mono ?_; rintro e w1 ⟨rfl, hb1⟩)
    go_ret
    exact ⟨rfl, hb1⟩
  have hbI : ¬ ((50 : Int) < (es.length : Int)) := by omega
  have hL50 : (es.length : Int) ≤ 50 := by omega
  have hr1 : -((es.length : Int) + 1) < cut.tmod ((es.length : Int) + 1) ∧ cut.tmod ((es.length : Int) + 1) < (es.length : Int) + 1 := by
    have h1 := Int.tmod_lt_of_pos cut (show (0 : Int) < (es.length : Int) + 1 by omega)
    have h2 := Int.lt_tmod_of_pos cut (show (0 : Int) < (es.length : Int) + 1 by omega)
    omega
  go_in
  go_upto_region 5 with (go_at_call 8; refine HA.out.mono ?_; rintro e w1 ⟨rfl, hb1⟩)
  obtain ⟨N, hN⟩ : ∃ N : Nat, (cut.tmod ((es.length : Int) + 1) + es.length + 1) % ((es.length : Int) + 1) = N := ⟨_, (Int.toNat_of_nonneg (Int.emod_nonneg _ (by omega))).symm⟩
  have hNL : N ≤ es.length := by
    have := Int.emod_lt_of_pos (cut.tmod ((es.length : Int) + 1) + es.length + 1) (show (0 : Int) < (es.length : Int) + 1 by omega)
    omega
  rw [hN]
  clear hN hr1
  go_wp2_with ((with_reducible refine wpList_build_at (dst := some 38) 40 #[] #[] _ (by kernel_rfl) (by kernel_rfl) (build_book _) ?_); simp only [Act.put, List.setIfInBounds_toArray, List.set_cons_succ, List.set_cons_zero])
  have h0 : Hid (Held (w1.alloc (.cells Bk.zero.arr 40)) w1.heap.size 40 Bk.zero.arr ∧ Below w.heap.size w (w1.alloc (.cells Bk.zero.arr 40))) := Lib.hid ⟨Held.new w1 _ _, hb1.alloc hb1.size _⟩
  have hs1 := hb1.size
  go_loopw [10] (AddRN es N w w1.heap.size) (fun v _ => N - (intOf v).toNat)
  case atStart => exact ⟨0, Nat.zero_le _, rfl, by rw [List.take_zero]; exact h0.out.1, h0.out.2⟩
  case round =>
    obtain ⟨i, hi, rfl, hB, hbl⟩ := hrel
    by_cases hlt : i < N
    · obtain ⟨e, he⟩ : ∃ e, es[i]? = some e := ⟨_, List.getElem?_eq_getElem (by omega)⟩
      obtain ⟨g, o, rfl, hrg⟩ := HAT.out i e he
      have hre := rangeAt_up hrg hbl
      have heo := HOK.out e (List.mem_of_getElem? he)
      have hel := heo.2.2.2.2.2.2.2.2.2.2.1
      have hbk := runB_ok_take es HOK.out i (by omega)
      have HE := Lib.hid he
      have IE : Hid ((Tryd.prog.info? 28).map (·.size) = some e.cells.length) := Lib.hid (by rw [ent_size e hel]; simp [Ent.arr])
      have HADD := Lib.hid (badd_any i (by omega) (by omega) _ hbk e heo _ wr hB (HT.out.up hbl))
      have hltI : (i : Int) < (N : Int) := by omega
      have hltL : (i : Int) < (es.length : Int) := by omega
      have hbz := hbl.size
      clear hrg heo hel he hbk hB
      go_wp2_with (first
        | ((with_reducible refine wpList_load_at (dst := some 49) 28 (.tmp 48) g (o + i * 42) e.cells _ (by kernel_rfl) (by kernel_rfl) hre Tryd.underlying28 (by kernel_rfl) IE.out ?_); simp only [Act.put, List.setIfInBounds_toArray, List.set_cons_succ, List.set_cons_zero])
        | (go_at_call 9; refine HADD.out.mono ?_; rintro e' V3 ⟨rfl, hB3, hb3⟩; (have hbF := hbl.trans (hb3.below (by omega) hbz))))
      go_roundw
      case rel => exact ⟨i + 1, by omega, by go_num, by rw [runB_take es i e HE.out]; exact hB3, hbF⟩
      case measure => simp [intOf]; omega
    · obtain rfl : i = N := by omega
      have hltI : decide ((i : Int) < (i : Int)) = false := by simp
      have hbk0 := runB_ok_take es HOK.out i hNL
      have HCOPY := Lib.hid (fun (V : World) (hV : Held V w1.heap.size 40 (runB (es.take i)).arr) => copy_any i _ hbk0 w1.heap.size V hV)
      have HB0 := Lib.hid hbk0
      clear h0 hbk0
      have hBl := hB.lt
      have hbz := hbl.size
      go_upto_region 12 with (first
        | (go_at_call 14; refine (HCOPY.out _ hB).mono ?_; rintro e' V3 ⟨⟨gc, rfl, hgc, hC⟩, hb3⟩; (have hB3 := hB.below hb3 hBl); (have hz3 := hb3.size))
        | (go_at_call 14; refine (HCOPY.out _ hB3).mono ?_; rintro e' V4 ⟨⟨gw, rfl, hgw, hW⟩, hb4⟩; (have hB4 := hB3.below hb4 (by omega))))
      have hC4 := hC.below hb4 hC.lt
      have hgc2 := hC.lt
      have hb4w : Below w.heap.size w V4 := (hbl.trans (hb3.mono hbz)).trans (hb4.mono (by omega))
      have hWl := hW.lt
      have hCl := hC4.lt
      have hBl4 := hB4.lt
      clear hB hbl hC hb3 hB3 hb4 HCOPY
      go_wp2_with (first
        | ((with_reducible refine wpList_build_at (dst := some 55) 40 #[] #[] _ (by kernel_rfl) (by kernel_rfl) (build_book _) ?_); simp only [Act.put, List.setIfInBounds_toArray, List.set_cons_succ, List.set_cons_zero])
        | ((with_reducible refine wpList_build_at (dst := some 57) 40 #[] #[] _ (by kernel_rfl) (by kernel_rfl) (build_book _) ?_); simp only [Act.put, List.setIfInBounds_toArray, List.set_cons_succ, List.set_cons_zero]))
      have g2 : Hid (Held ((V4.alloc (.cells Bk.zero.arr 40)).alloc (.cells Bk.zero.arr 40)) V4.heap.size 40 Bk.zero.arr ∧ Held ((V4.alloc (.cells Bk.zero.arr 40)).alloc (.cells Bk.zero.arr 40)) (V4.heap.size + 1) 40 Bk.zero.arr ∧
          Below V4.heap.size V4 ((V4.alloc (.cells Bk.zero.arr 40)).alloc (.cells Bk.zero.arr 40))) := Lib.hid ⟨(Held.new V4 _ _).alloc _, by have := Held.new (V4.alloc (.cells Bk.zero.arr 40)) 40 Bk.zero.arr; simpa using this, ((Below.refl _ _).alloc (Nat.le_refl _) _).alloc (by simp) _⟩
      have H4 := Lib.hid (And.intro hB4 (And.intro hC4 (And.intro hW hb4w)))
      have hgw2 : gc < gw := by omega
      have hz4 := hb4w.size
      clear hB4 hC4 hW hb4w
      go_loopw [15] (PartR es i meter w w1.heap.size gc gw V4.heap.size (V4.heap.size + 1)) (fun v _ => es.length - (intOf v).toNat)
      case atStart =>
        have hb6 := g2.out.2.2
        refine ⟨0, Nat.zero_le _, rfl, H4.out.1.below hb6 hBl4, ?_, H4.out.2.2.1.below hb6 hWl, ?_, ?_, H4.out.2.2.2.trans (hb6.mono hz4)⟩
        · rw [Nat.max_eq_right (Nat.zero_le _)]; exact H4.out.2.1.below hb6 hCl
        · rw [List.take_zero]; exact g2.out.1
        · rw [List.take_zero]; exact g2.out.2.1
      case round =>
        obtain ⟨j, hj, rfl, hA, hC, hW, hL, hO, hbl⟩ := hrel
        by_cases hlt2 : j < es.length
        · obtain ⟨e, he⟩ : ∃ e, es[j]? = some e := ⟨_, List.getElem?_eq_getElem hlt2⟩
          obtain ⟨g, o, rfl, hrg⟩ := HAT.out j e he
          have hre := rangeAt_up hrg hbl
          have heo := HOK.out e (List.mem_of_getElem? he)
          have hel := heo.2.2.2.2.2.2.2.2.2.2.1
          have HE := Lib.hid he
          have IE : Hid ((Tryd.prog.info? 28).map (·.size) = some e.cells.length) := Lib.hid (by rw [ent_size e hel]; simp [Ent.arr])
          have hkL := runB_ok_take es HOK.out j hj
          have hkC := runB_ok_take es HOK.out (max j i) (by omega)
          have hkO := runB_ok (ownE meter (es.take j)) (fun e he => HOK.out e (List.mem_of_mem_take (List.mem_filter.1 he).1))
          have hlO : (ownE meter (es.take j)).length ≤ j := Nat.le_trans (List.length_filter_le _ _) (by rw [List.length_take]; omega)
          have HADDL := Lib.hid (badd_any j (by omega) (by omega) _ hkL e heo _ wr hL (HT.out.up hbl))
          have HADDC := Lib.hid (fun (V : World) (hV : Held V gc 40 (runB (es.take (max j i))).arr) (hVb : Below w.heap.size w V) => badd_any ((max j i : Nat) : Int) (by omega) (by omega) _ hkC e heo gc V hV (HT.out.up hVb))
          have HADDO := Lib.hid (fun (V : World) (hV : Held V (V4.heap.size + 1) 40 (runB (ownE meter (es.take j))).arr) (hVb : Below w.heap.size w V) => badd_any ((ownE meter (es.take j)).length : Int) (by omega) (by omega) _ hkO e heo (V4.heap.size + 1) V hV (HT.out.up hVb))
          have hltI : (j : Int) < (es.length : Int) := by omega
          have hbz2 := hbl.size
          clear heo hel he hkL hkC hkO hL
          go_upto_region 18 with (first
            | ((with_reducible refine wpList_load_at (dst := some 69) 28 (.tmp 68) g (o + j * 42) e.cells _ (by kernel_rfl) (by kernel_rfl) hre Tryd.underlying28 (by kernel_rfl) IE.out ?_); simp only [Act.put, List.setIfInBounds_toArray, List.set_cons_succ, List.set_cons_zero])
            | (go_at_call 9; refine HADDL.out.mono ?_; rintro e' V5 ⟨rfl, hL5, hb5⟩))
          rw [← runB_take es j e HE.out] at hL5
          have hA5 := hb5.held (by omega) hA
          have hC5 := hb5.held (by omega) hC
          have hW5 := hb5.held (by omega) hW
          have hO5 := hb5.held (by omega) hO
          have bb5 : Below w.heap.size w V5 := hbl.trans (hb5.below (by omega) hbz2)
          have hre5 := rangeAt_up hrg bb5
          clear hA hC hW hO hbl hb5 hre HADDL
          by_cases hge : i ≤ j
          · have hgeI : (i : Int) ≤ (j : Int) := by omega
            go_upto_region 20 with (first
              | ((with_reducible refine wpList_load_at (dst := some 78) 28 (.tmp 77) g (o + j * 42) e.cells _ (by kernel_rfl) (by kernel_rfl) hre5 Tryd.underlying28 (by kernel_rfl) IE.out ?_); simp only [Act.put, List.setIfInBounds_toArray, List.set_cons_succ, List.set_cons_zero])
              | (go_at_call 9; refine (HADDC.out _ hC5 bb5).mono ?_; rintro e' V6 ⟨rfl, hC6, hb6'⟩))
            rw [Nat.max_eq_left hge, ← runB_take es j e HE.out] at hC6
            have hmx : max (j + 1) i = j + 1 := by omega
            rw [← hmx] at hC6
            have hA6 := hb6'.held (by omega) hA5
            have hL6 := hb6'.held (by omega) hL5
            have hW6 := hb6'.held (by omega) hW5
            have hO6 := hb6'.held (by omega) hO5
            have hb6 : Below w.heap.size w V6 := bb5.trans (hb6'.below (by omega) bb5.size)
            have hre6 := rangeAt_up hrg hb6
            clear hA5 hC5 hL5 hW5 hO5 bb5 hb6' hre5 HADDC
            have ck : V6.cell? ⟨g, o + j * 42, none⟩ = some (.int .i64 e.kind) := hre6 0 _ rfl
            have cm : V6.cell? ⟨g, o + j * 42 + 1, none⟩ = some (.int .i64 e.meter) := hre6 1 _ rfl
            by_cases hm : e.meter = meter
            · have hm0 := Lib.hid cm
              rw [hm] at cm
              by_cases hk : e.kind = 5
              · rw [hk] at ck
                have hno : ¬ (e.meter = meter ∧ e.kind ≠ 5) := fun q => q.2 hk
                have hown : ownE meter (es.take (j + 1)) = ownE meter (es.take j) := by rw [List.take_add_one, HE.out]; show ownE meter (es.take j ++ [e]) = _; rw [ownE_snoc, if_neg (by intro hq; exact hno hq), List.append_nil]
                go_wp2_with fail
                go_roundw
                case rel => exact ⟨j + 1, by omega, by go_num, hA6, hC6, hW6, hL6, by rw [hown]; exact hO6, hb6⟩
                case measure => simp [intOf]; omega
              · have hkb : (e.kind != 5) = true := by simp [hk]
                go_wp2_with (first
                  | ((with_reducible refine wpList_load_at (dst := some 99) 28 (.tmp 98) g (o + j * 42) e.cells _ (by kernel_rfl) (by kernel_rfl) hre6 Tryd.underlying28 (by kernel_rfl) IE.out ?_); simp only [Act.put, List.setIfInBounds_toArray, List.set_cons_succ, List.set_cons_zero])
                  | (go_at_call 9; refine (HADDO.out _ hO6 hb6).mono ?_; rintro e' V7 ⟨rfl, hO7, hb7⟩))
                have hown : ownE meter (es.take (j + 1)) = ownE meter (es.take j) ++ [e] := by rw [List.take_add_one, HE.out]; show ownE meter (es.take j ++ [e]) = _; rw [ownE_snoc, if_pos ⟨hm, hk⟩]
                rw [← runB_snoc, ← hown] at hO7
                have z6 := hb6.size
                go_roundw
                case rel => exact ⟨j + 1, by omega, by go_num, hb7.held (by omega) hA6, hb7.held (by omega) hC6, hb7.held (by omega) hW6, hb7.held (by omega) hL6, hO7, hb6.trans (hb7.below (by omega) z6)⟩
                case measure => simp [intOf]; omega
            · have hmb : (e.meter == meter) = false := by simp [hm]
              have hno : ¬ (e.meter = meter ∧ e.kind ≠ 5) := fun q => hm q.1
              have hown : ownE meter (es.take (j + 1)) = ownE meter (es.take j) := by rw [List.take_add_one, HE.out]; show ownE meter (es.take j ++ [e]) = _; rw [ownE_snoc, if_neg (by intro hq; exact hno hq), List.append_nil]
              go_wp2_with fail
              go_roundw
              case rel => exact ⟨j + 1, by omega, by go_num, hA6, hC6, hW6, hL6, by rw [hown]; exact hO6, hb6⟩
              case measure => simp [intOf]; omega
          · have hgeI : (j : Int) < (i : Int) := by omega
            have hmx : max (j + 1) i = max j i := by omega
            rw [← hmx] at hC5
            have hA6 := hA5
            have hL6 := hL5
            have hC6 := hC5
            have hW6 := hW5
            have hO6 := hO5
            have hb6 := bb5
            have hre6 := hre5
            clear hA5 hC5 hL5 hW5 hO5 bb5 hre5 HADDC
            have ck : V5.cell? ⟨g, o + j * 42, none⟩ = some (.int .i64 e.kind) := hre6 0 _ rfl
            have cm : V5.cell? ⟨g, o + j * 42 + 1, none⟩ = some (.int .i64 e.meter) := hre6 1 _ rfl
            by_cases hm : e.meter = meter
            · have hm0 := Lib.hid cm
              rw [hm] at cm
              by_cases hk : e.kind = 5
              · rw [hk] at ck
                have hno : ¬ (e.meter = meter ∧ e.kind ≠ 5) := fun q => q.2 hk
                have hown : ownE meter (es.take (j + 1)) = ownE meter (es.take j) := by rw [List.take_add_one, HE.out]; show ownE meter (es.take j ++ [e]) = _; rw [ownE_snoc, if_neg (by intro hq; exact hno hq), List.append_nil]
                go_wp2_with fail
                go_roundw
                case rel => exact ⟨j + 1, by omega, by go_num, hA6, hC6, hW6, hL6, by rw [hown]; exact hO6, hb6⟩
                case measure => simp [intOf]; omega
              · have hkb : (e.kind != 5) = true := by simp [hk]
                go_wp2_with (first
                  | ((with_reducible refine wpList_load_at (dst := some 99) 28 (.tmp 98) g (o + j * 42) e.cells _ (by kernel_rfl) (by kernel_rfl) hre6 Tryd.underlying28 (by kernel_rfl) IE.out ?_); simp only [Act.put, List.setIfInBounds_toArray, List.set_cons_succ, List.set_cons_zero])
                  | (go_at_call 9; refine (HADDO.out _ hO6 hb6).mono ?_; rintro e' V7 ⟨rfl, hO7, hb7⟩))
                have hown : ownE meter (es.take (j + 1)) = ownE meter (es.take j) ++ [e] := by rw [List.take_add_one, HE.out]; show ownE meter (es.take j ++ [e]) = _; rw [ownE_snoc, if_pos ⟨hm, hk⟩]
                rw [← runB_snoc, ← hown] at hO7
                have z6 := hb6.size
                go_roundw
                case rel => exact ⟨j + 1, by omega, by go_num, hb7.held (by omega) hA6, hb7.held (by omega) hC6, hb7.held (by omega) hW6, hb7.held (by omega) hL6, hO7, hb6.trans (hb7.below (by omega) z6)⟩
                case measure => simp [intOf]; omega
            · have hmb : (e.meter == meter) = false := by simp [hm]
              have hno : ¬ (e.meter = meter ∧ e.kind ≠ 5) := fun q => hm q.1
              have hown : ownE meter (es.take (j + 1)) = ownE meter (es.take j) := by rw [List.take_add_one, HE.out]; show ownE meter (es.take j ++ [e]) = _; rw [ownE_snoc, if_neg (by intro hq; exact hno hq), List.append_nil]
              go_wp2_with fail
              go_roundw
              case rel => exact ⟨j + 1, by omega, by go_num, hA6, hC6, hW6, hL6, by rw [hown]; exact hO6, hb6⟩
              case measure => simp [intOf]; omega
        · obtain rfl : j = es.length := by omega
          have hltI : decide ((es.length : Int) < (es.length : Int)) = false := by simp
          have hOK := HOK.out
          have hkA := runB_ok_take es hOK i hNL
          have hkL := runB_ok es hOK
          have hkO := runB_ok (ownE meter es) (fun e he => hOK e (List.mem_filter.1 he).1)
          have hSO : (runB (ownE meter es)).sumI meter = (runB es).sumI meter := by
            unfold Bk.sumI
            split
            · have := (own_agree meter (by omega) es hOK es.length (Nat.le_refl _)).1
              rw [List.take_length] at this; exact this.symm
            · rfl
          have hTO : (runB (ownE meter es)).totI meter 0 = (runB es).totI meter 0 := by
            unfold Bk.totI
            split
            · have := (own_agree meter (by omega) es hOK es.length (Nat.le_refl _)).2 0 (by omega)
              rw [List.take_length] at this; exact this.symm
            · rfl
          rw [Nat.max_eq_left hNL, List.take_length] at hC
          rw [List.take_length] at hL hO
          generalize runB (es.take i) = a at hA hW hkA
          generalize runB (ownE meter es) = o at hO hkO hSO hTO
          generalize runB es = b at hL hC hkL hSO hTO
          have hSl := (sumI_ok hkL (by omega) meter).hash
          have HS1 := Lib.hid (fun V hV hV' => same_any _ _ b b hkL hkL gc V4.heap.size V hV hV')
          have HS2 := Lib.hid (fun V hV hV' => same_any _ _ a a hkA hkA w1.heap.size gw V hV hV')
          simp only [decide_true] at HS1 HS2
          have HU1 := Lib.hid (fun V hV => bsum_any _ o hkO (V4.heap.size + 1) meter V hV)
          have HU2 := Lib.hid (fun V hV => bsum_any _ b hkL V4.heap.size meter V hV)
          have HT1 := Lib.hid (fun V hV => total_any _ o hkO (V4.heap.size + 1) meter 0 V hV)
          have HT2 := Lib.hid (fun V hV => total_any _ b hkL V4.heap.size meter 0 V hV)
          rw [hSO] at HU1
          rw [hTO] at HT1
          have HSE : Hid (∀ v, (binOp .eql 36 (.agg ((b.sumI meter).arr)) (.agg ((b.sumI meter).arr))).run Tryd.prog v = .ok (.bool true) v) := Lib.hid (fun v => by rw [sum_eql _ _ hSl hSl]; simp)
          have HTE : Hid (∀ v, (binOp .eql 32 (.agg ((b.totI meter 0).arr)) (.agg ((b.totI meter 0).arr))).run Tryd.prog v = .ok (.bool true) v) := Lib.hid (fun v => by rw [tot_eql]; simp)
          generalize (b.sumI meter).arr = SS at HU1 HU2 HSE
          generalize (b.totI meter 0).arr = TT at HT1 HT2 HTE
          clear hSO hTO hkA hkL hkO hOK hSl g2 H4 HAT HOK HA
          have lA := hA.lt
          have lC := hC.lt
          have lW := hW.lt
          have lL := hL.lt
          have lO := hO.lt
          go_wp2_with (first
            | (go_at_call 15; (with_reducible refine (HS1.out _ hC hL).mono ?_); rintro e' V5 ⟨rfl, hb5⟩; (have hA5 := hA.below hb5 lA); (have hW5 := hW.below hb5 lW); (have hL5 := hL.below hb5 lL); (have hO5 := hO.below hb5 lO); (have z5 := hb5.size))
            | (go_at_call 15; (with_reducible refine (HS2.out _ hA5 hW5).mono ?_); rintro e' V6 ⟨rfl, hb6⟩; (have hL6 := hL5.below hb6 (by omega)); (have hO6 := hO5.below hb6 (by omega)); (have z6 := hb6.size))
            | (go_at_call 11; (with_reducible refine (HU1.out _ hO6).mono ?_); rintro e' V7 ⟨rfl, hb7⟩; (have hL7 := hL6.below hb7 (by omega)); (have hO7 := hO6.below hb7 (by omega)); (have z7 := hb7.size))
            | (go_at_call 11; (with_reducible refine (HU2.out _ hL7).mono ?_); rintro e' V8 ⟨rfl, hb8⟩; (have hL8 := hL7.below hb8 (by omega)); (have hO8 := hO7.below hb8 (by omega)); (have z8 := hb8.size))
            | (go_at_call 10; (with_reducible refine (HT1.out _ hO8).mono ?_); rintro e' V9 ⟨rfl, hb9⟩; (have hL9 := hL8.below hb9 (by omega)); (have z9 := hb9.size))
            | (go_at_call 10; (with_reducible refine (HT2.out _ hL9).mono ?_); rintro e' V10 ⟨rfl, hb10⟩)
            | ((with_reducible refine wpList_bin_at (dst := some 119) .eql 36 36 (.tmp 115) (.tmp 118) (.agg SS) (.agg SS) _ (by kernel_rfl) (by kernel_rfl) (by kernel_rfl) (sum_guard _ _ _ _ _) (HSE.out _) ?_); simp only [Act.put, List.setIfInBounds_toArray, List.set_cons_succ, List.set_cons_zero])
            | ((with_reducible refine wpList_bin_at (dst := some 128) .eql 32 32 (.tmp 124) (.tmp 127) (.agg TT) (.agg TT) _ (by kernel_rfl) (by kernel_rfl) (by kernel_rfl) (tot_guard _ _ _ _ _) (HTE.out _) ?_); simp only [Act.put, List.setIfInBounds_toArray, List.set_cons_succ, List.set_cons_zero]))
          go_ret
          have q5 := hbl.trans (hb5.mono hbl.size)
          have q6 := q5.trans (hb6.mono q5.size)
          have q7 := q6.trans (hb7.mono q6.size)
          have q8 := q7.trans (hb8.mono q7.size)
          have q9 := q8.trans (hb9.mono q8.size)
          exact ⟨rfl, q9.trans (hb10.mono q9.size)⟩
end Go.Proofs.YtjcpgnachkhjaaaDoor
