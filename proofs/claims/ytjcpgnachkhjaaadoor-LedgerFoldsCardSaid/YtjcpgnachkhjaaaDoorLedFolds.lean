/- LedgerFolds, walked: the first loop. -/
import Derived.Test.YtjcpgnachkhjaaaDoorLedFoldsP
import Derived.Test.YtjcpgnachkhjaaaDoorLedNames
import Derived.Test.YtjcpgnachkhjaaaDoorGuards
import Derived.Deep.CutRange
namespace Go.Proofs.YtjcpgnachkhjaaaDoor
open Go.RowKit Go.Shelf
attribute [local go_sem] Oper.semAt_some
set_option linter.unusedVariables false
set_option linter.unusedSimpArgs false
set_option maxRecDepth 100000
/-- What stands at the first loop's head. -/
def FolQ (es : List Ent) (w : World) (base : Nat) (v8 v9 v10 v11 : Value) (W : World) : Prop :=
  ∃ i : Nat, i ≤ es.length ∧ v11 = .int .i64 i ∧ v9 = .int .i64 (firstF es i) ∧ v10 = .int .i64 (runB (es.take i)).seals ∧ Held W w.heap.size 40 (runB (es.take i)).arr ∧
    W.ownsRow base 28 42 v8 (takenE (es.take i)).length ((takenE (es.take i)).flatMap Ent.cells) ∧ Below w.heap.size w W ∧ base ≤ W.heap.size
theorem own_but {g : Nat} {A B : World} {base : Nat} {e : TypeId} {size n : Nat} {v : Value} {xs : List Value} (h : But g A B) (hg : g < base) (hr : A.ownsRow base e size v n xs) : B.ownsRow base e size v n xs :=
  lown_same hr fun k hk => h.2 k (by have := (hr.lt k hk).1; omega) (by have := (hr.lt k hk).2; omega)
set_option maxHeartbeats 8000000 in
theorem folds_any (es : List Ent) (A : Option Addr) (n c : Nat) (meter band : Int) (w : World) (hl : EnI w A n es) (hc : n ≤ c) (hT : WordsT w) (hP : P10 w) :
    Calls Tryd.prog 6 #[.slice A n c, .int .i64 meter, .int .i64 band] w fun e w' => e = .returned (.bool true) ∧ Below w.heap.size w w' := by
  have HEN := Lib.hid hl
  obtain ⟨hnl, hok, hat⟩ := hl
  subst hnl
  have HAT := Lib.hid hat
  have HOK := Lib.hid hok
  have HT := Lib.hid hT
  have HP := Lib.hid hP
  clear hat hok hT hP
  by_cases hbig : 50 < es.length
  · have hbI : (50 : Int) < (es.length : Int) := by omega
    go_in
    go_wp2_with fail
    go_ret
    exact ⟨rfl, Below.refl _ _⟩
  have hbI : ¬ ((50 : Int) < (es.length : Int)) := by omega
  have hL50 : es.length ≤ 50 := by omega
  obtain ⟨i0, hi0, hz0, hz1, hz2⟩ := info_parts info_entry
  have AE := Lib.hid alloc_new
  have OE := Lib.hid (show (Ent.none 0).arr.size = 42 from by rw [Ent.arr_size _ (by simp [Ent.none])])
  have ZC : (Value.agg (Ent.none 0).arr).cells.size = 42 := OE.out
  generalize (Ent.none 0).arr = ZE at AE OE hz0 ZC
  go_in
  go_upto_region 4 with ((with_reducible refine wpList_build_at (dst := some 29) 40 #[] #[] _ (by kernel_rfl) (by kernel_rfl) (build_book _) ?_); simp only [Act.put, List.setIfInBounds_toArray, List.set_cons_succ, List.set_cons_zero])
  have h0 : Held (w.alloc (.cells Bk.zero.arr 40)) w.heap.size 40 Bk.zero.arr := Held.new w _ _
  have b0 : Below w.heap.size w (w.alloc (.cells Bk.zero.arr 40)) := (Below.refl _ _).alloc (Nat.le_refl _) _
  generalize w.alloc (.cells Bk.zero.arr 40) = w1 at h0 b0 ⊢
  have hgb := h0.lt
  have H0 := Lib.hid (And.intro h0 b0)
  clear h0 b0
  go_wp2_with fail
  go_loopw [8, 9, 10, 11] (FolQ es w w1.heap.size) (fun _ _ _ v _ => es.length - (intOf v).toNat)
  case atStart => exact ⟨0, Nat.zero_le _, rfl, rfl, rfl, by rw [List.take_zero]; exact H0.out.1, by rw [List.take_zero]; exact World.ownsRow_nil _ _ _ _, H0.out.2, Nat.le_refl _⟩
  case round =>
    obtain ⟨i, hi, rfl, rfl, rfl, hB, hrow, hbl, hbw⟩ := hrel
    obtain ⟨hAd, hRB, hTL, hMN⟩ := taken_added es HOK.out i hi
    by_cases hlt : i < es.length
    · obtain ⟨e, he⟩ : ∃ e, es[i]? = some e := ⟨_, List.getElem?_eq_getElem hlt⟩
      obtain ⟨g, o, rfl, hrg⟩ := HAT.out i e he
      have hre := rangeAt_up hrg hbl
      have heo := HOK.out e (List.mem_of_getElem? he)
      have hel := heo.2.2.2.2.2.2.2.2.2.2.1
      have hbk := runB_ok_take es HOK.out i hi
      have HTS := Lib.hid (taken_step es i e HOK.out he)
      have HRT := Lib.hid (runB_take es i e he)
      have HF : Hid (firstF es (i + 1) = if decide ((addP (runB (es.take i)) e).2 = 0) = true then firstF es i else if firstF es i < 0 then (i : Int) else firstF es i) := Lib.hid (by
        show (if accB es i = true then _ else _) = _
        rw [acc_at es i e he])
      have HSS := Lib.hid (fun h => seals_step (K := i) (b := runB (es.take i)) e h)
      have HSM := Lib.hid (add_same (runB (es.take i)) e)
      have hmr := mayR_add hbk e heo
      have HFC := Lib.hid (first_cases es i hi)
      have IE : Hid ((Tryd.prog.info? 28).map (·.size) = some e.cells.length) := Lib.hid (by rw [ent_size e hel]; simp [Ent.arr])
      have IA : Hid ((Tryd.prog.info? 28).map (·.size) = some e.arr.size) := Lib.hid (ent_size e hel)
      have ZS : Hid (e.arr.size = ZE.size) := Lib.hid (by rw [OE.out, Ent.arr_size _ hel])
      have HEL := Lib.hid hel
      obtain ⟨A8, c8, rfl, he8⟩ := EnI.of_own hAd.1 rfl hrow
      have HE8 := Lib.hid he8
      obtain ⟨R, hR⟩ : ∃ R, (addP (runB (es.take i)) e).2 = R := ⟨_, rfl⟩
      have HMAY := Lib.hid (fun (V : World) (hV : EnI V A8 (takenE (es.take i)).length (takenE (es.take i))) => rmay_any (takenE (es.take i)) hAd A8 _ c8 e heo V hV (by omega))
      rw [hRB, hmr, hR] at HMAY
      have HBM := Lib.hid (fun (V : World) (hV : Held V w.heap.size 40 (runB (es.take i)).arr) (hW : WordsT V) => bmay_any i (by omega) (by omega) _ hbk e heo w.heap.size V hV hW)
      rw [← addP_two, hR] at HBM
      have HADD : Hid (∀ V : World, Held V w.heap.size 40 (runB (es.take i)).arr → WordsT V → Calls Tryd.prog 9 #[.pointer (some ⟨w.heap.size, 0, none⟩), .agg e.arr] V fun e' V' => e' = .returned (.int .i64 R) ∧ Held V' w.heap.size 40 (addP (runB (es.take i)) e).1.arr ∧ But w.heap.size V V') := Lib.hid (fun V hV hW => by
        have := badd_any i (by omega) (by omega) _ hbk e heo w.heap.size V hV hW
        unfold AddPost at this
        rw [hR] at this
        exact this)
      have hbk1 := addP_ok (by omega) hbk e heo
      rw [hR] at HTS HF HSS HSM
      have hltI : (i : Int) < (es.length : Int) := by omega
      have hbz := hbl.size
      have hBl := hB.lt
      have HROW := Lib.hid hrow
      have HBL := Lib.hid hbl
      have HBB := Lib.hid hB
      have HMN := Lib.hid hMN
      have HTL := Lib.hid hTL
      have HAD := Lib.hid hAd
      have hw1z : w1.heap.size ≤ w1.heap.size := Nat.le_refl _
      clear hrg he hel he8 hmr hAd hRB hMN hTL hR
      go_upto_region 11 with (first
        | ((with_reducible refine wpList_load_at (dst := some 40) 28 (.tmp 39) g (o + i * 42) e.cells _ (by kernel_rfl) (by kernel_rfl) hre Tryd.underlying28 (by kernel_rfl) IE.out ?_); simp only [Act.put, List.setIfInBounds_toArray, List.set_cons_succ, List.set_cons_zero])
        | ((with_reducible refine wpList_alloc_held (dst := some 12) 28 ZE (by kernel_rfl) AE.out ?_); intro V3 h7 b7 z7; (have l7 : wr.heap.size < V3.heap.size := (by omega)); clear z7; simp only [Act.put, List.setIfInBounds_toArray, List.set_cons_succ, List.set_cons_zero])
        | ((with_reducible refine wpList_store_held 28 (.tmp 12) (.tmp 40) wr.heap.size 28 ZE e.arr (by kernel_rfl) (by kernel_rfl) (by kernel_rfl) h7 ZS.out IA.out (ent_one e) ?_); intro V4 g7 c7 z8; clear z8; simp only [Act.put, List.setIfInBounds_toArray, List.set_cons_succ, List.set_cons_zero]))
      have b74 : Below wr.heap.size wr V4 := b7.trans (c7.below (Nat.le_refl _) (by omega))
      have hB4 := hB.below b74 hBl
      have hE4 := HE8.out.up b74
      have hr4 := lown_up hrow b74
      have hb4 := hbl.trans (b74.mono hbz)
      have hz4 := b74.size
      have hg7 := g7.lt
      have hgx : w1.heap.size ≤ wr.heap.size := hbw
      have hrl : ∀ k, (Value.slice A8 (takenE (es.take i)).length c8).ownBlock = some k → k < wr.heap.size := fun k hk => (hrow.lt k hk).2
      clear h7 b7 c7 b74 hB hrow hbl hre IE ZS
      generalize wr.heap.size = gx at g7 hg7 hbz hz4 hBl l7 hgx hrl ⊢
      go_upto_region 12 with (first
        | ((with_reducible refine wpList_load_held (dst := some 42) 28 (.tmp 12) gx 28 e.arr _ (by kernel_rfl) (by kernel_rfl) g7 Tryd.underlying28 (by kernel_rfl) IA.out ?_); simp only [Act.put, List.setIfInBounds_toArray, List.set_cons_succ, List.set_cons_zero])
        | (go_at_call 16; (with_reducible refine (HMAY.out _ hE4).mono ?_); rintro e' V5 ⟨rfl, c5⟩))
      have g75 := g7.below c5 hg7
      have hB5 := hB4.below c5 (by omega)
      have hr5 := lown_up hr4 c5
      have hb5 := hb4.trans (c5.mono hb4.size)
      have hz5 := c5.size
      clear g7 hB4 hr4 hb4 c5 hE4
      have HT5 := HT.out.up hb5
      go_upto_region 13 with (first
        | ((with_reducible refine wpList_load_held (dst := some 45) 28 (.tmp 12) gx 28 e.arr _ (by kernel_rfl) (by kernel_rfl) g75 Tryd.underlying28 (by kernel_rfl) IA.out ?_); simp only [Act.put, List.setIfInBounds_toArray, List.set_cons_succ, List.set_cons_zero])
        | (go_at_call 17; (with_reducible refine (HBM.out _ hB5 HT5).mono ?_); rintro e' V6 ⟨rfl, c6⟩))
      have g76 := g75.below c6 (by omega)
      have hB6 := hB5.below c6 (by omega)
      have hr6 := lown_up hr5 c6
      have hb6 := hb5.trans (c6.mono hb5.size)
      have hz6 := c6.size
      clear g75 hB5 hr5 hb5 c6 HT5
      have HT6 := HT.out.up hb6
      go_upto_if 51 with (first
        | ((with_reducible refine wpList_load_held (dst := some 48) 28 (.tmp 12) gx 28 e.arr _ (by kernel_rfl) (by kernel_rfl) g76 Tryd.underlying28 (by kernel_rfl) IA.out ?_); simp only [Act.put, List.setIfInBounds_toArray, List.set_cons_succ, List.set_cons_zero])
        | (go_at_call 9; (with_reducible refine (HADD.out _ hB6 HT6).mono ?_); rintro e' V7 ⟨rfl, hB7, c7⟩))
      have g77 := c7.held (by omega) g76
      have hr7 := own_but c7 hgb hr6
      have hb7 := hb6.trans (c7.below (Nat.le_refl _) hb6.size)
      have hz7 := c7.size
      clear g76 hB6 hr6 hb6 c7 HT6 HMAY HBM HADD
      rw [← HRT.out] at hB7
      have hg77 := g77.lt
      go_cut [8, 9, 10] from 31 to 106 (fun s8 s9 s10 wx => s9 = .int .i64 (firstF es (i + 1)) ∧ s10 = .int .i64 (runB (es.take (i + 1))).seals ∧ wx.ownsRow w1.heap.size 28 42 s8 (takenE (es.take (i + 1))).length ((takenE (es.take (i + 1))).flatMap Ent.cells) ∧
        Held wx w.heap.size 40 (runB (es.take (i + 1))).arr ∧ Held wx gx 28 e.arr ∧ Below w.heap.size w wx ∧ w1.heap.size ≤ wx.heap.size)
      case first =>
        obtain ⟨xk0, _⟩ := ent_cells g77
        by_cases hR0 : R = 0
        case pos =>
          subst hR0
          have hts := HTS.out
          rw [if_pos rfl] at hts
          have hff := HF.out
          rw [if_pos (by simp)] at hff
          have hss := HSS.out rfl
          rw [← HRT.out] at hss
          have SL := Lib.hid (slice_one e.arr (by rw [Ent.arr_size _ HEL.out]))
          have hsl : SlV (V7.alloc (.cells e.arr 28)) (V7.alloc (.cells e.arr 28)).heap.size (some ⟨V7.heap.size, 0, none⟩) 1 1 42 e.cells := SlV.of_lit rfl (by rw [Ent.cells_len _ HEL.out]) (by omega)
          have HB1 := Lib.hid (show (takenE (es.take i)).length + 1 ≤ maxLen ∧ ((takenE (es.take i)).length + 1) * 112 ≤ 140737488355328 by have := HTL.out; unfold maxLen; omega)
          have H1C : Hid (∀ u ∈ e.cells, u.oneCell' = true) := Lib.hid (fun u hu => by
            have := ent_one e
            rw [Array.all_eq_true_iff_forall_mem] at this
            exact this u (by simpa [Ent.arr] using hu))
          have hbase : w1.heap.size ≤ (V7.alloc (.cells e.arr 28)).heap.size := by simp; omega
          have h8B : Held (V7.alloc (.cells e.arr 28)) w.heap.size 40 (runB (es.take (i + 1))).arr := hB7.alloc _
          have h8X : Held (V7.alloc (.cells e.arr 28)) gx 28 e.arr := g77.alloc _
          have h8b : Below w.heap.size w (V7.alloc (.cells e.arr 28)) := hb7.alloc hb7.size _
          have hr8 := hr7.alloc (.cells e.arr 28)
          go_upto_region 16 with (first
            | ((with_reducible refine wpList_load_held (dst := some 53) 28 (.tmp 12) gx 28 e.arr _ (by kernel_rfl) (by kernel_rfl) g77 Tryd.underlying28 (by kernel_rfl) IA.out ?_); simp only [Act.put, List.setIfInBounds_toArray, List.set_cons_succ, List.set_cons_zero])
            | ((with_reducible refine wpList_bslice_at (dst := some 54) 22 1 _ _ _ _ (by kernel_rfl) (by kernel_rfl) (SL.out _) ?_); simp only [Act.put, List.setIfInBounds_toArray, List.set_cons_succ, List.set_cons_zero])
            | ((with_reducible refine at_append ?_); refine wpList_append_slv _ rfl (.tmp 52) (.tmp 54) 22 rfl w1.heap.size 28 i0 (.agg ZE) 42 112 Tryd.underlying22 hi0 hz0 hz1 hz2 ZC (by omega) _ _ _ rfl hr8 _ (some ⟨V7.heap.size, 0, none⟩) 1 1 e.cells rfl hsl H1C.out HB1.out.1 HB1.out.2 hbase ?_; intro v9 W9 o9 gr9 _))
          have h9B := h8B.kept gr9 (fun e' => by have := (hr8.lt _ e'.symm).1; omega)
          have h9X := h8X.kept gr9 (fun e' => by have := hrl _ e'.symm; omega)
          have h9b := h8b.grown gr9 (by have := hb7.size; simp; omega) (fun k hk => by have := (hr8.lt k hk).1; omega)
          have h9z : w1.heap.size ≤ W9.heap.size := Nat.le_trans hbase gr9.size
          have ho9 : W9.ownsRow w1.heap.size 28 42 v9 (takenE (es.take (i + 1))).length ((takenE (es.take (i + 1))).flatMap Ent.cells) := by
            rw [hts, List.length_append, List.flatMap_append]
            simpa using o9
          have HRES := Lib.hid (And.intro hff (And.intro hss (And.intro ho9 (And.intro h9B (And.intro h9X (And.intro h9b h9z))))))
          obtain ⟨xk9, _⟩ := ent_cells h9X
          have hwr : IntKind.i64.wrap ((runB (es.take i)).seals + 1) = (runB (es.take i)).seals + 1 := by
            obtain ⟨h1, h2⟩ := hbk.e
            simp only [IntKind.wrap_i64]; omega
          clear hff hss ho9 h9B h9X h9b h9z hts o9 gr9 hr8 h8b h8X h8B hsl xk0
          by_cases h5 : e.kind = 5
          · rw [h5] at xk9
            go_wp2_with fail
            go_meet
            case rel =>
              obtain ⟨q1, q2, q3⟩ := HRES.out
              exact ⟨by rw [q1], by rw [q2, if_pos h5], q3⟩
          · have h5b : (e.kind == 5) = false := by simp [h5]
            go_wp2_with fail
            go_meet
            case rel =>
              obtain ⟨q1, q2, q3⟩ := HRES.out
              exact ⟨by rw [q1], by rw [q2, if_neg h5], q3⟩
        case neg =>
          have hts := HTS.out
          rw [if_neg hR0] at hts
          have hff := HF.out
          rw [if_neg (by simpa using hR0)] at hff
          have hrt := HRT.out
          rw [HSM.out hR0] at hrt
          have HRES := Lib.hid (And.intro hts (And.intro hff hrt))
          have hb0 : (R == 0) = false := by simp [hR0]
          obtain ⟨Fi, hFi⟩ : ∃ F, firstF es i = F := ⟨_, rfl⟩
          have HFI := Lib.hid hFi
          rw [hFi]
          clear hts hff hrt hFi xk0 hR0
          by_cases hf : Fi < 0
          · go_wp2_with fail
            go_meet
            case rel =>
              obtain ⟨q1, q2, q3⟩ := HRES.out
              exact ⟨by rw [q2, HFI.out, if_pos hf], by rw [q3], by rw [q1]; exact hr7, hB7, g77, hb7, by omega⟩
          · go_wp2_with fail
            go_meet
            case rel =>
              obtain ⟨q1, q2, q3⟩ := HRES.out
              exact ⟨by rw [q2, HFI.out, if_neg (by omega)], by rw [q3], by rw [q1]; exact hr7, hB7, g77, hb7, by omega⟩
      case rest =>
        obtain ⟨rfl, rfl, hrow9, hB9, hX9, hb9, hz9⟩ := hcut
        obtain ⟨hAd1, hRB1, hTL1, hMN1⟩ := taken_added es HOK.out (i + 1) (by omega)
        have hbk9 := runB_ok_take es HOK.out (i + 1) (by omega)
        obtain ⟨A9, c9, rfl, he9⟩ := EnI.of_own hAd1.1 rfl hrow9
        have HLEN := Lib.hid (fun V hV => len_any _ _ hbk9 w.heap.size V hV)
        have HSEA := Lib.hid (fun V hV => seals_any _ _ hbk9 w.heap.size V hV)
        have HSU := Lib.hid (fun V hV k => bsum_any _ _ hbk9 w.heap.size k V hV)
        have HTO := Lib.hid (fun V hV k q => total_any _ _ hbk9 w.heap.size k q V hV)
        have HRS := Lib.hid (fun (V : World) (hV : EnI V A9 (takenE (es.take (i + 1))).length (takenE (es.take (i + 1)))) (k : Int) => rsum_any (takenE (es.take (i + 1))) hAd1 A9 _ c9 k V hV (by omega))
        have HRO := Lib.hid (fun (V : World) (hV : EnI V A9 (takenE (es.take (i + 1))).length (takenE (es.take (i + 1)))) (k q : Int) => rtotal_any (takenE (es.take (i + 1))) hAd1 A9 _ c9 k q V hV (by omega))
        have HSL := Lib.hid (fun (k : Int) => (sumI_ok hbk9 (by omega) k).hash)
        rw [hMN1] at HLEN
        rw [hRB1] at HRS HRO
        have HROW9 := Lib.hid hrow9
        have HE9 := Lib.hid he9
        clear hbk9 hMN1 hRB1 hAd1 hrow9 he9 hB7 hr7 hb7 hz7 g77 hg77
        obtain ⟨_, xm9, _⟩ := ent_cells hX9
        go_upto_region 23 with (first
          | (go_at_call 13; (with_reducible refine (HLEN.out _ hB9).mono ?_); rintro e' V' ⟨rfl, rfl⟩)
          | (go_at_call 12; (with_reducible refine (HSEA.out _ hB9).mono ?_); rintro e' V' ⟨rfl, rfl⟩))
        obtain ⟨K, hK⟩ : ∃ K, max 0 (min 63 e.meter) = K := ⟨_, rfl⟩
        rw [hK]
        clear hK xm9
        obtain ⟨b1, hb1e⟩ : ∃ b1, runB (es.take (i + 1)) = b1 := ⟨_, rfl⟩
        have HBE := Lib.hid hb1e
        rw [hb1e] at HSU HTO HRS HRO HSL hB9
        obtain ⟨S, hS⟩ : ∃ S, b1.sumI K = S := ⟨_, rfl⟩
        obtain ⟨T, hTt⟩ : ∃ T, b1.totI K band = T := ⟨_, rfl⟩
        have HSL1 := HSL.out K
        have H1 := Lib.hid (fun V hV => HSU.out V hV K)
        have H2 := Lib.hid (fun V hV => HRS.out V hV K)
        have H3 := Lib.hid (fun V hV => HTO.out V hV K band)
        have H4 := Lib.hid (fun V hV => HRO.out V hV K band)
        rw [hS] at H1 H2 HSL1
        rw [hTt] at H3 H4
        have N1 := Lib.hid (sum_neq S HSL1)
        have N2 := Lib.hid (tot_neq T)
        generalize S.arr = SA at H1 H2 N1
        generalize T.arr = TA at H3 H4 N2
        clear hb1e hS hTt HSL1 HSU HRS HTO HRO HSL HLEN HSEA hX9
        have zB := hB9.lt
        have hE9 := HE9.out
        have hR9 := HROW9.out
        go_wp2_with (first
          | (go_at_call 11; (with_reducible refine (H1.out _ hB9).mono ?_); rintro e' Va ⟨rfl, ca⟩; (have hBa := hB9.below ca zB); (have hEa := hE9.up ca); (have hRa := lown_up hR9 ca); (have hba := hb9.trans (ca.mono hb9.size)); (have za := ca.size))
          | (go_at_call 18; (with_reducible refine (H2.out _ hEa).mono ?_); rintro e' Vb ⟨rfl, cb⟩; (have hBb := hBa.below cb (by omega)); (have hRb := lown_up hRa cb); (have hbb := hba.trans (cb.mono hba.size)); (have zb := cb.size); (have hEb := hEa.up cb))
          | ((with_reducible refine wpList_bin_at (dst := some 95) .neq 36 36 (.tmp 91) (.tmp 94) (.agg SA) (.agg SA) _ (by kernel_rfl) (by kernel_rfl) (by kernel_rfl) (sum_guard2 _ _ _ _ _) (N1.out _) ?_); simp only [Act.put, List.setIfInBounds_toArray, List.set_cons_succ, List.set_cons_zero])
          | (go_at_call 10; (with_reducible refine (H3.out _ hBb).mono ?_); rintro e' Vc ⟨rfl, cc⟩; (have hBc := hBb.below cc (by omega)); (have hEc := hEb.up cc); (have hRc := lown_up hRb cc); (have hbc := hbb.trans (cc.mono hbb.size)); (have zc := cc.size))
          | (go_at_call 19; (with_reducible refine (H4.out _ hEc).mono ?_); rintro e' Vd ⟨rfl, cd⟩; (have hBd := hBc.below cd (by omega)); (have hRd := lown_up hRc cd); (have hbd := hbc.trans (cd.mono hbc.size)); (have zd := cd.size))
          | ((with_reducible refine wpList_bin_at (dst := some 105) .neq 32 32 (.tmp 100) (.tmp 104) (.agg TA) (.agg TA) _ (by kernel_rfl) (by kernel_rfl) (by kernel_rfl) (tot_guard2 _ _ _ _ _) (N2.out _) ?_); simp only [Act.put, List.setIfInBounds_toArray, List.set_cons_succ, List.set_cons_zero]))
        go_roundw
        case rel => exact ⟨i + 1, by omega, by go_num, rfl, rfl, by rw [HBE.out]; exact hBd, hRd, hbd, by omega⟩
        case measure => simp [intOf]; omega
    · obtain rfl : i = es.length := by omega
      have hltI : decide ((es.length : Int) < (es.length : Int)) = false := by simp
      have HFC := first_cases es es.length (Nat.le_refl _)
      obtain ⟨A9, c9, rfl, he9⟩ := EnI.of_own hAd.1 rfl hrow
      have hbk := runB_ok es HOK.out
      generalize hte : takenE (es.take es.length) = ts at he9 hrow hAd hRB hTL hMN
      rw [List.take_length] at hB hRB
      obtain ⟨b, hbe⟩ : ∃ b, runB es = b := ⟨_, rfl⟩
      rw [hbe] at hB hbk hRB
      have HFOLD : Hid (Calls Tryd.prog 20 #[.slice A es.length c] wr fun e' w' => ∃ vf vn ve, e' = .returned (.tuple #[vf, vn, ve]) ∧ ((firstF es es.length = -1 ∧ ∃ g, vf = .pointer (some ⟨g, 0, none⟩) ∧ vn = .int .i64 es.length ∧ ve = .int .i64 0 ∧ Held w' g 40 b.arr) ∨
          (∃ (j : Nat) (x : Ent), firstF es es.length = j ∧ es[j]? = some x ∧ allOk es j ∧ vf = .pointer none ∧ vn = .int .i64 j ∧ ve = .int .i64 (addP (runB (es.take j)) x).2)) ∧ Below wr.heap.size wr w') := Lib.hid (by
        refine (fold_any es A es.length c wr (HEN.out.up hbl) (by omega) (HT.out.up hbl)).mono ?_
        rintro e' w' ⟨h, hbw'⟩
        rcases h with ⟨hall, g, he', _, hG⟩ | ⟨j, x, hj, hall, hne, he'⟩
        · refine ⟨_, _, _, he', .inl ⟨?_, g, rfl, rfl, rfl, by rw [← hbe]; exact hG⟩, hbw'⟩
          rcases HFC with ⟨h1, _⟩ | ⟨j, x, hjn, _, hjx, _, hne⟩
          · exact h1
          · exact absurd (hall j x hjn hjx) hne
        · refine ⟨_, _, _, he', .inr ⟨j, x, ?_, hj, hall, rfl, rfl, rfl⟩, hbw'⟩
          have hjl := (List.getElem?_eq_some_iff.1 hj).1
          rcases HFC with ⟨_, h2⟩ | ⟨j', x', hjn, hf, hjx, hall', hne'⟩
          · exact absurd (h2 j x hjl hj) hne
          · rcases Nat.lt_trichotomy j j' with h | h | h
            · exact absurd (hall' j x h hj) hne
            · rw [h]; exact hf
            · exact absurd (hall j' x' h hjx) hne')
      generalize firstF es es.length = Fz at HFOLD ⊢
      clear HFC
      have hBl := hB.lt
      have HROW := Lib.hid hrow
      have HE := Lib.hid he9
      have HBL := Lib.hid hbl
      have HB := Lib.hid hB
      have hbz := hbl.size
      have HAD := Lib.hid hAd
      have HRB := Lib.hid hRB
      have HBK := Lib.hid hbk
      clear hrow he9 hbl hB hAd hRB hMN hbk hbe
      go_upto_if 114 with (go_at_call 20; (with_reducible refine HFOLD.out.mono ?_); rintro e' V5 ⟨vf, vn, ve, rfl, hcase, c5⟩)
      have hB5 := HB.out.below c5 hBl
      have hE5 := HE.out.up c5
      have hR5 := lown_up HROW.out c5
      have hb5 := HBL.out.trans (c5.mono hbz)
      clear HFOLD HB HE HROW HBL c5
      go_cut [17, 18, 19] from 107 (fun _ _ _ wx => Held wx w.heap.size 40 b.arr ∧ EnI wx A9 ts.length ts ∧ Below w.heap.size w wx)
      case first =>
        rcases hcase with ⟨rfl, g, rfl, rfl, rfl, hG⟩ | ⟨j, x, rfl, hjx, hall, rfl, rfl, rfl⟩
        · have HSAME := Lib.hid (fun V hV hV' => same_any _ _ b b HBK.out HBK.out g w.heap.size V hV hV')
          simp only [decide_true] at HSAME
          have zb := hB5.lt
          go_wp2_with (go_at_call 15; (with_reducible refine (HSAME.out _ hG hB5).mono ?_); rintro e' V6 ⟨rfl, c6⟩)
          go_meet
          case rel => exact ⟨hB5.below c6 zb, hE5.up c6, hb5.trans (c6.mono hb5.size)⟩
        have hjl := (List.getElem?_eq_some_iff.1 hjx).1
        obtain ⟨g, o, rfl, hrg⟩ := HAT.out j x hjx
        have hxo := HOK.out x (List.mem_of_getElem? hjx)
        have HXR := Lib.hid (rangeAt_up hrg hb5)
        have IX : Hid ((Tryd.prog.info? 28).map (·.size) = some x.cells.length) := Lib.hid (by rw [ent_size x hxo.2.2.2.2.2.2.2.2.2.2.1]; simp [Ent.arr])
        have hadj := added_take es HOK.out j hall
        have hbj := runB_ok_take es HOK.out j (by omega)
        have hEJ : EnI V5 (some ⟨g, o, none⟩) j (es.take j) := by
          refine ⟨by rw [List.length_take]; omega, fun e' he' => HOK.out e' (List.mem_of_mem_take he'), fun q y hy => ?_⟩
          have hq := (List.getElem?_eq_some_iff.1 hy).1
          rw [List.length_take] at hq
          rw [List.getElem?_take, if_pos (by omega)] at hy
          obtain ⟨g', o', hgo, hr'⟩ := HAT.out q y hy
          exact ⟨g', o', hgo, rangeAt_up hr' hb5⟩
        have HEJ := Lib.hid hEJ
        have HRM := Lib.hid (fun (V : World) (hV : EnI V (some ⟨g, o, none⟩) j (es.take j)) => rmay_any (es.take j) hadj (some ⟨g, o, none⟩) j c x hxo V hV (by rw [List.length_take]; omega))
        rw [mayR_add hbj x hxo] at HRM
        generalize (addP (runB (es.take j)) x).2 = R at HRM ⊢
        have hjc : (j : Int) ≤ c := by omega
        have hjlI : (j : Int) < (es.length : Int) := by omega
        clear hEJ hadj hbj hrg hall hjx hxo
        go_upto_region 27 with fail
        obtain ⟨wd27, hwd27⟩ : ∃ W : World, V5.drew = W := ⟨_, rfl⟩
        have hS : Below V5.heap.size V5 wd27 := by rw [← hwd27]; exact (Below.refl _ _).drew
        refine wp_region_held (S := Below V5.heap.size V5) (by kernel_rfl) ?_
        change wpAnyH _ _ _ _ _ _ _ _ V5.drew
        rw [hwd27]
        clear hwd27
        refine wpAnyH_take (i := 0) (v := ?v0_1) rfl (by kernel_rfl) (by kernel_rfl) (by kernel_rfl) (fun _ _ _ h => h) (Or.inl ⟨by rfl, ?y0_1⟩) hS ?r0_1
        case y0_1 =>
          rintro W hH
          go_simp
          with_reducible rfl
        simp only [Act.put]
        try simp only [List.getElem_toArray, List.getElem_cons_zero]
        try simp only [List.setIfInBounds_toArray, List.set_cons_succ, List.set_cons_zero]
        refine wpAnyH_take (i := 1) (v := ?v1_2) rfl (by kernel_rfl) (by kernel_rfl) (by kernel_rfl) (fun _ _ _ h => h) (Or.inl ⟨by rfl, ?y1_2⟩) hS ?r1_2
        case y1_2 =>
          rintro W hH
          go_simp
          with_reducible rfl
        simp only [Act.put]
        try simp only [List.getElem_toArray, List.getElem_cons_succ, List.getElem_cons_zero]
        try simp only [List.setIfInBounds_toArray, List.set_cons_succ, List.set_cons_zero]
        refine wpAnyH_take (i := 2) (v := ?v2_3) rfl (by kernel_rfl) (by kernel_rfl) (by kernel_rfl) (fun _ _ _ h => h) (Or.inl ⟨by rfl, ?y2_3⟩) hS ?r2_3
        case y2_3 =>
          rintro W hH
          go_simp
          with_reducible rfl
        simp only [Act.put]
        try simp only [List.getElem_toArray, List.getElem_cons_succ, List.getElem_cons_zero]
        try simp only [List.setIfInBounds_toArray, List.set_cons_succ, List.set_cons_zero]
        refine wpAnyH_take (i := 3) (v := ?v3_4) rfl (by kernel_rfl) (by kernel_rfl) (by kernel_rfl) (fun _ _ _ h => h) (Or.inl ⟨by rfl, ?y3_4⟩) hS ?r3_4
        case y3_4 =>
          rintro W hH
          go_simp
          with_reducible rfl
        simp only [Act.put]
        try simp only [List.getElem_toArray, List.getElem_cons_succ, List.getElem_cons_zero]
        try simp only [List.setIfInBounds_toArray, List.set_cons_succ, List.set_cons_zero]
        refine wpAnyH_take (i := 4) (v := ?v4_5) rfl (by kernel_rfl) (by kernel_rfl) (by kernel_rfl) (fun _ _ _ h => h) (Or.inl ⟨by rfl, ?y4_5⟩) hS ?r4_5
        case y4_5 =>
          rintro W hH
          go_simp
          with_reducible rfl
        simp only [Act.put]
        try simp only [List.getElem_toArray, List.getElem_cons_succ, List.getElem_cons_zero]
        try simp only [List.setIfInBounds_toArray, List.set_cons_succ, List.set_cons_zero]
        refine wpAnyH_take (i := 5) (v := ?v5_6) rfl (by kernel_rfl) (by kernel_rfl) (by kernel_rfl) (fun _ _ _ h => h) (Or.inl ⟨by rfl, ?y5_6⟩) hS ?r5_6
        case y5_6 =>
          rintro W hH
          go_simp
          with_reducible rfl
        simp only [Act.put]
        try simp only [List.getElem_toArray, List.getElem_cons_succ, List.getElem_cons_zero]
        try simp only [List.setIfInBounds_toArray, List.set_cons_succ, List.set_cons_zero]
        refine wpAnyH_take (i := 6) (v := ?v6_7) rfl (by kernel_rfl) (by kernel_rfl) (by kernel_rfl) (fun _ _ _ h => h) (Or.inl ⟨by rfl, ?y6_7⟩) hS ?r6_7
        case y6_7 =>
          rintro W hH
          go_simp
          with_reducible rfl
        simp only [Act.put]
        try simp only [List.getElem_toArray, List.getElem_cons_succ, List.getElem_cons_zero]
        try simp only [List.setIfInBounds_toArray, List.set_cons_succ, List.set_cons_zero]
        refine wpAnyH_take (i := 7) (v := ?v7_8) rfl (by kernel_rfl) (by kernel_rfl) (by kernel_rfl) (fun _ _ _ h => h) (Or.inl ⟨by rfl, ?y7_8⟩) hS ?r7_8
        case y7_8 =>
          rintro W hH
          go_simp
          with_reducible rfl
        simp only [Act.put]
        try simp only [List.getElem_toArray, List.getElem_cons_succ, List.getElem_cons_zero]
        try simp only [List.setIfInBounds_toArray, List.set_cons_succ, List.set_cons_zero]
        refine wpAnyH_take (i := 8) (v := ?v8_9) rfl (by kernel_rfl) (by kernel_rfl) (by kernel_rfl) (fun _ _ _ h => h) (Or.inl ⟨by rfl, ?y8_9⟩) hS ?r8_9
        case y8_9 =>
          rintro W hH
          go_simp
          with_reducible rfl
        simp only [Act.put]
        try simp only [List.getElem_toArray, List.getElem_cons_succ, List.getElem_cons_zero]
        try simp only [List.setIfInBounds_toArray, List.set_cons_succ, List.set_cons_zero]
        refine wpAnyH_take (i := 9) (v := ?v9_10) rfl (by kernel_rfl) (by kernel_rfl) (by kernel_rfl) (fun _ _ _ h => h) (Or.inl ⟨by rfl, ?y9_10⟩) hS ?r9_10
        case y9_10 =>
          rintro W hH
          go_simp
          with_reducible rfl
        simp only [Act.put]
        try simp only [List.getElem_toArray, List.getElem_cons_succ, List.getElem_cons_zero]
        try simp only [List.setIfInBounds_toArray, List.set_cons_succ, List.set_cons_zero]
        refine wpAnyH_take (i := 10) (v := ?v10_11) rfl (by kernel_rfl) (by kernel_rfl) (by kernel_rfl) (fun _ _ _ h => h) (Or.inl ⟨by rfl, ?y10_11⟩) hS ?r10_11
        case y10_11 =>
          rintro W hH
          go_simp
          with_reducible rfl
        simp only [Act.put]
        try simp only [List.getElem_toArray, List.getElem_cons_succ, List.getElem_cons_zero]
        try simp only [List.setIfInBounds_toArray, List.set_cons_succ, List.set_cons_zero]
        refine wpAnyH_take (i := 11) (v := ?v11_12) rfl (by kernel_rfl) (by kernel_rfl) (by kernel_rfl) (fun _ _ _ h => h) (Or.inl ⟨by rfl, ?y11_12⟩) hS ?r11_12
        case y11_12 =>
          rintro W hH
          go_simp
          with_reducible rfl
        simp only [Act.put]
        try simp only [List.getElem_toArray, List.getElem_cons_succ, List.getElem_cons_zero]
        try simp only [List.setIfInBounds_toArray, List.set_cons_succ, List.set_cons_zero]
        refine wpAnyH_take (i := 12) (v := ?v12_13) rfl (by kernel_rfl) (by kernel_rfl) (by kernel_rfl) (fun _ _ _ h => h) (Or.inl ⟨by rfl, ?y12_13⟩) hS ?r12_13
        case y12_13 =>
          rintro W hH
          go_simp
          with_reducible rfl
        simp only [Act.put]
        try simp only [List.getElem_toArray, List.getElem_cons_succ, List.getElem_cons_zero]
        try simp only [List.setIfInBounds_toArray, List.set_cons_succ, List.set_cons_zero]
        refine wpAnyH_take (i := 13) (v := ?v13_14) rfl (by kernel_rfl) (by kernel_rfl) (by kernel_rfl) (fun _ _ _ h => h) (Or.inl ⟨by rfl, ?y13_14⟩) hS ?r13_14
        case y13_14 =>
          rintro W hH
          go_simp
          with_reducible rfl
        simp only [Act.put]
        try simp only [List.getElem_toArray, List.getElem_cons_succ, List.getElem_cons_zero]
        try simp only [List.setIfInBounds_toArray, List.set_cons_succ, List.set_cons_zero]
        refine wpAnyH_take (i := 14) (v := ?v14_15) rfl (by kernel_rfl) (by kernel_rfl) (by kernel_rfl) (fun _ _ _ h => h) (Or.inl ⟨by rfl, ?y14_15⟩) hS ?r14_15
        case y14_15 =>
          rintro W hH
          go_simp
          with_reducible rfl
        simp only [Act.put]
        try simp only [List.getElem_toArray, List.getElem_cons_succ, List.getElem_cons_zero]
        try simp only [List.setIfInBounds_toArray, List.set_cons_succ, List.set_cons_zero]
        refine wpAnyH_take (i := 15) (v := Value.agg x.arr) rfl (by kernel_rfl) (by kernel_rfl) (by kernel_rfl) (fun _ _ _ h => h) ?y15_16 hS ?r15_16
        case y15_16 => exact yieldsIf_load_mid (by kernel_rfl) 28 (.tmp 129) rfl g (o + j * 42) (by kernel_rfl) x.cells _ (fun W hH => rangeAt_up HXR.out hH) Tryd.underlying28 (by kernel_rfl) IX.out
        simp only [Act.put]
        try simp only [List.getElem_toArray, List.getElem_cons_succ, List.getElem_cons_zero]
        try simp only [List.setIfInBounds_toArray, List.set_cons_succ, List.set_cons_zero]
        refine wpAnyH_ready (rs := [16]) (by kernel_rfl) (by simp) ?_
        refine AllReadyH.cons rfl (fun K' hK' => ?_) AllReadyH.nil
        go_simp
        refine (HRM.out _ (HEJ.out.up hS)).mono ?_
        rintro e' V6 ⟨rfl, c6⟩
        dsimp only
        refine hK'.out _ _ (hS.trans (c6.mono hS.size)) (fun hS => ?_)
        clear hK' K'
        refine wpAnyH_take (i := 17) (v := ?v17_17) rfl (by kernel_rfl) (by kernel_rfl) (by kernel_rfl) (fun _ _ _ h => h) (Or.inl ⟨by rfl, ?y17_17⟩) hS ?r17_17
        case y17_17 =>
          rintro W hH
          go_simp
          with_reducible rfl
        simp only [Act.put]
        try simp only [List.getElem_toArray, List.getElem_cons_succ, List.getElem_cons_zero]
        try simp only [List.setIfInBounds_toArray, List.set_cons_succ, List.set_cons_zero]
        refine wpAnyH_take (i := 18) (v := ?v18_18) rfl (by kernel_rfl) (by kernel_rfl) (by kernel_rfl) (fun _ _ _ h => h) (Or.inl ⟨by rfl, ?y18_18⟩) hS ?r18_18
        case y18_18 =>
          rintro W hH
          go_simp
          with_reducible rfl
        simp only [Act.put]
        try simp only [List.getElem_toArray, List.getElem_cons_succ, List.getElem_cons_zero]
        try simp only [List.setIfInBounds_toArray, List.set_cons_succ, List.set_cons_zero]
        refine wpAnyH_done (by kernel_rfl) ?_ _
        go_wp2_with fail
        go_meet
        case rel => exact ⟨hB5.below hS hB5.lt, hE5.up hS, hb5.trans (hS.mono hb5.size)⟩
      case rest =>
        obtain ⟨hB6, hE6, hb6⟩ := hcut
        have hz6 := hb6.size
        have zB6 := hB6.lt
        have HLN := Lib.hid (fun V hV (hp : P10 V) => callsIn_wide.1 (lines_any _ (by omega) b HBK.out w.heap.size V hV hp))
        have HRL := Lib.hid (fun (V : World) (hV : EnI V A9 ts.length ts) => rlines_any ts HAD.out A9 _ c9 V hV (by omega))
        have HMT := Lib.hid (fun V hV => meters_any _ b HBK.out w.heap.size V hV)
        have HRT := Lib.hid (fun (V : World) (hV : EnI V A9 ts.length ts) => rmeters_any ts HAD.out A9 _ c9 V hV (by omega))
        rw [HRB.out] at HRL HRT
        have HML := Lib.hid (metI_len b 64)
        have hmb := metI_len b 64
        have hlb : (linesL b).length ≤ 576 := by
          have e : linesN b (metI b 64).length = linesL b := by unfold linesN linesL; rw [List.take_of_length_le (by simp [metI])]
          rw [← e]; exact linesN_len b _ hmb
        clear hcase
        have hT0 := tabIs_up HP.out hb6
        go_upto_region 37 with (first
          | (go_at_call 21; (with_reducible refine (HRL.out _ hE6).mono ?_); rintro e' Va ⟨⟨Aw, cw, rfl, hsw⟩, ca⟩; (have hBa := hB6.below ca zB6); (have hEa := hE6.up ca); (have hba := hb6.trans (ca.mono hz6)); (have hTa := tabIs_up HP.out hba); (have za := ca.size))
          | (go_at_call 22; (with_reducible refine (HLN.out _ hBa hTa).mono ?_); rintro e' Vb ⟨⟨Ag, cg, rfl, hsg⟩, cb⟩; (have hBb := hBa.below cb (by omega)); (have hEb := hEa.up cb); (have hbb := hba.trans (cb.mono hba.size)); (have hsw2 := hsw.up cb); (have zb := cb.size))
          | (go_at_call 23; (with_reducible refine (HMT.out _ hBb).mono ?_); rintro e' Vc ⟨⟨Am, cm, rfl, hsm⟩, cc⟩; (have hBc := hBb.below cc (by omega)); (have hEc := hEb.up cc); (have hbc := hbb.trans (cc.mono hbb.size)); (have hsw3 := hsw2.up cc); (have hsg3 := hsg.up cc); (have zc := cc.size))
          | (go_at_call 24; (with_reducible refine (HRT.out _ hEc).mono ?_); rintro e' Vd ⟨⟨Ar, cr, rfl, hsr⟩, cd⟩; (have hBd := hBc.below cd (by omega)); (have hEd := hEc.up cd); (have hbd := hbc.trans (cd.mono hbc.size)); (have hsw4 := hsw3.up cd); (have hsg4 := hsg3.up cd); (have hsm4 := hsm.up cd); (have zd := cd.size)))
        have HEd := Lib.hid (And.intro hBd (And.intro hEd hbd))
        have hwz : w.heap.size < Vd.heap.size := by omega
        have HSW := Lib.hid hsw4
        have HSG := Lib.hid hsg4
        have HSM := Lib.hid hsm4
        have HSR := Lib.hid hsr
        clear hB6 hE6 hb6 hBa hEa hba hTa hT0 hBb hEb hbb hBc hEc hbc hBd hEd hbd hsw hsw2 hsw3 hsw4 hsg hsg3 hsg4 hsm hsm4 hsr ca cb cc cd za zb zc zd HLN HRL HMT HRT
        go_wp2_with fail
        go_loopw [24] (fun v W => ∃ k : Nat, k ≤ (linesL b).length ∧ v = .int .i64 k ∧ Below Vd.heap.size Vd W) (fun v _ => (linesL b).length - (intOf v).toNat)
        case atStart => exact ⟨0, Nat.zero_le _, rfl, Below.refl _ _⟩
        case round =>
          obtain ⟨k, hk, rfl, hbl⟩ := hrel
          by_cases hlt2 : k < (linesL b).length
          · obtain ⟨x, hx⟩ : ∃ x, (linesL b)[k]? = some x := ⟨_, List.getElem?_eq_getElem hlt2⟩
            obtain ⟨g1, o1, rfl, hc1⟩ := (HSW.out.up hbl).2 k x hx
            obtain ⟨g2, o2, rfl, hc2⟩ := (HSG.out.up hbl).2 k x hx
            have hltI : (k : Int) < ((linesL b).length : Int) := by omega
            unfold strV at hc1 hc2
            generalize strB x = y at hc1 hc2
            have HBL := Lib.hid hbl
            have HLT := Lib.hid hlt2
            clear hbl hx
            go_wp2_with fail
            go_quiet (fail)
            go_wp2_with fail
            go_roundw
            case rel => exact ⟨k + 1, by have := HLT.out; omega, by go_num, below_drewN HBL.out _⟩
            case measure => have := HLT.out; simp [intOf]; omega
          · obtain rfl : k = (linesL b).length := by omega
            have hltI : decide (((linesL b).length : Int) < ((linesL b).length : Int)) = false := by simp
            have HBL := Lib.hid hbl
            clear hbl
            go_wp2_with fail
            go_loopw [25] (fun v W => ∃ k : Nat, k ≤ (metI b 64).length ∧ v = .int .i64 k ∧ Below Vd.heap.size Vd W) (fun v _ => (metI b 64).length - (intOf v).toNat)
            case atStart => exact ⟨0, Nat.zero_le _, rfl, HBL.out⟩
            case round =>
              obtain ⟨q, hq, rfl, hbl⟩ := hrel
              by_cases hlt3 : q < (metI b 64).length
              · obtain ⟨x, hx⟩ : ∃ x, (metI b 64)[q]? = some x := ⟨_, List.getElem?_eq_getElem hlt3⟩
                obtain ⟨g1, o1, rfl, hg1, hc1⟩ := (HSM.out.up hbl).2.2.2.2 (by omega)
                obtain ⟨g2, o2, rfl, hg2, hc2⟩ := (HSR.out.up hbl).2.2.2.2 (by omega)
                have hd1 := hc1 q x hx
                have hd2 := hc2 q x hx
                have hltI : (q : Int) < ((metI b 64).length : Int) := by omega
                have HBL := Lib.hid hbl
                have HLT := Lib.hid hlt3
                clear hbl hx hc1 hc2 hg1 hg2
                go_wp2_with fail
                go_quiet (fail)
                go_wp2_with fail
                go_roundw
                case rel => exact ⟨q + 1, by have := HLT.out; omega, by go_num, below_drewN HBL.out _⟩
                case measure => have := HLT.out; simp [intOf]; omega
              · obtain rfl : q = (metI b 64).length := by omega
                have hltI : decide (((metI b 64).length : Int) < ((metI b 64).length : Int)) = false := by simp
                obtain ⟨hBd, hEd, hbd⟩ := HEd.out
                have hBe := hBd.below hbl (by omega)
                have hEe := hEd.up hbl
                have hbe := hbd.trans (hbl.mono hbd.size)
                have HTO := Lib.hid (fun V hV => total_any _ b HBK.out w.heap.size meter band V hV)
                have HRO := Lib.hid (fun (V : World) (hV : EnI V A9 ts.length ts) => rtotal_any ts HAD.out A9 _ c9 meter band V hV (by omega))
                have HSU := Lib.hid (fun V hV => bsum_any _ b HBK.out w.heap.size meter V hV)
                have HRS := Lib.hid (fun (V : World) (hV : EnI V A9 ts.length ts) => rsum_any ts HAD.out A9 _ c9 meter V hV (by omega))
                rw [HRB.out] at HRO HRS
                have hsl := (sumI_ok HBK.out (by omega) meter).hash
                obtain ⟨S, hS⟩ : ∃ S, b.sumI meter = S := ⟨_, rfl⟩
                obtain ⟨T, hTt⟩ : ∃ T, b.totI meter band = T := ⟨_, rfl⟩
                rw [hS] at HSU HRS hsl
                rw [hTt] at HTO HRO
                have N1 : Hid (∀ v, (binOp .eql 36 (.agg S.arr) (.agg S.arr)).run Tryd.prog v = .ok (.bool true) v) := Lib.hid (fun v => by rw [sum_eql S S hsl hsl]; simp)
                have N2 : Hid (∀ v, (binOp .eql 32 (.agg T.arr) (.agg T.arr)).run Tryd.prog v = .ok (.bool true) v) := Lib.hid (fun v => by rw [tot_eql]; simp)
                generalize S.arr = SA at HSU HRS N1
                generalize T.arr = TA at HTO HRO N2
                clear hS hTt hsl hBd hEd hbd hbl
                have ze := hBe.lt
                by_cases m0 : meter < 0
                · go_wp2_with (first
                    | (go_at_call 10; (with_reducible refine (HTO.out _ hBe).mono ?_); rintro e' Vf ⟨rfl, cf⟩; (have hEf := hEe.up cf); (have hbf := hbe.trans (cf.mono hbe.size)))
                    | (go_at_call 19; (with_reducible refine (HRO.out _ hEf).mono ?_); rintro e' Vg ⟨rfl, cg'⟩; (have hbg := hbf.trans (cg'.mono hbf.size)))
                    | ((with_reducible refine wpList_bin_at (dst := some 206) .eql 32 32 (.tmp 201) (.tmp 205) (.agg TA) (.agg TA) _ (by kernel_rfl) (by kernel_rfl) (by kernel_rfl) (tot_guard _ _ _ _ _) (N2.out _) ?_); simp only [Act.put, List.setIfInBounds_toArray, List.set_cons_succ, List.set_cons_zero]))
                  go_ret
                  exact ⟨rfl, hbg⟩
                · have m0b : decide (meter < 0) = false := by simpa using m0
                  by_cases m1 : 63 < meter
                  · go_wp2_with (first
                      | (go_at_call 10; (with_reducible refine (HTO.out _ hBe).mono ?_); rintro e' Vf ⟨rfl, cf⟩; (have hEf := hEe.up cf); (have hbf := hbe.trans (cf.mono hbe.size)))
                      | (go_at_call 19; (with_reducible refine (HRO.out _ hEf).mono ?_); rintro e' Vg ⟨rfl, cg'⟩; (have hbg := hbf.trans (cg'.mono hbf.size)))
                      | ((with_reducible refine wpList_bin_at (dst := some 206) .eql 32 32 (.tmp 201) (.tmp 205) (.agg TA) (.agg TA) _ (by kernel_rfl) (by kernel_rfl) (by kernel_rfl) (tot_guard _ _ _ _ _) (N2.out _) ?_); simp only [Act.put, List.setIfInBounds_toArray, List.set_cons_succ, List.set_cons_zero]))
                    go_ret
                    exact ⟨rfl, hbg⟩
                  · have m1b : decide (63 < meter) = false := by simpa using m1
                    go_wp2_with (first
                      | (go_at_call 10; (with_reducible refine (HTO.out _ hBe).mono ?_); rintro e' Vf ⟨rfl, cf⟩; (have hEf := hEe.up cf); (have hBf := hBe.below cf ze); (have hbf := hbe.trans (cf.mono hbe.size)); (have zf := cf.size))
                      | (go_at_call 19; (with_reducible refine (HRO.out _ hEf).mono ?_); rintro e' Vg ⟨rfl, cg'⟩; (have hEg := hEf.up cg'); (have hBg := hBf.below cg' (by omega)); (have hbg := hbf.trans (cg'.mono hbf.size)); (have zg := cg'.size))
                      | ((with_reducible refine wpList_bin_at (dst := some 206) .eql 32 32 (.tmp 201) (.tmp 205) (.agg TA) (.agg TA) _ (by kernel_rfl) (by kernel_rfl) (by kernel_rfl) (tot_guard _ _ _ _ _) (N2.out _) ?_); simp only [Act.put, List.setIfInBounds_toArray, List.set_cons_succ, List.set_cons_zero])
                      | (go_at_call 11; (with_reducible refine (HSU.out _ hBg).mono ?_); rintro e' Vh ⟨rfl, ch⟩; (have hEh := hEg.up ch); (have hbh := hbg.trans (ch.mono hbg.size)))
                      | (go_at_call 18; (with_reducible refine (HRS.out _ hEh).mono ?_); rintro e' Vi ⟨rfl, ci⟩; (have hbi := hbh.trans (ci.mono hbh.size)))
                      | ((with_reducible refine wpList_bin_at (dst := some 221) .eql 36 36 (.tmp 217) (.tmp 220) (.agg SA) (.agg SA) _ (by kernel_rfl) (by kernel_rfl) (by kernel_rfl) (sum_guard _ _ _ _ _) (N1.out _) ?_); simp only [Act.put, List.setIfInBounds_toArray, List.set_cons_succ, List.set_cons_zero]))
                    go_ret
                    exact ⟨rfl, hbi⟩
end Go.Proofs.YtjcpgnachkhjaaaDoor
