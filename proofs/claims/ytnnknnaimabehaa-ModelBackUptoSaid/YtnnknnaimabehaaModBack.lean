/- An image is read as its blocks; the image of what is read is the image: the law, walked. -/
import Derived.Test.YtnnknnaimabehaaModBackQ
import Derived.Test.YtnnknnaimabehaaModReads
import Derived.Test.YtnnknnaimabehaaModAlive
import Derived.Test.YtnnknnaimabehaaModFinds
import Derived.Test.YtnnknnaimabehaaModCheck
namespace Go.Proofs.Ytnnknnaimabehaa
open Go.RowKit
set_option linter.unusedVariables false
set_option maxRecDepth 100000
theorem infoDef : (Try.prog.info? 33).map (fun i => (i.zero, i.size, i.bytes)) = some (some (.agg #[.int .i64 0, .slice none 0 0]), 2, 32) := by kernel_rfl
theorem blk_eq1 (id id' : Int) (ps ps' : List PtP) : decide (([⟨id, ps, []⟩] : List BlkP) = [⟨id', ps', []⟩]) = decide (id = id' ∧ ps = ps') := by
  rw [decide_eq_decide]
  simp
theorem one_bk {w wx : World} {id : Int} {ps : List PtP} {A : Option Addr} {n c : Nat} (hP : PtI w w.heap.size A n c ps) (hb : Below w.heap.size w wx) {g : Nat} (hg : Held wx g 36 #[.int .i64 id, .slice A n c, .slice none 0 0]) : BkI wx wx.heap.size (some ⟨g, 0, none⟩) 1 1 [⟨id, ps, []⟩] := by
  refine ⟨rfl, Nat.le_refl _, by simp [maxLen], (fun h => by cases h), fun _ => ⟨g, 0, rfl, hg.lt, fun i b hi => ?_⟩⟩
  obtain rfl : i = 0 := by have := (List.getElem?_eq_some_iff.1 hi).1; simpa using this
  obtain rfl : (⟨id, ps, []⟩ : BlkP) = b := by simpa using hi
  refine ⟨A, n, c, none, 0, 0, hg.cell 0, hg.cell 1, hg.cell 2, hP.up hb, ⟨rfl, by omega, by simp [maxLen], fun _ => ⟨rfl, rfl⟩, fun h => absurd h (by omega)⟩, fun v hv => by cases hv⟩
set_option maxHeartbeats 8000000 in
theorem law_back (A : Option Addr) (n c : Nat) (bs : List BlkP) (Ar : Option Addr) (nr cr : Nat) (r : List Int) (Ad : Option Addr) (nd cd : Nat) (ds : List DefP) (w : World) (hB : BkI w w.heap.size A n c bs) (hs : partsN bs ≤ 1048576) (hR : SlI w w.heap.size .u16 Ar nr cr r) (hxr : ∀ x ∈ r, 0 ≤ x ∧ x < 65536) (hD : DfI w w.heap.size Ad nd cd ds) :
    Calls Try.prog 7 #[.slice A n c, .slice Ar nr cr, .slice Ad nd cd] w fun e w' => e = .returned (.bool true) ∧ Below w.heap.size w w' := by
  obtain ⟨i0, hi, hz0, hz1, hz2⟩ := info_parts infoBlk'
  obtain ⟨j0, hj, hy0, hy1, hy2⟩ := info_parts infoDef
  have hl := hB.1
  have hnp := partsN_len bs
  have HBK := Lib.hid (fun (X : World) (h : Below w.heap.size w X) => hB.up h)
  have HR := Lib.hid (fun (X : World) (h : Below w.heap.size w X) => hR.up h)
  have HD := Lib.hid (fun (X : World) (h : Below w.heap.size w X) => hD.up h)
  have HL := Lib.hid hl
  have HNP := Lib.hid hnp
  have HS := Lib.hid hs
  have HXR := Lib.hid hxr
  clear hB hl hnp hs hR hxr hD
  go_in
  go_wp2_with fail
  refine (alive_mod w).mono ?_
  rintro e w1 ⟨rfl, hb1⟩
  go_wp2_with fail
  refine (mgreat_any A n c bs w1 (HBK.out w1 hb1) HS.out).mono ?_
  rintro e w2 ⟨rfl, m2, hw2⟩
  have hb2 : Below w.heap.size w w2 := by rw [hw2]; exact below_drewN hb1 _
  clear hw2
  by_cases h3 : 3000 < partsN bs
  · rw [if_pos h3]
    clear h3
    go_wp2_with fail
    go_ret
    exact ⟨rfl, hb2⟩
  rw [if_neg h3]
  have hn3 : n ≤ 3000 := by have h1 := HL.out; have h2 := HNP.out; omega
  clear h3
  by_cases hnr : nr > 2000
  · have t1 : (nr : Int) > 2000 := by omega
    go_wp2_with fail
    go_ret
    exact ⟨rfl, hb2⟩
  have t1 : ¬ (nr : Int) > 2000 := by omega
  have HG := Lib.hid (greatd_bool Ad nd cd ds w2 (HD.out w2 hb2))
  go_wp2_with fail
  refine HG.out.mono ?_
  rintro e w' ⟨⟨b, rfl⟩, rfl⟩
  cases b with
  | true =>
    go_wp2_with fail
    go_ret
    exact ⟨rfl, hb2⟩
  | false =>
  have hown0 : w2.ownsRow w.heap.size 33 2 (.slice none 0 0) 0 [] := World.ownsRow_nil _ _ _ _
  have hown1 : w2.ownsRow w.heap.size 36 3 (.slice none 0 0) 0 [] := World.ownsRow_nil _ _ _ _
  go_wp2_with fail
  go_loopw [8, 9, 10] (fun s8 s9 s10 wx => ∃ (i kd : Nat) (cdl : List Value) (ow : List DefP) (kb : Nat) (cbl : List Value) (so : List BlkP), i ≤ n ∧ s10 = .int .i64 i ∧ wx.ownsRow w.heap.size 33 2 s8 kd cdl ∧ DfC w w.heap.size cdl ow ∧ wx.ownsRow w.heap.size 36 3 s9 kb cbl ∧ BkC w w.heap.size cbl so ∧ mayD ow ∧ (∀ b ∈ so, HasD ow b) ∧ kd ≤ i ∧ kb ≤ i ∧ Below w.heap.size w wx) (fun _ _ s10 _ => n - (intOf s10).toNat)
  case atStart => exact ⟨0, 0, [], [], 0, [], [], Nat.zero_le _, rfl, hown0, rfl, hown1, rfl, (fun i d h => by cases h), (fun b h => by cases h), Nat.le_refl _, Nat.le_refl _, hb2⟩
  case round =>
    clear hown0 hown1
    obtain ⟨i, kd, cdl, ow, kb, cbl, so, hi2, rfl, hrd, hdc, hrb, hbc, hmay, hhas, hkd, hkb, hbr⟩ := hrel
    obtain ⟨Ao, co, hv1, _, _⟩ := own_form hrd
    obtain ⟨As, cs', hv2, _, _⟩ := own_form hrb
    subst hv1 hv2
    have HMAY := Lib.hid hmay
    have HHAS := Lib.hid hhas
    have HDC := Lib.hid hdc
    have HBC := Lib.hid hbc
    have HRD := Lib.hid hrd
    have HRB := Lib.hid hrb
    have hkdl : ow.length = kd := by have h1 := hdc.len; have h2 := hrd.1; omega
    have HKD := Lib.hid hkdl
    clear hmay hhas hdc hbc hrd hrb hkdl
    by_cases hlt : i < n
    · obtain ⟨⟨id, ps, vs⟩, hb⟩ : ∃ b, bs[i]? = some b := ⟨_, List.getElem?_eq_getElem (by rw [HL.out]; exact hlt)⟩
      obtain ⟨g, off, rfl, hg, hc⟩ := (HBK.out w (Below.refl _ _)).2.2.2.2 (by omega)
      obtain ⟨Ap, np, cp, Av, nv, cv, c0, c1, c2, hPt, hVl, hvi⟩ := hc i _ hb
      dsimp only at c0 hPt hVl hvi
      have HC : Hid (∀ (X : World), Below w.heap.size w X → X.cell? ⟨g, off + i * 3, none⟩ = some (.int .i64 id) ∧ X.cell? ⟨g, off + i * 3 + 1, none⟩ = some (.slice Ap np cp) ∧ X.cell? ⟨g, off + i * 3 + 2, none⟩ = some (.slice Av nv cv)) := Lib.hid (fun X h => ⟨(h.cell (p := ⟨g, off + i * 3, none⟩) hg).trans c0, (h.cell (p := ⟨g, off + i * 3 + 1, none⟩) hg).trans c1, (h.cell (p := ⟨g, off + i * 3 + 2, none⟩) hg).trans c2⟩)
      have HP := Lib.hid hPt
      have HV := Lib.hid hVl
      have HVI := Lib.hid hvi
      have hiI : (i : Int) < (n : Int) := by omega
      obtain ⟨wI, hwI⟩ : ∃ W, wr = W := ⟨_, rfl⟩
      have hbI : Below w.heap.size w wI := by rw [← hwI]; exact hbr
      have HRDI : Hid (wI.ownsRow w.heap.size 33 2 (.slice Ao kd co) kd cdl) := Lib.hid (by rw [← hwI]; exact HRD.out)
      have HRBI : Hid (wI.ownsRow w.heap.size 36 3 (.slice As kb cs') kb cbl) := Lib.hid (by rw [← hwI]; exact HRB.out)
      rw [hwI]
      clear hc hb hPt hVl hvi c0 c1 c2 hwI hbr HRD HRB
      go_wp2_with fail
      go_loopw [11, 12, 13] (fun s11 s12 s13 wx => ∃ (q : Nat), q ≤ kd ∧ s13 = .int .i64 q ∧ s11 = .bool (idxP id (ow.take q)).isSome ∧ s12 = .bool (sameD (ow.take q) id ps) ∧ Below wI.heap.size wI wx) (fun _ _ s13 _ => kd - (intOf s13).toNat)
      case atStart => exact ⟨0, Nat.zero_le _, rfl, rfl, rfl, Below.refl _ _⟩
      case round =>
        obtain ⟨q, hq, rfl, rfl, rfl, hbq⟩ := hrel
        have hbw := hbI.trans (hbq.mono hbI.size)
        obtain ⟨e0, e1, e2⟩ := HC.out wr hbw
        by_cases hqt : q < kd
        case pos =>
          clear e1 e2
          obtain ⟨⟨id2, ps2⟩, hd2⟩ : ∃ d, ow[q]? = some d := ⟨_, List.getElem?_eq_getElem (by rw [HKD.out]; exact hqt)⟩
          have HDF := Lib.hid (fun (X : World) (h : Below wI.heap.size wI X) => DfI.of_row (hbI.trans (h.mono hbI.size)) HDC.out (mown_up HRDI.out h))
          obtain ⟨g2, off2, rfl, hg2, hc2⟩ := (HDF.out wI (Below.refl _ _)).2.2.2.2 (by omega)
          obtain ⟨Ap2, np2, cp2, k0, k1, hP2⟩ := hc2 q _ hd2
          dsimp only at k0 hP2
          have HPQ : Hid (∃ cs1, PtI w w.heap.size Ap2 np2 cp2 ps2) := Lib.hid (by
            obtain ⟨Ap3, np3, cp3, m0, m1, m2⟩ := HDC.out.at_ q _ hd2
            dsimp only at m2
            obtain ⟨A9, c9, h9, hs9⟩ := SlV.of_own (by omega) HRDI.out
            injection h9 with h91 h92 h93
            obtain ⟨g9, o9, e9, _, hr9⟩ := hs9.2.2.2.2 (by have := (List.getElem?_eq_some_iff.1 m0).1; omega)
            rw [← h91] at e9
            injection e9 with e9
            injection e9 with e91 e92
            subst e91 e92
            have h10 := hr9 _ _ m1
            rw [Nat.add_assoc] at k1
            rw [k1] at h10
            injection h10 with h10
            injection h10 with h11 h12 h13
            rw [h11, h12, h13]
            exact ⟨0, m2⟩)
          have HC2 : Hid (∀ (X : World), Below wI.heap.size wI X → X.cell? ⟨g2, off2 + q * 2, none⟩ = some (.int .i64 id2) ∧ X.cell? ⟨g2, off2 + q * 2 + 1, none⟩ = some (.slice Ap2 np2 cp2)) := Lib.hid (fun X h => ⟨(h.cell (p := ⟨g2, off2 + q * 2, none⟩) hg2).trans k0, (h.cell (p := ⟨g2, off2 + q * 2 + 1, none⟩) hg2).trans k1⟩)
          obtain ⟨f0, f1⟩ := HC2.out wr hbq
          have HD2 := Lib.hid hd2
          have hqI : (q : Int) < (kd : Int) := by omega
          clear hc2 hd2 hP2 k0 k1
          by_cases he : id2 = id
          · have t2 : (id2 == id) = true := by simpa using he
            have hnone : idxP id (ow.take q) = none := by
              cases h : idxP id (ow.take q) with
              | none => rfl
              | some i9 => exact (idx_may id ow HMAY.out q i9 _ h HD2.out he).elim
            have hnew := idx_new id ow q _ hnone HD2.out he
            have hsame : sameD (ow.take (q + 1)) id ps = decide (ps2 = ps) := by
              unfold sameD
              rw [hnew]
              dsimp only
              have : (ow.take (q + 1)).getD q ⟨0, []⟩ = ⟨id2, ps2⟩ := by simp only [List.getD, List.getElem?_take]; rw [if_pos (by omega), HD2.out]; rfl
              rw [this]
            have HNEW := Lib.hid hnew
            have HSAME := Lib.hid hsame
            have HID := Lib.hid he
            rw [hnone]
            clear hnew hsame he hnone
            go_wp2_with fail
            go_quiet (fail)
            obtain ⟨wq, hwq⟩ : ∃ W, wr.drewN nq = W := ⟨_, rfl⟩
            have hbqq : Below wI.heap.size wI wq := by rw [← hwq]; exact below_drewN hbq _
            have hbqw := hbI.trans (hbqq.mono hbI.size)
            rw [hwq]
            clear hwq e0 f0 f1
            have hzI := hbqq.size
            obtain ⟨bq, hbq2⟩ : ∃ b, decide (ps2 = ps) = b := ⟨_, rfl⟩
            rw [hbq2] at HSAME
            have HRS : Hid (∀ (X : World), Below w.heap.size w X → ∀ gA gB, Held X gA 36 #[.int .i64 id2, .slice Ap2 np2 cp2, .slice none 0 0] → Held X gB 36 #[.int .i64 id, .slice Ap np cp, .slice none 0 0] → Calls Try.prog 19 #[.slice (some ⟨gA, 0, none⟩) 1 1, .slice (some ⟨gB, 0, none⟩) 1 1] X fun e w' => e = .returned (.bool bq) ∧ Below X.heap.size X w') := Lib.hid (fun X hX gA gB hA hB => by
              obtain ⟨_, hPQ⟩ := HPQ.out
              have h := rsame_any _ _ 1 1 1 1 _ _ X (one_bk hPQ hX hA) (one_bk HP.out hX hB)
              rw [blk_eq1, decide_eq_decide.2 (and_iff_right HID.out), hbq2] at h
              exact h)
            clear hbq2
            go_upto_region 16 with (fail)
            obtain ⟨wd16, hwd16⟩ : ∃ W : World, wq.drew = W := ⟨_, rfl⟩
            have hS : Below wq.heap.size wq wd16 := by rw [← hwd16]; exact (Below.refl _ _).drew
            refine wp_region_held (S := Below wq.heap.size wq) (by kernel_rfl) ?_
            change wpAnyH _ _ _ _ _ _ _ _ wq.drew
            rw [hwd16]
            clear hwd16
            refine wpAnyH_take (i := 0) (v := ?v0_1) rfl (by kernel_rfl) (by kernel_rfl) (by kernel_rfl) (fun _ _ _ h => h) (Or.inl ⟨by rfl, ?y0_1⟩) hS ?r0_1
            case y0_1 =>
              rintro W hH
              go_simp
              with_reducible rfl
            simp only [Act.put]
            try simp only [List.getElem_toArray, List.getElem_cons_zero]
            refine wpAnyH_take (i := 1) (v := ?v1_2) rfl (by kernel_rfl) (by kernel_rfl) (by kernel_rfl) (fun _ _ _ h => h) (Or.inl ⟨by rfl, ?y1_2⟩) hS ?r1_2
            case y1_2 =>
              rintro W hH
              go_simp
              with_reducible rfl
            simp only [Act.put]
            try simp only [List.getElem_toArray, List.getElem_cons_succ, List.getElem_cons_zero]
            refine wpAnyH_take (i := 2) (v := ?v2_3) rfl (by kernel_rfl) (by kernel_rfl) (by kernel_rfl) (fun _ _ _ h => h) (Or.inl ⟨by rfl, ?y2_3⟩) hS ?r2_3
            case y2_3 =>
              rintro W hH
              go_simp
              with_reducible rfl
            simp only [Act.put]
            try simp only [List.getElem_toArray, List.getElem_cons_succ, List.getElem_cons_zero]
            refine wpAnyH_take (i := 3) (v := ?v3_4) rfl (by kernel_rfl) (by kernel_rfl) (by kernel_rfl) (fun _ _ _ h => h) (Or.inl ⟨by rfl, ?y3_4⟩) hS ?r3_4
            case y3_4 =>
              rintro W hH
              obtain ⟨f0, f1⟩ := HC2.out W (hbqq.trans (hH.mono hzI))
              obtain ⟨e0, e1, e2⟩ := HC.out W (hbqw.trans (hH.mono hbqw.size))
              go_simp
              with_reducible rfl
            simp only [Act.put]
            try simp only [List.getElem_toArray, List.getElem_cons_succ, List.getElem_cons_zero]
            refine wpAnyH_take (i := 4) (v := ?v4_5) rfl (by kernel_rfl) (by kernel_rfl) (by kernel_rfl) (fun _ _ _ h => h) (Or.inl ⟨by rfl, ?y4_5⟩) hS ?r4_5
            case y4_5 =>
              rintro W hH
              go_simp
              with_reducible rfl
            simp only [Act.put]
            try simp only [List.getElem_toArray, List.getElem_cons_succ, List.getElem_cons_zero]
            refine wpAnyH_take (i := 6) (v := ?v6_6) rfl (by kernel_rfl) (by kernel_rfl) (by kernel_rfl) (fun _ _ _ h => h) (Or.inl ⟨by rfl, ?y6_6⟩) hS ?r6_6
            case y6_6 =>
              rintro W hH
              go_simp
              with_reducible rfl
            simp only [Act.put]
            try simp only [List.getElem_toArray, List.getElem_cons_succ, List.getElem_cons_zero]
            refine wpAnyH_take (i := 7) (v := ?v7_7) rfl (by kernel_rfl) (by kernel_rfl) (by kernel_rfl) (fun _ _ _ h => h) (Or.inl ⟨by rfl, ?y7_7⟩) hS ?r7_7
            case y7_7 =>
              rintro W hH
              go_simp
              with_reducible rfl
            simp only [Act.put]
            try simp only [List.getElem_toArray, List.getElem_cons_succ, List.getElem_cons_zero]
            refine wpAnyH_take (i := 8) (v := ?v8_8) rfl (by kernel_rfl) (by kernel_rfl) (by kernel_rfl) (fun _ _ _ h => h) (Or.inl ⟨by rfl, ?y8_8⟩) hS ?r8_8
            case y8_8 =>
              rintro W hH
              go_simp
              with_reducible rfl
            simp only [Act.put]
            try simp only [List.getElem_toArray, List.getElem_cons_succ, List.getElem_cons_zero]
            refine wpAnyH_take (i := 9) (v := ?v9_9) rfl (by kernel_rfl) (by kernel_rfl) (by kernel_rfl) (fun _ _ _ h => h) (Or.inl ⟨by rfl, ?y9_9⟩) hS ?r9_9
            case y9_9 =>
              rintro W hH
              go_simp
              with_reducible rfl
            simp only [Act.put]
            try simp only [List.getElem_toArray, List.getElem_cons_succ, List.getElem_cons_zero]
            refine wpAnyH_take (i := 10) (v := ?v10_10) rfl (by kernel_rfl) (by kernel_rfl) (by kernel_rfl) (fun _ _ _ h => h) (Or.inl ⟨by rfl, ?y10_10⟩) hS ?r10_10
            case y10_10 =>
              rintro W hH
              obtain ⟨f0, f1⟩ := HC2.out W (hbqq.trans (hH.mono hzI))
              obtain ⟨e0, e1, e2⟩ := HC.out W (hbqw.trans (hH.mono hbqw.size))
              go_simp
              with_reducible rfl
            simp only [Act.put]
            try simp only [List.getElem_toArray, List.getElem_cons_succ, List.getElem_cons_zero]
            refine wpAnyH_take (i := 11) (v := ?v11_11) rfl (by kernel_rfl) (by kernel_rfl) (by kernel_rfl) (fun _ _ _ h => h) (Or.inl ⟨by rfl, ?y11_11⟩) hS ?r11_11
            case y11_11 =>
              rintro W hH
              go_simp
              with_reducible rfl
            simp only [Act.put]
            try simp only [List.getElem_toArray, List.getElem_cons_succ, List.getElem_cons_zero]
            refine wpAnyH_ready (rs := [5, 12]) (by kernel_rfl) (by simp) ?_
            refine AllReadyH.cons rfl (fun K' hK' => ?_) (AllReadyH.cons rfl (fun K' hK' => ?_) AllReadyH.nil)
            · skip
              go_simp
              obtain ⟨uAg, huAg⟩ : ∃ g, wd16.heap.size = g := ⟨_, rfl⟩
              obtain ⟨uA, huA⟩ : ∃ W, wd16.alloc (.cells #[.int .i64 id2, .slice Ap2 np2 cp2, .slice none 0 0] 36) = W := ⟨_, rfl⟩
              have hbuA : Below wd16.heap.size wd16 uA := by rw [← huA]; exact (Below.refl _ _).alloc (Nat.le_refl _) _
              have hKuA : Held uA uAg 36 #[.int .i64 id2, .slice Ap2 np2 cp2, .slice none 0 0] := by rw [← huA, ← huAg]; exact Held.new _ _ _
              rw [huA]
              simp only [huAg]
              clear huA huAg
              refine hK'.out _ _ (hS.trans (hbuA.mono hS.size)) (fun hS => ?_)
              clear hK' K'
              refine wpAnyH_ready (rs := [12]) (by kernel_rfl) (by simp) ?_
              refine AllReadyH.cons rfl (fun K' hK' => ?_) AllReadyH.nil
              go_simp
              obtain ⟨uBg, huBg⟩ : ∃ g, uA.heap.size = g := ⟨_, rfl⟩
              obtain ⟨uB, huB⟩ : ∃ W, uA.alloc (.cells #[.int .i64 id, .slice Ap np cp, .slice none 0 0] 36) = W := ⟨_, rfl⟩
              have hbuB : Below uA.heap.size uA uB := by rw [← huB]; exact (Below.refl _ _).alloc (Nat.le_refl _) _
              have hKuB : Held uB uBg 36 #[.int .i64 id, .slice Ap np cp, .slice none 0 0] := by rw [← huB, ← huBg]; exact Held.new _ _ _
              have hKuA := hKuA.below hbuB hKuA.lt
              rw [huB]
              simp only [huBg]
              clear huB huBg
              refine hK'.out _ _ (hS.trans (hbuB.mono hS.size)) (fun hS => ?_)
              clear hK' K'
              refine wpAnyH_ready (rs := [13]) (by kernel_rfl) (by simp) ?_
              refine AllReadyH.cons rfl (fun K' hK' => ?_) AllReadyH.nil
              go_simp
              have hbX := hbqw.trans (hS.mono hbqw.size)
              refine (HRS.out _ hbX _ _ hKuA hKuB).mono ?_
              rintro e u9 ⟨rfl, hb9⟩
              go_simp
              refine hK'.out _ _ (hS.trans (hb9.mono hS.size)) (fun hS => ?_)
              clear hK' K'
              refine wpAnyH_take (i := 14) (v := ?v14_12) rfl (by kernel_rfl) (by kernel_rfl) (by kernel_rfl) (fun _ _ _ h => h) (Or.inl ⟨by rfl, ?y14_12⟩) hS ?r14_12
              case y14_12 =>
                rintro W hH
                go_simp
                with_reducible rfl
              simp only [Act.put]
              try simp only [List.getElem_toArray, List.getElem_cons_succ, List.getElem_cons_zero]
              refine wpAnyH_done (by kernel_rfl) ?_ _
              have hbN := hbqq.trans (hS.mono hzI)
              clear hS
              go_wp2_with fail
              go_roundw
              case rel => exact ⟨q + 1, by omega, by go_num, by rw [HNEW.out]; rfl, by rw [HSAME.out], hbN⟩
              case measure => simp [intOf]; omega
            · skip
              go_simp
              obtain ⟨uBg, huBg⟩ : ∃ g, wd16.heap.size = g := ⟨_, rfl⟩
              obtain ⟨uB, huB⟩ : ∃ W, wd16.alloc (.cells #[.int .i64 id, .slice Ap np cp, .slice none 0 0] 36) = W := ⟨_, rfl⟩
              have hbuB : Below wd16.heap.size wd16 uB := by rw [← huB]; exact (Below.refl _ _).alloc (Nat.le_refl _) _
              have hKuB : Held uB uBg 36 #[.int .i64 id, .slice Ap np cp, .slice none 0 0] := by rw [← huB, ← huBg]; exact Held.new _ _ _
              rw [huB]
              simp only [huBg]
              clear huB huBg
              refine hK'.out _ _ (hS.trans (hbuB.mono hS.size)) (fun hS => ?_)
              clear hK' K'
              refine wpAnyH_ready (rs := [5]) (by kernel_rfl) (by simp) ?_
              refine AllReadyH.cons rfl (fun K' hK' => ?_) AllReadyH.nil
              go_simp
              obtain ⟨uAg, huAg⟩ : ∃ g, uB.heap.size = g := ⟨_, rfl⟩
              obtain ⟨uA, huA⟩ : ∃ W, uB.alloc (.cells #[.int .i64 id2, .slice Ap2 np2 cp2, .slice none 0 0] 36) = W := ⟨_, rfl⟩
              have hbuA : Below uB.heap.size uB uA := by rw [← huA]; exact (Below.refl _ _).alloc (Nat.le_refl _) _
              have hKuA : Held uA uAg 36 #[.int .i64 id2, .slice Ap2 np2 cp2, .slice none 0 0] := by rw [← huA, ← huAg]; exact Held.new _ _ _
              have hKuB := hKuB.below hbuA hKuB.lt
              rw [huA]
              simp only [huAg]
              clear huA huAg
              refine hK'.out _ _ (hS.trans (hbuA.mono hS.size)) (fun hS => ?_)
              clear hK' K'
              refine wpAnyH_ready (rs := [13]) (by kernel_rfl) (by simp) ?_
              refine AllReadyH.cons rfl (fun K' hK' => ?_) AllReadyH.nil
              go_simp
              have hbX := hbqw.trans (hS.mono hbqw.size)
              refine (HRS.out _ hbX _ _ hKuA hKuB).mono ?_
              rintro e u9 ⟨rfl, hb9⟩
              go_simp
              refine hK'.out _ _ (hS.trans (hb9.mono hS.size)) (fun hS => ?_)
              clear hK' K'
              refine wpAnyH_take (i := 14) (v := ?v14_13) rfl (by kernel_rfl) (by kernel_rfl) (by kernel_rfl) (fun _ _ _ h => h) (Or.inl ⟨by rfl, ?y14_13⟩) hS ?r14_13
              case y14_13 =>
                rintro W hH
                go_simp
                with_reducible rfl
              simp only [Act.put]
              try simp only [List.getElem_toArray, List.getElem_cons_succ, List.getElem_cons_zero]
              refine wpAnyH_done (by kernel_rfl) ?_ _
              have hbN := hbqq.trans (hS.mono hzI)
              clear hS
              go_wp2_with fail
              go_roundw
              case rel => exact ⟨q + 1, by omega, by go_num, by rw [HNEW.out]; rfl, by rw [HSAME.out], hbN⟩
              case measure => simp [intOf]; omega
          · have t2 : (id2 == id) = false := by simpa using he
            have hgo : (idxP id (ow.take (q + 1))).isSome = (idxP id (ow.take q)).isSome ∧ sameD (ow.take (q + 1)) id ps = sameD (ow.take q) id ps := by
              cases h : idxP id (ow.take q) with
              | none =>
                have h2 := idx_not id ow q _ h HD2.out he
                unfold sameD
                rw [h, h2]
                exact ⟨rfl, rfl⟩
              | some i9 =>
                have h2 := idx_keep id ow q i9 h
                rw [sameD_keep ow id ps q i9 h, h2]
                exact ⟨rfl, rfl⟩
            have HGO := Lib.hid hgo
            obtain ⟨bk, hbk⟩ : ∃ b, (idxP id (ow.take q)).isSome = b := ⟨_, rfl⟩
            obtain ⟨bs2, hbs2⟩ : ∃ b, sameD (ow.take q) id ps = b := ⟨_, rfl⟩
            rw [hbk, hbs2]
            have HBB := Lib.hid (And.intro hbk hbs2)
            clear hgo he hbk hbs2
            go_wp2_with fail
            go_quiet (fail)
            go_wp2_with fail
            go_roundw
            case rel => exact ⟨q + 1, by omega, by go_num, by rw [HGO.out.1, HBB.out.1], by rw [HGO.out.2, HBB.out.2], below_drewN hbq _⟩
            case measure => simp [intOf]; omega
        obtain rfl : q = kd := by omega
        have htk : ow.take q = ow := List.take_of_length_le (by rw [HKD.out]; exact Nat.le_refl _)
        rw [htk]
        clear htk
        obtain ⟨sb, hsb⟩ : ∃ b, sameD ow id ps = b := ⟨_, rfl⟩
        obtain ⟨ob, hob⟩ : ∃ o, idxP id ow = o := ⟨_, rfl⟩
        rw [hsb, hob]
        have HSB := Lib.hid hsb
        have HOB := Lib.hid hob
        clear hsb hob
        cases sb with
        | false =>
          have HRD9 := Lib.hid (mown_up HRDI.out hbq)
          have HRB9 := Lib.hid (mown_up HRBI.out hbq)
          obtain ⟨kn, hkn⟩ : ∃ b, ob.isSome = b := ⟨_, rfl⟩
          rw [hkn]
          clear hkn
          go_wp2_with fail
          go_roundw
          case rel => exact ⟨i + 1, q, cdl, ow, kb, cbl, so, by omega, by go_num, HRD9.out, HDC.out, HRB9.out, HBC.out, HMAY.out, HHAS.out, by omega, by omega, hbw⟩
          case measure => simp [intOf]; omega
        | true =>
        have HCK := Lib.hid (check_blk id Ap np cp Av nv cv ps vs HVI.out wr (HP.out.up hbw) (HV.out.up hbw))
        obtain ⟨om, hom⟩ : ∃ o, blkW id ps vs = o := ⟨_, rfl⟩
        rw [hom] at HCK
        have HOM := Lib.hid hom
        clear hom
        cases om with
        | none =>
          have h0 : (none : Option (List Int)).isSome = false := rfl
          rw [h0] at HCK
          simp only [Bool.false_eq_true, if_false] at HCK
          obtain ⟨kn, hkn⟩ : ∃ b, ob.isSome = b := ⟨_, rfl⟩
          rw [hkn]
          clear hkn h0
          go_wp2_with fail
          refine HCK.out.mono ?_
          rintro e w9 ⟨rfl, hb9⟩
          have hbq9 := hbq.trans (hb9.mono hbq.size)
          have HRD9 := Lib.hid (mown_up HRDI.out hbq9)
          have HRB9 := Lib.hid (mown_up HRBI.out hbq9)
          go_wp2_with fail
          go_roundw
          case rel => exact ⟨i + 1, q, cdl, ow, kb, cbl, so, by omega, by go_num, HRD9.out, HDC.out, HRB9.out, HBC.out, HMAY.out, HHAS.out, by omega, by omega, hbI.trans (hbq9.mono hbI.size)⟩
          case measure => simp [intOf]; omega
        | some M =>
          have h0 : (some M : Option (List Int)).isSome = true := rfl
          rw [h0] at HCK
          simp only [if_true] at HCK
          have hdf : defB id ps = true := (blk_in ⟨id, ps, vs⟩ M HOM.out).2.2.2.2
          have HDFB := Lib.hid hdf
          have HBCN : Hid (BkC w w.heap.size (cbl ++ [.int .i64 id, .slice Ap np cp, .slice Av nv cv]) (so ++ [⟨id, ps, vs⟩])) := Lib.hid (HBC.out.append ⟨Ap, np, cp, Av, nv, cv, [], rfl, HP.out, HV.out, HVI.out, rfl⟩)
          have HDCN : Hid (DfC w w.heap.size (cdl ++ [.int .i64 id, .slice Ap np cp]) (ow ++ [⟨id, ps⟩])) := Lib.hid (HDC.out.append ⟨Ap, np, cp, [], rfl, HP.out, rfl⟩)
          have hone3 : ∀ u ∈ ([.int .i64 id, .slice Ap np cp, .slice Av nv cv] : List Value), u.oneCell' = true := by intro u hu; simp only [List.mem_cons, List.not_mem_nil, or_false] at hu; rcases hu with rfl | rfl | rfl <;> rfl
          have hone2 : ∀ u ∈ ([.int .i64 id, .slice Ap np cp] : List Value), u.oneCell' = true := by intro u hu; simp only [List.mem_cons, List.not_mem_nil, or_false] at hu; rcases hu with rfl | rfl <;> rfl
          have HONE := Lib.hid (And.intro hone3 hone2)
          have hk1 : (kb + 1 ≤ maxLen ∧ (kb + 1) * 56 ≤ 140737488355328) ∧ (q + 1 ≤ maxLen ∧ (q + 1) * 32 ≤ 140737488355328) := by unfold maxLen; omega
          have HK1 := Lib.hid hk1
          clear h0 hdf hone3 hone2 hk1
          cases ob with
          | some i9 =>
            have hos : (some i9 : Option Nat).isSome = true := rfl
            rw [hos]
            obtain ⟨d9, hd9, hid9, _⟩ := idxP_some _ _ _ HOB.out
            have hpt9 : d9.pts = ps := by
              have h := HSB.out
              unfold sameD at h
              rw [HOB.out] at h
              dsimp only at h
              have h2 := of_decide_eq_true h
              rw [show ow.getD i9 ⟨0, []⟩ = d9 by simp [List.getD, hd9]] at h2
              exact h2
            have hhasn : ∀ b ∈ so ++ [⟨id, ps, vs⟩], HasD ow b := fun b hb => by
              rcases List.mem_append.1 hb with hb | hb
              · exact HHAS.out b hb
              · obtain rfl : b = ⟨id, ps, vs⟩ := by simpa using hb
                exact ⟨⟨M, HOM.out⟩, HVI.out, i9, d9, hd9, hid9, hpt9⟩
            have HHN := Lib.hid hhasn
            clear hos hd9 hid9 hpt9 hhasn
            go_wp2_with fail
            refine HCK.out.mono ?_
            rintro e w9 ⟨rfl, hb9⟩
            have hbq9 := hbq.trans (hb9.mono hbq.size)
            have hb9w := hbI.trans (hbq9.mono hbI.size)
            clear e0 e1 e2
            obtain ⟨e0, e1, e2⟩ := HC.out w9 hb9w
            obtain ⟨wa, hwa⟩ : ∃ W, w9.alloc (.cells #[.int .i64 id, .slice Ap np cp, .slice Av nv cv] 36) = W := ⟨_, rfl⟩
            have hba : Below w9.heap.size w9 wa := by rw [← hwa]; exact (Below.refl _ _).alloc (Nat.le_refl _) _
            have hsla : SlV wa wa.heap.size (some ⟨w9.heap.size, 0, none⟩) 1 1 3 [.int .i64 id, .slice Ap np cp, .slice Av nv cv] := by rw [← hwa]; exact SlV.of_lit rfl rfl (by omega)
            have hbqa := hbq9.trans (hba.mono hbq9.size)
            have hbaw := hbI.trans (hbqa.mono hbI.size)
            have hrba := mown_up HRBI.out hbqa
            have hrda := mown_up HRDI.out hbqa
            have hza := hbaw.size
            have HRDA := Lib.hid hrda
            clear hrda
            go_wp2_with ((with_reducible refine at_append ?_); refine wpList_append_slv wa rfl (.tmp 98) (.tmp 103) 22 rfl w.heap.size 36 i0 (.agg #[.int .i64 0, .slice none 0 0, .slice none 0 0]) 3 56 Try.underlying22 hi hz0 hz1 hz2 rfl (by omega) _ kb _ rfl hrba wa.heap.size (some ⟨w9.heap.size, 0, none⟩) 1 1 [.int .i64 id, .slice Ap np cp, .slice Av nv cv] rfl hsla HONE.out.1 HK1.out.1.1 HK1.out.1.2 hza ?_; intro v7 w7 hO7 hg7 hv7; have hb7 := hbaw.grown hg7 hza (fun B hB => (hrba.lt B hB).1); have hrd7 := HRDA.out.kept hg7 (rows_apart HRDA.out hrba (by decide)); clear hg7 hv7)
            go_roundw
            case rel => exact ⟨i + 1, q, cdl, ow, kb + 1, _, _, by omega, by go_num, hrd7, HDC.out, hO7, HBCN.out, HMAY.out, HHN.out, by omega, by omega, hb7⟩
            case measure => simp [intOf]; omega
          | none =>
            have hos : (none : Option Nat).isSome = false := rfl
            rw [hos]
            have hmayn := mayD_add ow ⟨id, ps⟩ HMAY.out HDFB.out HOB.out
            have hhasn : ∀ b ∈ so ++ [⟨id, ps, vs⟩], HasD (ow ++ [⟨id, ps⟩]) b := fun b hb => by
              rcases List.mem_append.1 hb with hb | hb
              · exact hasD_add ow _ b (HHAS.out b hb)
              · obtain rfl : b = ⟨id, ps, vs⟩ := by simpa using hb
                exact ⟨⟨M, HOM.out⟩, HVI.out, ow.length, ⟨id, ps⟩, by simp, rfl, rfl⟩
            have HHN := Lib.hid (And.intro hmayn hhasn)
            clear hos hmayn hhasn
            go_wp2_with fail
            refine HCK.out.mono ?_
            rintro e w9 ⟨rfl, hb9⟩
            have hbq9 := hbq.trans (hb9.mono hbq.size)
            have hb9w := hbI.trans (hbq9.mono hbI.size)
            clear e0 e1 e2
            obtain ⟨e0, e1, e2⟩ := HC.out w9 hb9w
            obtain ⟨wa, hwa⟩ : ∃ W, w9.alloc (.cells #[.int .i64 id, .slice Ap np cp] 33) = W := ⟨_, rfl⟩
            have hba : Below w9.heap.size w9 wa := by rw [← hwa]; exact (Below.refl _ _).alloc (Nat.le_refl _) _
            have hsla : SlV wa wa.heap.size (some ⟨w9.heap.size, 0, none⟩) 1 1 2 [.int .i64 id, .slice Ap np cp] := by rw [← hwa]; exact SlV.of_lit rfl rfl (by omega)
            have hbqa := hbq9.trans (hba.mono hbq9.size)
            have hbaw := hbI.trans (hbqa.mono hbI.size)
            have hrba := mown_up HRBI.out hbqa
            have hrda := mown_up HRDI.out hbqa
            have hza := hbaw.size
            have HRBA := Lib.hid hrba
            clear hrba
            go_wp2_with (first
              | ((with_reducible refine at_append ?_); refine wpList_append_slv wa rfl (.tmp 90) (.tmp 96) 49 rfl w.heap.size 33 j0 (.agg #[.int .i64 0, .slice none 0 0]) 2 32 Try.underlying49 hj hy0 hy1 hy2 rfl (by omega) _ q _ rfl hrda wa.heap.size (some ⟨w9.heap.size, 0, none⟩) 1 1 [.int .i64 id, .slice Ap np cp] rfl hsla HONE.out.2 HK1.out.2.1 HK1.out.2.2 hza ?_; intro v7 w7 hO7 hg7 hv7; have hb7 := hbaw.grown hg7 hza (fun B hB => (hrda.lt B hB).1); have hrb7 := HRBA.out.kept hg7 (rows_apart HRBA.out hrda (by decide)); clear hg7 hv7; obtain ⟨e0, e1, e2⟩ := HC.out w7 hb7; obtain ⟨wb, hwb⟩ : ∃ W, w7.alloc (.cells #[.int .i64 id, .slice Ap np cp, .slice Av nv cv] 36) = W := ⟨_, rfl⟩; have hbb : Below w7.heap.size w7 wb := (by rw [← hwb]; exact (Below.refl _ _).alloc (Nat.le_refl _) _); have hslb : SlV wb wb.heap.size (some ⟨w7.heap.size, 0, none⟩) 1 1 3 [.int .i64 id, .slice Ap np cp, .slice Av nv cv] := (by rw [← hwb]; exact SlV.of_lit rfl rfl (by omega)); have hbbw := hb7.trans (hbb.mono hb7.size); have hrbb := mown_up hrb7 hbb; have hrdb := mown_up hO7 hbb; have hzb := hbbw.size; have HRDB := Lib.hid hrdb; clear hrdb hrb7 hO7)
              | ((with_reducible refine at_append ?_); refine wpList_append_slv wb rfl (.tmp 98) (.tmp 103) 22 rfl w.heap.size 36 i0 (.agg #[.int .i64 0, .slice none 0 0, .slice none 0 0]) 3 56 Try.underlying22 hi hz0 hz1 hz2 rfl (by omega) _ kb _ rfl hrbb wb.heap.size (some ⟨w7.heap.size, 0, none⟩) 1 1 [.int .i64 id, .slice Ap np cp, .slice Av nv cv] rfl hslb HONE.out.1 HK1.out.1.1 HK1.out.1.2 hzb ?_; intro v8 w8 hO8 hg8 hv8; have hb8 := hbbw.grown hg8 hzb (fun B hB => (hrbb.lt B hB).1); have hrd8 := HRDB.out.kept hg8 (rows_apart HRDB.out hrbb (by decide)); clear hg8 hv8))
            go_roundw
            case rel => exact ⟨i + 1, q + 1, _, _, kb + 1, _, _, by omega, by go_num, hrd8, HDCN.out, hO8, HBCN.out, HHN.out.1, HHN.out.2, by omega, by omega, hb8⟩
            case measure => simp [intOf]; omega
    · obtain rfl : i = n := by omega
      have hBS : BkI wr wr.heap.size As kb cs' so := BkI.of_row hbr HBC.out HRB.out
      have hDO : DfI wr wr.heap.size Ao kd co ow := DfI.of_row hbr HDC.out HRD.out
      have HDO := Lib.hid (fun (X : World) (h : Below wr.heap.size wr X) => hDO.up h)
      have HBS := Lib.hid (fun (X : World) (h : Below wr.heap.size wr X) => hBS.up h)
      have HI1 := Lib.hid (image_ownN As kb cs' so (by omega) wr hBS)
      have hin : ∀ X, imageP so = some X → readP ow X = some so := fun X h => readP_undone ow HMAY.out so X HHAS.out h
      have hu : ∀ X, imageP so = some X → U16 X ∧ X.length ≤ 9000 := fun X h => ⟨image_u16 so X h, by
        obtain ⟨y, _, hy, hyl⟩ := image_some so X h
        rw [hy]
        simp
        omega⟩
      have HIN := Lib.hid hin
      have HU := Lib.hid hu
      obtain ⟨o1, ho1⟩ : ∃ o, imageP so = o := ⟨_, rfl⟩
      rw [ho1] at HI1
      have HO1 := Lib.hid ho1
      obtain ⟨o2, ho2⟩ : ∃ o, readP ds r = o := ⟨_, rfl⟩
      have HO2 := Lib.hid ho2
      have HR2 := Lib.hid (fun (X : World) (h : Below w.heap.size w X) => read_own Ar nr cr r Ad nd cd ds X (HR.out X h) HXR.out (by omega) (HD.out X h))
      simp only [ho2] at HR2
      have himg2 : ∀ z, o2 = some z → imageP z = some r ∧ z.length ≤ 10000 := fun z hz => by
        have h := readP_image ds r z (ho2.trans hz)
        obtain ⟨y, hy, _, hyl⟩ := image_some z r h
        have := partsP_ids z y hy
        exact ⟨h, by omega⟩
      have HIMG2 := Lib.hid himg2
      clear hBS hDO ho1 ho2 hin hu himg2
      go_wp2_with fail
      refine HI1.out.mono ?_
      rintro e w5 ⟨A5, n5, c5, e5, rfl, he5, hs5, hb5, hk5⟩
      have hb5w := hbr.trans (hb5.mono hbr.size)
      have HE5 := Lib.hid he5
      have hx5 : ∃ X, SlI w5 w5.heap.size .u16 A5 n5 c5 X ∧ U16 X ∧ n5 ≤ 9000 ∧ (o1 = none ∨ o1 = some X) := by
        cases o1 with
        | none =>
          obtain ⟨rfl, rfl, rfl⟩ := hk5 rfl
          exact ⟨[], SlI.nil _ _ _, (fun x hx => by cases hx), by omega, Or.inl rfl⟩
        | some X =>
          have h := HU.out X HO1.out
          have h2 := hs5 X rfl
          exact ⟨X, h2, h.1, by rw [← h2.1]; exact h.2, Or.inr rfl⟩
      obtain ⟨X, hX, hXu, hX9, hXo⟩ := hx5
      have HR1 := Lib.hid (read_own A5 n5 c5 X Ao kd co ow w5 hX hXu (by omega) (HDO.out w5 hb5))
      have HXO := Lib.hid hXo
      clear he5 hs5 hk5 hX hXu hXo
      obtain ⟨o3, ho3⟩ : ∃ o, readP ow X = o := ⟨_, rfl⟩
      rw [ho3] at HR1
      have HO3 := Lib.hid ho3
      clear ho3
      go_wp2_with fail
      refine HR1.out.mono ?_
      rintro e w6 ⟨A6, n6, c6, e6, rfl, he6, hs6, hk6, hb6⟩
      have hb6r := hb5.trans (hb6.mono hb5.size)
      have hb6w := hbr.trans (hb6r.mono hbr.size)
      have HE6 := Lib.hid he6
      have HS6 := Lib.hid hs6
      clear he6 hs6 hk6
      cases o1 with
      | none =>
        obtain rfl : e5 = 260 := HE5.out
        go_wp2_with fail
        refine (HR2.out w6 hb6w).mono ?_
        rintro e w7 ⟨A7, n7, c7, e7, rfl, he7, hs7, hk7, hb7⟩
        have hb7w := hb6w.trans (hb7.mono hb6w.size)
        have HE7 := Lib.hid he7
        have hz7 : ∃ z, BkI w7 w7.heap.size A7 n7 c7 z ∧ z.length ≤ 10000 ∧ (o2 = none ∨ (o2 = some z ∧ imageP z = some r)) := by
          cases o2 with
          | none =>
            obtain ⟨rfl, rfl, rfl⟩ := hk7 rfl
            exact ⟨[], bk_nil w7, by simp, Or.inl rfl⟩
          | some z =>
            have h := HIMG2.out z rfl
            exact ⟨z, hs7 z rfl, h.2, Or.inr ⟨rfl, h.1⟩⟩
        obtain ⟨z, hz, hzl, hzo⟩ := hz7
        have hnz := hz.1
        have HI2 := Lib.hid (image_ownN A7 n7 c7 z (by omega) w7 hz)
        obtain ⟨o4, ho4⟩ : ∃ o, imageP z = o := ⟨_, rfl⟩
        rw [ho4] at HI2 hzo
        have HZO := Lib.hid hzo
        clear he7 hs7 hk7 hz hzl hzo hnz ho4
        go_wp2_with fail
        refine HI2.out.mono ?_
        rintro e w9 ⟨A9, n9, c9, e9, rfl, he9, hs9, hb9, _⟩
        have hb9w := hb7w.trans (hb9.mono hb7w.size)
        have HE9 := Lib.hid he9
        have HS9 := Lib.hid hs9
        clear he9 hs9
        cases o2 with
        | none =>
          obtain rfl : e7 = 260 := HE7.out
          go_wp2_with fail
          go_ret
          exact ⟨rfl, hb9w⟩
        | some z2 =>
          obtain rfl : e7 = 0 := HE7.out
          have h4 : o4 = some r := by
            rcases HZO.out with h | h
            · cases h
            · exact h.2
          subst h4
          obtain rfl : e9 = 0 := HE9.out
          have HSR := Lib.hid (same_sl A9 Ar n9 nr c9 cr r r w9 (HS9.out r rfl) (HR.out w9 hb9w))
          rw [decide_eq_true rfl] at HSR
          go_wp2_with fail
          refine HSR.out.mono ?_
          rintro e w10 ⟨rfl, m10, hw10⟩
          have hb10 : Below w.heap.size w w10 := by rw [hw10]; exact below_drewN hb9w _
          clear hw10
          go_wp2_with fail
          go_ret
          exact ⟨rfl, hb10⟩
      | some X1 =>
        obtain rfl : e5 = 0 := HE5.out
        have hXX : X = X1 := by
          rcases HXO.out with h | h
          · cases h
          · injection h with h; exact h.symm
        subst hXX
        have h3 : o3 = some so := HO3.out.symm.trans (HIN.out X HO1.out)
        subst h3
        obtain rfl : e6 = 0 := HE6.out
        have HSM := Lib.hid (rsame_any A6 As n6 kb c6 cs' so so w6 (HS6.out so rfl) (HBS.out w6 hb6r))
        rw [decide_eq_true rfl] at HSM
        go_wp2_with fail
        refine HSM.out.mono ?_
        rintro e w8 ⟨rfl, hb8⟩
        have hb8w := hb6w.trans (hb8.mono hb6w.size)
        go_wp2_with fail
        refine (HR2.out w8 hb8w).mono ?_
        rintro e w7 ⟨A7, n7, c7, e7, rfl, he7, hs7, hk7, hb7⟩
        have hb7w := hb8w.trans (hb7.mono hb8w.size)
        have HE7 := Lib.hid he7
        have hz7 : ∃ z, BkI w7 w7.heap.size A7 n7 c7 z ∧ z.length ≤ 10000 ∧ (o2 = none ∨ (o2 = some z ∧ imageP z = some r)) := by
          cases o2 with
          | none =>
            obtain ⟨rfl, rfl, rfl⟩ := hk7 rfl
            exact ⟨[], bk_nil w7, by simp, Or.inl rfl⟩
          | some z =>
            have h := HIMG2.out z rfl
            exact ⟨z, hs7 z rfl, h.2, Or.inr ⟨rfl, h.1⟩⟩
        obtain ⟨z, hz, hzl, hzo⟩ := hz7
        have hnz := hz.1
        have HI2 := Lib.hid (image_ownN A7 n7 c7 z (by omega) w7 hz)
        obtain ⟨o4, ho4⟩ : ∃ o, imageP z = o := ⟨_, rfl⟩
        rw [ho4] at HI2 hzo
        have HZO := Lib.hid hzo
        clear he7 hs7 hk7 hz hzl hzo hnz ho4
        go_wp2_with fail
        refine HI2.out.mono ?_
        rintro e w9 ⟨A9, n9, c9, e9, rfl, he9, hs9, hb9, _⟩
        have hb9w := hb7w.trans (hb9.mono hb7w.size)
        have HE9 := Lib.hid he9
        have HS9 := Lib.hid hs9
        clear he9 hs9
        cases o2 with
        | none =>
          obtain rfl : e7 = 260 := HE7.out
          go_wp2_with fail
          go_ret
          exact ⟨rfl, hb9w⟩
        | some z2 =>
          obtain rfl : e7 = 0 := HE7.out
          have h4 : o4 = some r := by
            rcases HZO.out with h | h
            · cases h
            · exact h.2
          subst h4
          obtain rfl : e9 = 0 := HE9.out
          have HSR := Lib.hid (same_sl A9 Ar n9 nr c9 cr r r w9 (HS9.out r rfl) (HR.out w9 hb9w))
          rw [decide_eq_true rfl] at HSR
          go_wp2_with fail
          refine HSR.out.mono ?_
          rintro e w10 ⟨rfl, m10, hw10⟩
          have hb10 : Below w.heap.size w w10 := by rw [hw10]; exact below_drewN hb9w _
          clear hw10
          go_wp2_with fail
          go_ret
          exact ⟨rfl, hb10⟩
end Go.Proofs.Ytnnknnaimabehaa
