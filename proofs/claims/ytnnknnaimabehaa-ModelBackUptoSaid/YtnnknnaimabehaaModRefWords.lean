/- kilowattref26.Words: a block's words. -/
import Derived.Test.YtnnknnaimabehaaModRefLen
import Derived.Test.YtnnknnaimabehaaModRefWord
namespace Go.Proofs.Ytnnknnaimabehaa
open Go.RowKit
set_option linter.unusedVariables false
set_option maxRecDepth 100000
theorem wpost_none {w w' : World} (hb : Below w.heap.size w w') {A : Option Addr} {n c : Nat} : WPost w none (.returned (.tuple #[.slice A n c, .bool false])) w' := ⟨A, n, c, rfl, (fun l h => by cases h), hb⟩
theorem wpost_some {w w' : World} (hb : Below w.heap.size w w') {A : Option Addr} {n c : Nat} {l : List Int} (h : SlI w' w'.heap.size .u16 A n c l) (hf : ∀ a, A = some a → w.heap.size ≤ a.block) : WPost w (some l) (.returned (.tuple #[.slice A n c, .bool true])) w' := ⟨A, n, c, rfl, (fun l' h' => by injection h' with h'; rw [← h']; exact ⟨h, hf⟩), hb⟩
set_option maxHeartbeats 4000000 in
theorem rwords_blk (id : Int) (A : Option Addr) (n c : Nat) (B : Option Addr) (n' d : Nat) (ps : List PtP) (vs : List ValP) (hvs : ∀ v ∈ vs, ValIn v) (w : World) (hP : PtI w w.heap.size A n c ps) (hV : VlI w w.heap.size B n' d vs) :
    Calls Try.prog 14 #[.agg #[.int .i64 id, .slice A n c, .slice B n' d]] w (WPost w (blkW id ps vs)) := by
  obtain ⟨i0, hi, hz0, hz1, hz2⟩ := info_parts infoW16
  obtain ⟨w1, hw1⟩ : ∃ W, w.alloc (.cells #[.int .i64 id, .slice A n c, .slice B n' d] 36) = W := ⟨_, rfl⟩
  have hb1 : Below w.heap.size w w1 := by rw [← hw1]; exact (Below.refl _ w).alloc (Nat.le_refl _) _
  have hD1 : Held w1 w.heap.size 36 #[.int .i64 id, .slice A n c, .slice B n' d] := by rw [← hw1]; exact Held.new w _ _
  have hl := hP.1
  have hl2 := hV.1
  have HP := Lib.hid (fun (X : World) (h : Below w.heap.size w X) => hP.up h)
  have HV := Lib.hid (fun (X : World) (h : Below w.heap.size w X) => hV.up h)
  have HL := Lib.hid (And.intro hl hl2)
  have HVS := Lib.hid hvs
  have HD := Lib.hid (fun (X : World) (h : Below w1.heap.size w1 X) => hD1.below h hD1.lt)
  have HLEN := Lib.hid (rlen_any id A n c ps w1 (hP.up hb1))
  have d0 : w1.cell? ⟨w.heap.size, 0, none⟩ = some (.int .i64 id) := hD1.cell 0
  have d1 : w1.cell? ⟨w.heap.size, 1, none⟩ = some (.slice A n c) := hD1.cell 1
  have d2 : w1.cell? ⟨w.heap.size, 2, none⟩ = some (.slice B n' d) := hD1.cell 2
  have hlt0 := hD1.lt
  clear hP hV hl hl2 hvs hD1
  obtain ⟨o, ho⟩ : ∃ o, blkW id ps vs = o := ⟨_, rfl⟩
  rw [ho]
  have HO := Lib.hid ho
  clear ho
  cases hdf : defB id ps with
  | false =>
    have h : o = none := by rw [← HO.out]; unfold blkW; rw [if_neg (fun h => by rw [hdf] at h; cases h.1)]
    subst h
    rw [hdf] at HLEN
    have HLEN2 : Hid (Calls Try.prog 16 #[.agg #[.int .i64 id, .slice A n c]] w1 fun e w' => e = .returned (.int .i64 (-1)) ∧ Below w1.heap.size w1 w') := Lib.hid (by simpa using HLEN.out)
    clear HLEN hdf
    go_in
    go_wp2_with fail
    refine HLEN2.out.mono ?_
    rintro e w2 ⟨rfl, hb2⟩
    go_wp2_with fail
    go_ret2
    exact wpost_none (hb1.trans (hb2.mono hb1.size))
  | true =>
    have hall : ps.all ptB = true := by unfold defB at hdf; rw [Bool.and_eq_true] at hdf; exact hdf.2
    have hn50 : n ≤ 50 := by
      unfold defB at hdf
      rw [Bool.and_eq_true] at hdf
      have := of_decide_eq_true hdf.1
      rw [HL.out.1] at this
      omega
    rw [hdf] at HLEN
    have HLEN2 : Hid (Calls Try.prog 16 #[.agg #[.int .i64 id, .slice A n c]] w1 fun e w' => e = .returned (.int .i64 (sumP ps)) ∧ Below w1.heap.size w1 w') := Lib.hid (by simpa using HLEN.out)
    have hs0 : ¬ sumP ps < 0 := by have := sumP_in ps hall; omega
    obtain ⟨S, hS⟩ : ∃ S, sumP ps = S := ⟨_, rfl⟩
    rw [hS] at HLEN2 hs0
    have HALL := Lib.hid hall
    have HDF := Lib.hid hdf
    clear HLEN hdf hall hS
    go_in
    go_wp2_with fail
    refine HLEN2.out.mono ?_
    rintro e w2 ⟨rfl, hb2⟩
    have hK2 := HD.out w2 hb2
    have hb2w := hb1.trans (hb2.mono hb1.size)
    have e1 : w2.cell? ⟨w.heap.size, 1, none⟩ = some (.slice A n c) := hK2.cell 1
    have e2 : w2.cell? ⟨w.heap.size, 2, none⟩ = some (.slice B n' d) := hK2.cell 2
    clear hK2 d0 d1 d2
    by_cases hnn : n' = n
    · subst hnn
      have hbw : blkW id ps vs = seqW ps vs ps.length := by unfold blkW; rw [if_pos ⟨HDF.out, HL.out.2.trans HL.out.1.symm⟩]
      have HBW := Lib.hid hbw
      clear hbw
      go_wp2_with fail
      have hown0 : w2.ownsRow w2.heap.size 40 1 (.slice none 0 0) 0 (([] : List Int).map (Value.int .u16)) := World.ownsRow_nil _ _ _ _
      go_loopw [4, 5] (fun s4 s5 wx => ∃ (j : Nat) (L : List Int), j ≤ n' ∧ s5 = .int .i64 j ∧ seqW ps vs j = some L ∧ wx.ownsRow w2.heap.size 40 1 s4 L.length (L.map (Value.int .u16)) ∧ Below w2.heap.size w2 wx) (fun _ s5 _ => n' - (intOf s5).toNat)
      case atStart => exact ⟨0, [], Nat.zero_le _, rfl, rfl, hown0, Below.refl _ _⟩
      case round =>
        obtain ⟨j, L, hj, rfl, hL, hrow, hbr⟩ := hrel
        clear e1 e2 hown0
        have hbrx := hb2.trans (hbr.mono hb2.size)
        have hbrw := hb1.trans (hbrx.mono hb1.size)
        have hK := HD.out wr hbrx
        have f1 : wr.cell? ⟨w.heap.size, 1, none⟩ = some (.slice A n' c) := hK.cell 1
        have f2 : wr.cell? ⟨w.heap.size, 2, none⟩ = some (.slice B n' d) := hK.cell 2
        have HLL := Lib.hid hL
        have hLl := (seqW_len ps vs HALL.out j L hL (by rw [HL.out.1]; exact hj)).2
        clear hL hK
        by_cases hlt : j < n'
        · obtain ⟨⟨k, m⟩, hp⟩ : ∃ p, ps[j]? = some p := ⟨_, List.getElem?_eq_getElem (by rw [HL.out.1]; exact hlt)⟩
          obtain ⟨⟨u, i, s⟩, hv⟩ : ∃ v, vs[j]? = some v := ⟨_, List.getElem?_eq_getElem (by rw [HL.out.2]; exact hlt)⟩
          obtain ⟨g, off, rfl, hg, hc⟩ := (HP.out wr hbrw).2.2.2.2 (by omega)
          obtain ⟨g2, off2, rfl, hg2, hc2⟩ := (HV.out wr hbrw).2.2.2.2 (by omega)
          obtain ⟨p0, p1⟩ := hc j _ hp
          obtain ⟨v0, v1, v2⟩ := hc2 j _ hv
          dsimp only at p0 p1 v0 v1 v2
          have hpb : ptB ⟨k, m⟩ = true := List.all_eq_true.1 HALL.out _ (List.mem_of_getElem? hp)
          have hvi := HVS.out _ (List.mem_of_getElem? hv)
          have HC := Lib.hid (fun (X : World) => rword_any k m ⟨u, i, s⟩ hpb hvi X)
          unfold valV at HC
          dsimp only at HC
          have HNX := Lib.hid (seqW_next ps vs j L _ _ HLL.out hp hv)
          have hpl := pt_len ⟨k, m⟩ ⟨u, i, s⟩
          have hp125 := (ptB_in hpb).2
          dsimp only at hpl hp125
          obtain ⟨oo, hoo⟩ : ∃ o, ptWords ⟨k, m⟩ ⟨u, i, s⟩ = o := ⟨_, rfl⟩
          rw [hoo] at HC HNX hpl
          have HPL := Lib.hid hpl
          clear hc hc2 hp hv hpb hvi hoo hpl
          have hwb : w.heap.size < wr.heap.size := Nat.lt_of_lt_of_le hlt0 (Nat.le_trans hb2.size hbr.size)
          have hltI : (j : Int) < (n' : Int) := by omega
          go_upto_region 7 with (fail)
          obtain ⟨wd7, hwd7⟩ : ∃ W : World, wr.drew = W := ⟨_, rfl⟩
          have hS : Below wr.heap.size wr wd7 := by rw [← hwd7]; exact (Below.refl _ _).drew
          refine wp_region_held (S := Below wr.heap.size wr) (by kernel_rfl) ?_
          change wpAnyH _ _ _ _ _ _ _ _ wr.drew
          rw [hwd7]
          clear hwd7
          refine wpAnyH_take (i := 0) (v := ?v0_1) rfl (by kernel_rfl) (by kernel_rfl) (by kernel_rfl) (fun _ _ _ h => h) (Or.inl ⟨by rfl, ?y0_1⟩) hS ?r0_1
          case y0_1 =>
            rintro W hH
            go_simp
            with_reducible rfl
          simp only [Act.put]
          try simp only [List.getElem_toArray, List.getElem_cons_zero]
          refine wpAnyH_take (i := 1) (v := ?v1_2) rfl (by kernel_rfl) (by kernel_rfl) (by kernel_rfl) (fun _ _ _ h => h) (Or.inl ⟨by rfl, ?y1_2⟩) hS ?r1_2
          case y1_2 =>
            rintro W hH
            go_simp
            with_reducible rfl
          simp only [Act.put]
          try simp only [List.getElem_toArray, List.getElem_cons_succ, List.getElem_cons_zero]
          refine wpAnyH_take (i := 2) (v := ?v2_3) rfl (by kernel_rfl) (by kernel_rfl) (by kernel_rfl) (fun _ _ _ h => h) (Or.inl ⟨by rfl, ?y2_3⟩) hS ?r2_3
          case y2_3 =>
            rintro W hH
            have q1 := (hH.cell (p := ⟨w.heap.size, 1, none⟩) hwb).trans f1
            have q2 := (hH.cell (p := ⟨w.heap.size, 2, none⟩) hwb).trans f2
            have q3 := (hH.cell (p := ⟨g, off + j * 2, none⟩) hg).trans p0
            have q4 := (hH.cell (p := ⟨g, off + j * 2 + 1, none⟩) hg).trans p1
            have q5 := (hH.cell (p := ⟨g2, off2 + j * 3, none⟩) hg2).trans v0
            have q6 := (hH.cell (p := ⟨g2, off2 + j * 3 + 1, none⟩) hg2).trans v1
            have q7 := (hH.cell (p := ⟨g2, off2 + j * 3 + 2, none⟩) hg2).trans v2
            go_simp
            with_reducible rfl
          simp only [Act.put]
          try simp only [List.getElem_toArray, List.getElem_cons_succ, List.getElem_cons_zero]
          refine wpAnyH_take (i := 3) (v := ?v3_4) rfl (by kernel_rfl) (by kernel_rfl) (by kernel_rfl) (fun _ _ _ h => h) (Or.inl ⟨by rfl, ?y3_4⟩) hS ?r3_4
          case y3_4 =>
            rintro W hH
            go_simp
            with_reducible rfl
          simp only [Act.put]
          try simp only [List.getElem_toArray, List.getElem_cons_succ, List.getElem_cons_zero]
          refine wpAnyH_take (i := 4) (v := ?v4_5) rfl (by kernel_rfl) (by kernel_rfl) (by kernel_rfl) (fun _ _ _ h => h) (Or.inl ⟨by rfl, ?y4_5⟩) hS ?r4_5
          case y4_5 =>
            rintro W hH
            go_simp
            with_reducible rfl
          simp only [Act.put]
          try simp only [List.getElem_toArray, List.getElem_cons_succ, List.getElem_cons_zero]
          refine wpAnyH_take (i := 5) (v := ?v5_6) rfl (by kernel_rfl) (by kernel_rfl) (by kernel_rfl) (fun _ _ _ h => h) (Or.inl ⟨by rfl, ?y5_6⟩) hS ?r5_6
          case y5_6 =>
            rintro W hH
            have q1 := (hH.cell (p := ⟨w.heap.size, 1, none⟩) hwb).trans f1
            have q2 := (hH.cell (p := ⟨w.heap.size, 2, none⟩) hwb).trans f2
            have q3 := (hH.cell (p := ⟨g, off + j * 2, none⟩) hg).trans p0
            have q4 := (hH.cell (p := ⟨g, off + j * 2 + 1, none⟩) hg).trans p1
            have q5 := (hH.cell (p := ⟨g2, off2 + j * 3, none⟩) hg2).trans v0
            have q6 := (hH.cell (p := ⟨g2, off2 + j * 3 + 1, none⟩) hg2).trans v1
            have q7 := (hH.cell (p := ⟨g2, off2 + j * 3 + 2, none⟩) hg2).trans v2
            go_simp
            with_reducible rfl
          simp only [Act.put]
          try simp only [List.getElem_toArray, List.getElem_cons_succ, List.getElem_cons_zero]
          refine wpAnyH_take (i := 6) (v := ?v6_7) rfl (by kernel_rfl) (by kernel_rfl) (by kernel_rfl) (fun _ _ _ h => h) (Or.inl ⟨by rfl, ?y6_7⟩) hS ?r6_7
          case y6_7 =>
            rintro W hH
            go_simp
            with_reducible rfl
          simp only [Act.put]
          try simp only [List.getElem_toArray, List.getElem_cons_succ, List.getElem_cons_zero]
          refine wpAnyH_take (i := 7) (v := ?v7_8) rfl (by kernel_rfl) (by kernel_rfl) (by kernel_rfl) (fun _ _ _ h => h) (Or.inl ⟨by rfl, ?y7_8⟩) hS ?r7_8
          case y7_8 =>
            rintro W hH
            have q1 := (hH.cell (p := ⟨w.heap.size, 1, none⟩) hwb).trans f1
            have q2 := (hH.cell (p := ⟨w.heap.size, 2, none⟩) hwb).trans f2
            have q3 := (hH.cell (p := ⟨g, off + j * 2, none⟩) hg).trans p0
            have q4 := (hH.cell (p := ⟨g, off + j * 2 + 1, none⟩) hg).trans p1
            have q5 := (hH.cell (p := ⟨g2, off2 + j * 3, none⟩) hg2).trans v0
            have q6 := (hH.cell (p := ⟨g2, off2 + j * 3 + 1, none⟩) hg2).trans v1
            have q7 := (hH.cell (p := ⟨g2, off2 + j * 3 + 2, none⟩) hg2).trans v2
            go_simp
            with_reducible rfl
          simp only [Act.put]
          try simp only [List.getElem_toArray, List.getElem_cons_succ, List.getElem_cons_zero]
          refine wpAnyH_take (i := 8) (v := ?v8_9) rfl (by kernel_rfl) (by kernel_rfl) (by kernel_rfl) (fun _ _ _ h => h) (Or.inl ⟨by rfl, ?y8_9⟩) hS ?r8_9
          case y8_9 =>
            rintro W hH
            go_simp
            with_reducible rfl
          simp only [Act.put]
          try simp only [List.getElem_toArray, List.getElem_cons_succ, List.getElem_cons_zero]
          refine wpAnyH_take (i := 9) (v := ?v9_10) rfl (by kernel_rfl) (by kernel_rfl) (by kernel_rfl) (fun _ _ _ h => h) (Or.inl ⟨by rfl, ?y9_10⟩) hS ?r9_10
          case y9_10 =>
            rintro W hH
            go_simp
            with_reducible rfl
          simp only [Act.put]
          try simp only [List.getElem_toArray, List.getElem_cons_succ, List.getElem_cons_zero]
          refine wpAnyH_take (i := 10) (v := ?v10_11) rfl (by kernel_rfl) (by kernel_rfl) (by kernel_rfl) (fun _ _ _ h => h) (Or.inl ⟨by rfl, ?y10_11⟩) hS ?r10_11
          case y10_11 =>
            rintro W hH
            have q1 := (hH.cell (p := ⟨w.heap.size, 1, none⟩) hwb).trans f1
            have q2 := (hH.cell (p := ⟨w.heap.size, 2, none⟩) hwb).trans f2
            have q3 := (hH.cell (p := ⟨g, off + j * 2, none⟩) hg).trans p0
            have q4 := (hH.cell (p := ⟨g, off + j * 2 + 1, none⟩) hg).trans p1
            have q5 := (hH.cell (p := ⟨g2, off2 + j * 3, none⟩) hg2).trans v0
            have q6 := (hH.cell (p := ⟨g2, off2 + j * 3 + 1, none⟩) hg2).trans v1
            have q7 := (hH.cell (p := ⟨g2, off2 + j * 3 + 2, none⟩) hg2).trans v2
            go_simp
            with_reducible rfl
          simp only [Act.put]
          try simp only [List.getElem_toArray, List.getElem_cons_succ, List.getElem_cons_zero]
          refine wpAnyH_ready (rs := [11]) (by kernel_rfl) (by simp) ?_
          refine AllReadyH.cons rfl (fun K' hK' => ?_) AllReadyH.nil
          go_simp
          refine (HC.out _).mono ?_
          rintro e w5 ⟨Ao, nn, co, rfl, hs5, hb5⟩
          have hS5 := hS.trans (hb5.mono hS.size)
          go_simp
          refine hK'.out _ _ hS5 (fun hS => ?_)
          clear hK' K'
          refine wpAnyH_take (i := 12) (v := ?v12_12) rfl (by kernel_rfl) (by kernel_rfl) (by kernel_rfl) (fun _ _ _ h => h) (Or.inl ⟨by rfl, ?y12_12⟩) hS ?r12_12
          case y12_12 =>
            rintro W hH
            go_simp
            with_reducible rfl
          simp only [Act.put]
          try simp only [List.getElem_toArray, List.getElem_cons_succ, List.getElem_cons_zero]
          refine wpAnyH_take (i := 13) (v := ?v13_13) rfl (by kernel_rfl) (by kernel_rfl) (by kernel_rfl) (fun _ _ _ h => h) (Or.inl ⟨by rfl, ?y13_13⟩) hS ?r13_13
          case y13_13 =>
            rintro W hH
            go_simp
            with_reducible rfl
          simp only [Act.put]
          try simp only [List.getElem_toArray, List.getElem_cons_succ, List.getElem_cons_zero]
          refine wpAnyH_take (i := 14) (v := ?v14_14) rfl (by kernel_rfl) (by kernel_rfl) (by kernel_rfl) (fun _ _ _ h => h) (Or.inl ⟨by rfl, ?y14_14⟩) hS ?r14_14
          case y14_14 =>
            rintro W hH
            go_simp
            with_reducible rfl
          simp only [Act.put]
          try simp only [List.getElem_toArray, List.getElem_cons_succ, List.getElem_cons_zero]
          refine wpAnyH_take (i := 15) (v := ?v15_15) rfl (by kernel_rfl) (by kernel_rfl) (by kernel_rfl) (fun _ _ _ h => h) (Or.inl ⟨by rfl, ?y15_15⟩) hS ?r15_15
          case y15_15 =>
            rintro W hH
            go_simp
            with_reducible rfl
          simp only [Act.put]
          try simp only [List.getElem_toArray, List.getElem_cons_succ, List.getElem_cons_zero]
          refine wpAnyH_take (i := 16) (v := ?v16_16) rfl (by kernel_rfl) (by kernel_rfl) (by kernel_rfl) (fun _ _ _ h => h) (Or.inl ⟨by rfl, ?y16_16⟩) hS ?r16_16
          case y16_16 =>
            rintro W hH
            go_simp
            with_reducible rfl
          simp only [Act.put]
          try simp only [List.getElem_toArray, List.getElem_cons_succ, List.getElem_cons_zero]
          refine wpAnyH_done (by kernel_rfl) ?_ _
          have hb5r : Below wr.heap.size wr w5 := hS5
          have hbx5 := hbr.trans (hb5r.mono hbr.size)
          have hrow5 := mown_up hrow hb5r
          have hz5 := hbx5.size
          cases oo with
          | none =>
            have h : o = none := by
              rw [← HO.out, HBW.out]
              have h2 := seqW_stop ps vs (j + 1) HNX.out (ps.length - (j + 1))
              rw [show j + 1 + (ps.length - (j + 1)) = ps.length by have := HL.out.1; omega] at h2
              exact h2
            subst h
            have hos : (none : Option (List Int)).isSome = false := rfl
            rw [hos]
            go_wp2_with fail
            go_ret2
            exact wpost_none (hb1.trans ((hb2.trans (hbx5.mono hb2.size)).mono hb1.size))
          | some M =>
            have hos : (some M : Option (List Int)).isSome = true := rfl
            rw [hos]
            have hsM := hs5 M rfl
            have hMl := hsM.1
            have hM125 := HPL.out M rfl
            have HA1 := Lib.hid (show L.length + nn ≤ maxLen ∧ (L.length + nn) * 2 ≤ 140737488355328 by unfold maxLen; omega)
            go_wp2_with ((with_reducible refine at_append ?_); refine wpList_append_sl w5 rfl (.tmp 46) (.tmp 47) 25 rfl w2.heap.size 40 i0 (.int .u16 0) 2 Try.underlying25 hi hz0 hz1 hz2 rfl _ L.length _ rfl hrow5 w5.heap.size .u16 Ao nn co M rfl hsM HA1.out.1 HA1.out.2 hz5 ?_; intro v6 w6 hO6 hg6 hv6; have hb6 := hbx5.grown hg6 hz5 (fun B hB => (hrow5.lt B hB).1); clear hg6 hv6)
            go_roundw
            case rel =>
              subst hMl
              exact ⟨j + 1, L ++ M, by omega, by go_num, HNX.out, by rw [List.map_append, List.length_append]; exact hO6, hb6⟩
            case measure => simp [intOf]; omega
        · obtain rfl : j = n' := by omega
          have h : o = some L := by rw [← HO.out, HBW.out, HL.out.1]; exact HLL.out
          subst h
          obtain ⟨A9, c9, rfl, hs9⟩ := SlI.of_own hrow
          have hfr : ∀ a, A9 = some a → w.heap.size ≤ a.block := fun a e => by
            subst e
            have h1 := (hrow.lt a.block rfl).1
            have h2 := hb2w.size
            omega
          clear hrow
          go_wp2
          go_ret2
          exact wpost_some hbrw hs9 hfr
    · have h : o = none := by rw [← HO.out]; unfold blkW; rw [if_neg (fun h => hnn (by have := h.2; rw [HL.out.1, HL.out.2] at this; exact this))]
      subst h
      have t1 : ((n' : Int) != (n : Int)) = true := by simp; omega
      clear hnn
      go_wp2_with fail
      go_ret2
      exact wpost_none hb2w
end Go.Proofs.Ytnnknnaimabehaa
